/-
  More small laws: slices of structs that came in; a slice of bytes copied. A call of a Go function at an operation of a region that draws its order. The wheel in memory; within, Now, Len. The wheel: Left, Cancel, put. The wheel: put.
-/
import Derived.Test.YtmkkeglcjbogcaaProg
import Derived.Deep.DeepCutAuto
import Derived.Deep.RegionLaw
import Derived.Test.YtmkkeglcjbogcaaMad794d42
set_option linter.unusedVariables false
set_option linter.unusedSimpArgs false
namespace Go.Proofs.Ytmkkeglcjbogcaa
open Go.RowKit

/-- A slice of elements of sz cells that reads as xs. -/
def SlAt {α : Type} (enc : α → List Value) (sz : Nat) (W : World) (v : Value) (xs : List α) : Prop :=
  ∃ A cap, v = .slice A xs.length cap ∧ xs.length ≤ cap ∧ cap ≤ maxLen ∧ (0 < xs.length → ∃ g off, A = some ⟨g, off, none⟩ ∧ g < W.heap.size ∧
    ∀ i (h : i < xs.length) j, j < sz → W.cell? ⟨g, off + i * sz + j, none⟩ = (enc xs[i])[j]?)

/-- Append of a slice without elements changes nothing. -/
theorem run_append_empty {P : Program} {w : World} {base : Nat} {t ty e : TypeId} {i : TypeInfo} {size : Nat} (ht : P.underlying t = some (.slice e)) (hi : P.info? e = some i) {v : Value} {n : Nat} {xs : List Value} (hown : w.ownsRow base e size v n xs) (A : Option Addr) (c : Nat) :
    (Builtin.append_ #[t, t] ty #[v, .slice A 0 c]).run P w = .ok v w := by
  cases A with
  | none =>
    rcases hown.2 with ⟨rfl, rfl⟩ | ⟨g, cap, cur, rfl, _, _, hnc, _⟩
    · simp [Builtin.append_, run_underlying ht, sizeOf, typeInfo, hi, Builtin.lenOf, Builtin.firstCells]
    · simp [Builtin.append_, run_underlying ht, sizeOf, typeInfo, hi, Builtin.lenOf, Builtin.firstCells, hnc, storeCells]
  | some a =>
    rcases hown.2 with ⟨rfl, rfl⟩ | ⟨g, cap, cur, rfl, _, _, hnc, _⟩
    · simp [Builtin.append_, run_underlying ht, sizeOf, typeInfo, hi, Builtin.lenOf, Builtin.firstCells, loadCells, loadCellsFrom]
    · simp [Builtin.append_, run_underlying ht, sizeOf, typeInfo, hi, Builtin.lenOf, Builtin.firstCells, hnc, storeCells, loadCells, loadCellsFrom]

/-- Append of a slice that lies anywhere, empty or not. -/
theorem wp_app_src {P : Program} {o : Oper} {a : Act} {K : Act → World → Prop} {Q : Exit → Act → World → Prop} {w : World} {t e : TypeId} {size bytes B : Nat} (E : El P t e size bytes) (s x : Operand)
    (ho : o.op = .call { callee := .builtin .append, args := #[s, x], argTypes := #[t, t] }) {v : Value} {n m c : Nat} {A : Option Addr} {xs news : List Value} (hs : a.eval s = v) (hx : a.eval x = .slice A m c)
    (hown : w.ownsRow B e size v n xs) (hl : news.length = m * size) (hnews : 0 < m → ∃ g off, A = some ⟨g, off, none⟩ ∧ ∀ j u, news[j]? = some u → w.cell? ⟨g, off + j, none⟩ = some u) (h1 : ∀ u ∈ news, u.oneCell' = true)
    (h63 : n + m ≤ maxLen) (hbytes : (n + m) * bytes ≤ 140737488355328) (hbase : B ≤ w.heap.size)
    (h : ∀ A' cap w', w'.ownsRow B e size (.slice A' (n + m) cap) (n + m) (xs ++ news) → Frm (fun k => v.ownBlock = some k) w w' → K (a.put o.dst (.slice A' (n + m) cap)) w') : o.wp P a w K Q := by
  obtain ⟨i, z, hi, hz, h2, h3, h4⟩ := E.ex
  by_cases hm : 0 < m
  · obtain ⟨g, off, rfl, hc⟩ := hnews hm
    refine wp_append_lies w s x t ho B e i z size bytes E.ht hi hz h2 h3 h4 E.pos v n xs hs hown ⟨g, off, none⟩ m c news hx hl (fun j u hj => by rw [add_off]; exact hc j u hj) h1 hm h63 hbytes hbase w.heap.size rfl ?_
    intro g cap w' ho' hg' hat hlt
    exact h _ cap w' ho' ((Frm.refl _ _).grown hg' (fun k hk _ => hk))
  · obtain rfl : m = 0 := by omega
    have hn : news = [] := List.eq_nil_of_length_eq_zero (by simpa using hl)
    subst hn
    obtain ⟨A', cap, rfl, _⟩ := row_open hown
    have hr := run_append_empty (P := P) (ty := o.type) E.ht hi hown A c
    unfold Oper.wp execOp
    simp only [ho, resolve, invoke, builtin, Sem.run_bind, Sem.run_pure, Result.andThen_ok, List.map_toArray, List.map_cons, List.map_nil, hs, hx, hr]
    exact h A' cap w (by simpa using hown) (Frm.refl _ _)

theorem wpl_app_src {P : Program} {ops : Array Oper} {rest : List Oper} {o : Oper} {a : Act} {Q : Exit → Act → World → Prop} {w : World} {t e : TypeId} {size bytes B : Nat} (hgd : o.guard = none) (E : El P t e size bytes) (s x : Operand)
    (ho : o.op = .call { callee := .builtin .append, args := #[s, x], argTypes := #[t, t] }) {v : Value} {n m c : Nat} {A : Option Addr} {xs news : List Value} (hs : a.eval s = v) (hx : a.eval x = .slice A m c)
    (hown : w.ownsRow B e size v n xs) (hl : news.length = m * size) (hnews : 0 < m → ∃ g off, A = some ⟨g, off, none⟩ ∧ ∀ j u, news[j]? = some u → w.cell? ⟨g, off + j, none⟩ = some u) (h1 : ∀ u ∈ news, u.oneCell' = true)
    (h63 : n + m ≤ maxLen) (hbytes : (n + m) * bytes ≤ 140737488355328) (hbase : B ≤ w.heap.size)
    (h : ∀ A' cap w', w'.ownsRow B e size (.slice A' (n + m) cap) (n + m) (xs ++ news) → Frm (fun k => v.ownBlock = some k) w w' → wpList P ops Q rest (a.put o.dst (.slice A' (n + m) cap)) w') : wpList P ops Q (o :: rest) a w :=
  wpList_plain hgd fun _ hK => wp_app_src E s x ho hs hx hown hl hnews h1 h63 hbytes hbase fun A' cap w' h2 h3 => hK _ _ (h A' cap w' h2 h3)

theorem step_app_src {P : Program} {ops : Array Oper} {o : Oper} {a : Act} {K : Act → World → Prop} {Q : Exit → Act → World → Prop} {X : Prop} {w : World} {t e : TypeId} {size bytes B : Nat} (hgd : o.guard = none) (E : El P t e size bytes) (s x : Operand)
    (ho : o.op = .call { callee := .builtin .append, args := #[s, x], argTypes := #[t, t] }) {v : Value} {n m c : Nat} {A : Option Addr} {xs news : List Value} (hs : a.eval s = v) (hx : a.eval x = .slice A m c)
    (hown : w.ownsRow B e size v n xs) (hl : news.length = m * size) (hnews : 0 < m → ∃ g off, A = some ⟨g, off, none⟩ ∧ ∀ j u, news[j]? = some u → w.cell? ⟨g, off + j, none⟩ = some u) (h1 : ∀ u ∈ news, u.oneCell' = true)
    (h63 : n + m ≤ maxLen) (hbytes : (n + m) * bytes ≤ 140737488355328) (hbase : B ≤ w.heap.size)
    (h : ∀ A' cap w', w'.ownsRow B e size (.slice A' (n + m) cap) (n + m) (xs ++ news) → Frm (fun k => v.ownBlock = some k) w w' → K (a.put o.dst (.slice A' (n + m) cap)) w') : if Region.wanted o (yielded ops a.tmps) = true then Oper.wp P o a w K Q else X := by
  rw [if_pos (by simp [Region.wanted, hgd])]
  exact wp_app_src E s x ho hs hx hown hl hnews h1 h63 hbytes hbase h

/-- The cells of a list of elements, one behind the other. -/
def cellsOf {α : Type} (enc : α → List Value) (xs : List α) : List Value := xs.flatMap enc
theorem cellsOf_length {α : Type} {enc : α → List Value} {sz : Nat} (hsz : ∀ x, (enc x).length = sz) (xs : List α) : (cellsOf enc xs).length = xs.length * sz := by
  induction xs with
  | nil => simp [cellsOf]
  | cons x r ih => simp only [cellsOf, List.flatMap_cons, List.length_append, hsz, List.length_cons] at ih ⊢; rw [ih, Nat.add_mul]; omega
theorem cellsOf_get {α : Type} {enc : α → List Value} {sz : Nat} (hsz : ∀ x, (enc x).length = sz) (xs : List α) (i j : Nat) (hi : i < xs.length) (hj : j < sz) : (cellsOf enc xs)[i * sz + j]? = (enc xs[i])[j]? := by
  induction xs generalizing i with
  | nil => simp at hi
  | cons x r ih =>
    simp only [cellsOf, List.flatMap_cons] at ih ⊢
    cases i with
    | zero => rw [List.getElem?_append_left (by rw [hsz]; omega)]; simp
    | succ i =>
      rw [List.getElem?_append_right (by rw [hsz, Nat.add_mul]; omega), hsz]
      have := ih i (by simpa using hi)
      rw [show (i + 1) * sz + j - sz = i * sz + j by rw [Nat.add_mul]; omega]
      simpa using this
/-- What append asks of a slice of structs that came in. -/
theorem SlAt.cells {α : Type} {enc : α → List Value} {sz : Nat} {W : World} {v : Value} {xs : List α} (hsz : ∀ x, (enc x).length = sz) (hsz0 : 0 < sz) (h : SlAt enc sz W v xs) :
    ∃ A cap, v = .slice A xs.length cap ∧ (0 < xs.length → ∃ g off, A = some ⟨g, off, none⟩ ∧ ∀ j u, (cellsOf enc xs)[j]? = some u → W.cell? ⟨g, off + j, none⟩ = some u) := by
  obtain ⟨A, cap, rfl, _, _, hc⟩ := h
  refine ⟨A, cap, rfl, fun h0 => ?_⟩
  obtain ⟨g, off, rfl, _, hc⟩ := hc h0
  refine ⟨g, off, rfl, fun j u hu => ?_⟩
  have hj : j < xs.length * sz := by rw [← cellsOf_length hsz]; exact (List.getElem?_eq_some_iff.1 hu).1
  have hi : j / sz < xs.length := Nat.div_lt_of_lt_mul (by rw [Nat.mul_comm]; exact hj)
  have hm : j % sz < sz := Nat.mod_lt _ hsz0
  have hjj : j / sz * sz + j % sz = j := by rw [Nat.mul_comm]; exact Nat.div_add_mod j sz
  have h1 := hc _ hi _ hm
  have h2 := cellsOf_get hsz xs _ _ hi hm
  rw [hjj] at h2
  rw [← h2, hu, Nat.add_assoc, hjj] at h1
  exact h1
/-- A row of one's own, read as a slice. -/
theorem SlAt.of_row {α : Type} {enc : α → List Value} {sz B e : Nat} {W : World} {v : Value} {xs : List α} (hsz : ∀ x, (enc x).length = sz) (h : W.ownsRow B e sz v xs.length (cellsOf enc xs)) : SlAt enc sz W v xs := by
  obtain ⟨A, cap, rfl, h1, h2, h3⟩ := row_open h
  refine ⟨A, cap, rfl, h1, h2, fun h0 => ?_⟩
  obtain ⟨g, rfl, _, ⟨cur, hc⟩, _, hcell⟩ := h3 h0
  refine ⟨g, 0, rfl, lt_of_block hc, fun i hi j hj => ?_⟩
  have hij : i * sz + j < xs.length * sz := by
    have : (i + 1) * sz ≤ xs.length * sz := Nat.mul_le_mul_right _ hi
    rw [Nat.add_mul] at this
    omega
  rw [Nat.zero_add, hcell _ hij, cellsOf_get hsz xs i j hi hj]
theorem SlAt.frm {α : Type} {enc : α → List Value} {sz : Nat} {W W' : World} {v : Value} {xs : List α} (hsz : ∀ x, (enc x).length = sz) (h : SlAt enc sz W v xs) (hf : Frm (fun _ => False) W W') : SlAt enc sz W' v xs := by
  obtain ⟨A, cap, rfl, h1, h2, h3⟩ := h
  refine ⟨A, cap, rfl, h1, h2, fun h0 => ?_⟩
  obtain ⟨g, off, rfl, hg, hc⟩ := h3 h0
  refine ⟨g, off, rfl, Nat.lt_of_lt_of_le hg hf.size, fun i hi j hj => ?_⟩
  have := hc i hi j hj
  rw [List.getElem?_eq_getElem (by rw [hsz]; exact hj)] at this ⊢
  exact hf.cell this (fun h => h)

/-- A byte as a cell. -/
def encB (b : UInt8) : Value := .int .u8 b.toNat
theorem oneB (bs : List UInt8) : ∀ u ∈ bs.map encB, u.oneCell' = true := fun u hu => by
  obtain ⟨b, _, rfl⟩ := List.mem_map.1 hu
  rfl
/-- The bytes of a slice that came in, as append asks for them. -/
def NewsOf (w : World) (A : Option Addr) (news : List Value) : Prop := ∃ g off, A = some ⟨g, off, none⟩ ∧ ∀ j u, news[j]? = some u → w.cell? ⟨g, off + j, none⟩ = some u
theorem NewsOf.frm {S : Nat → Prop} {w w' : World} {A : Option Addr} {news : List Value} (h : NewsOf w A news) (hF : Frm S w w') (hS : ∀ g o, A = some ⟨g, o, none⟩ → ¬ S g) : NewsOf w' A news := by
  obtain ⟨g, off, rfl, hc⟩ := h
  exact ⟨g, off, rfl, fun j u hj => hF.cell (hc j u hj) (hS g off rfl)⟩
theorem NewsOf.grow {w w' : World} {A : Option Addr} {news : List Value} (h : NewsOf w A news) (hF : Frm (fun _ => False) w w') : NewsOf w' A news := h.frm hF (fun _ _ _ h => h)
theorem BytesAt.open_ {w : World} {v : Value} {bs : List UInt8} (h : BytesAt w v bs) : ∃ A cap, v = .slice A bs.length cap ∧ bs.length ≤ cap ∧ cap ≤ maxLen ∧ (0 < bs.length → NewsOf w A (bs.map encB)) := by
  obtain ⟨A, cap, rfl, h1, h2, h3⟩ := h
  refine ⟨A, cap, rfl, h1, h2, fun h0 => ?_⟩
  obtain ⟨g, off, rfl, hc⟩ := h3 h0
  refine ⟨g, off, rfl, fun j u hj => ?_⟩
  have hj' : j < bs.length := by have := (List.getElem?_eq_some_iff.1 hj).1; simpa using this
  rw [hc j hj']
  rw [List.getElem?_map, List.getElem?_eq_getElem hj'] at hj
  simp only [Option.map_some, Option.some.injEq] at hj
  rw [← hj, encB]
  simp [hj']
theorem BytesAt.of_news {w : World} {A : Option Addr} {cap : Nat} {bs : List UInt8} (h1 : bs.length ≤ cap) (h2 : cap ≤ maxLen) (h : 0 < bs.length → NewsOf w A (bs.map encB)) : BytesAt w (.slice A bs.length cap) bs := by
  refine ⟨A, cap, rfl, h1, h2, fun h0 => ?_⟩
  obtain ⟨g, off, rfl, hc⟩ := h h0
  refine ⟨g, off, rfl, fun i hi => hc i _ ?_⟩
  simp [hi, encB]
theorem BytesAt.of_row {w : World} {B e n : Nat} {v : Value} {bs : List UInt8} (h : w.ownsRow B e 1 v n (bs.map encB)) : BytesAt w v bs := by
  have hn : bs.length = n := by have := h.1; simpa using this
  subst hn
  obtain ⟨A, cap, rfl, h1, h2, h3⟩ := row_open h
  refine BytesAt.of_news h1 h2 fun h0 => ?_
  obtain ⟨g, rfl, _, _, _, hc⟩ := h3 h0
  refine ⟨g, 0, rfl, fun j u hj => ?_⟩
  have hj' : j < bs.length := by have := (List.getElem?_eq_some_iff.1 hj).1; simpa using this
  rw [Nat.zero_add, hc j (by omega)]; exact hj
theorem BytesAt.frm {S : Nat → Prop} {w w' : World} {v : Value} {bs : List UInt8} (h : BytesAt w v bs) (hF : Frm S w w') (hS : ∀ k, v.ownBlock = some k → ¬ S k) : BytesAt w' v bs := by
  obtain ⟨A, cap, rfl, h1, h2, h3⟩ := h.open_
  exact .of_news h1 h2 fun h0 => (h3 h0).frm hF (fun g o e => hS g (by rw [e]; rfl))
theorem BytesAt.grow {w w' : World} {v : Value} {bs : List UInt8} (h : BytesAt w v bs) (hF : Frm (fun _ => False) w w') : BytesAt w' v bs := h.frm hF (fun _ _ h => h)
theorem empty_row (w : World) (e size B : Nat) (hB : B ≤ w.heap.size) : (w.alloc (.cells #[] e)).ownsRow B e size (.slice (some ⟨w.heap.size, 0, none⟩) 0 0) 0 [] := row_new rfl (by simp) rfl (by decide) hB

end Go.Proofs.Ytmkkeglcjbogcaa
namespace Go.Proofs.Ytmkkeglcjbogcaa
open Go.RowKit

@[go_sem] theorem World_alloc_drewN (w : World) (n : Nat) (o : Obj) : (w.drewN n).alloc o = (w.alloc o).drewN n := rfl
@[go_sem] theorem World_setCell_drewN (w : World) (n : Nat) (a : Addr) (v : Value) : (w.drewN n).setCell a v = (w.setCell a v).drewN n := rfl

/-- What a call hands on. -/
def CallK (K : Act → World → Prop) (Q : Exit → Act → World → Prop) (a : Act) (d : Option Tmp) (e : Ending) (w : World) : Prop :=
  match e with
  | .returned v => K (a.put d v) w
  | .panicked chain => Q (.panic chain) a w
  | .outgrown => LetsOut Q
theorem CallK.ret {K : Act → World → Prop} {Q : Exit → Act → World → Prop} {a : Act} {d : Option Tmp} {v : Value} {w : World} (h : K (a.put d v) w) : CallK K Q a d (.returned v) w := h

theorem run_enter {P : Program} {f : FuncId} {fn : Func} {c : Code} (hf : P.funcs[f]? = some fn) (hname : (fn.name == "runtime.NumGoroutine") = false) (hb : fn.body = some c) (args : Array Value) (w : World) :
    (callFunc f args).run P w = .ok (.enter f args) w := by
  have h1 : fn.name ≠ "runtime.NumGoroutine" := by simpa using hname
  simp [callFunc, hf, h1, hb]

theorem step_call {P : Program} {ops : Array Oper} {o : Oper} {a : Act} {K : Act → World → Prop} {Q : Exit → Act → World → Prop} {X : Prop} {w : World} (f : FuncId) (hgd : o.guard = none) {xs : Array Operand} {ts : Array TypeId}
    (ho : o.op = .call { callee := .value (.func f), args := xs, argTypes := ts }) {fn : Func} {c : Code} (hf : P.funcs[f]? = some fn) (hname : (fn.name == "runtime.NumGoroutine") = false) (hb : fn.body = some c) {args : Array Value} (hargs' : (xs.toList.map a.eval).toArray = args)
    (h : Calls P f args w (CallK K Q a o.dst)) : if Region.wanted o (yielded ops a.tmps) = true then Oper.wp P o a w K Q else X := by
  rw [if_pos (by simp [Region.wanted, hgd])]
  have hargs : xs.map a.eval = args := by rw [← hargs']; apply Array.ext'; simp
  unfold Oper.wp execOp
  have hr := run_enter hf hname hb args w
  have he : a.eval (.func f) = .func (.func f) #[] #[] := rfl
  simp only [ho, resolve, invoke, he, Sem.run_bind, Sem.run_pure, Result.andThen_ok, hargs, List.map_toArray]
  simp only [Deferred.ofValue, Sem.run_pure, Result.andThen_ok, Array.append_empty, Array.empty_append, hr]
  simp only [Oper.upon]
  refine h.mono fun e w' hk => ?_
  cases e <;> exact hk

/-- 'append([]T{}, src...)'. -/
theorem step_clone {P : Program} {ops : Array Oper} {o : Oper} {a : Act} {K : Act → World → Prop} {Q : Exit → Act → World → Prop} {X : Prop} {w : World} {t e : TypeId} {size bytes B : Nat} (hgd : o.guard = none) (E : El P t e size bytes) (s x : Operand)
    (ho : o.op = .call { callee := .builtin .append, args := #[s, x], argTypes := #[t, t] }) {v : Value} {m c : Nat} {A : Option Addr} {news : List Value} (hs : a.eval s = v) (hx : a.eval x = .slice A m c)
    (hown : w.ownsRow B e size v 0 []) (hl : news.length = m * size) (hnews : 0 < m → NewsOf w A news) (h1 : ∀ u ∈ news, u.oneCell' = true)
    (h63 : m ≤ maxLen) (hbytes : m * bytes ≤ 140737488355328) (hbase : B ≤ w.heap.size)
    (h : ∀ A' cap w', w'.ownsRow B e size (.slice A' m cap) m news → Frm (fun k => v.ownBlock = some k) w w' → K (a.put o.dst (.slice A' m cap)) w') : if Region.wanted o (yielded ops a.tmps) = true then Oper.wp P o a w K Q else X :=
  step_app_src hgd E s x ho hs hx hown hl hnews h1 (by omega) (by rw [Nat.zero_add]; exact hbytes) hbase fun A' cap w' h2 h3 => by
    rw [Nat.zero_add, List.nil_append] at h2
    rw [Nat.zero_add]
    exact h A' cap w' h2 h3
theorem wpl_clone {P : Program} {ops : Array Oper} {rest : List Oper} {o : Oper} {a : Act} {Q : Exit → Act → World → Prop} {w : World} {t e : TypeId} {size bytes B : Nat} (hgd : o.guard = none) (E : El P t e size bytes) (s x : Operand)
    (ho : o.op = .call { callee := .builtin .append, args := #[s, x], argTypes := #[t, t] }) {v : Value} {m c : Nat} {A : Option Addr} {news : List Value} (hs : a.eval s = v) (hx : a.eval x = .slice A m c)
    (hown : w.ownsRow B e size v 0 []) (hl : news.length = m * size) (hnews : 0 < m → NewsOf w A news) (h1 : ∀ u ∈ news, u.oneCell' = true)
    (h63 : m ≤ maxLen) (hbytes : m * bytes ≤ 140737488355328) (hbase : B ≤ w.heap.size)
    (h : ∀ A' cap w', w'.ownsRow B e size (.slice A' m cap) m news → Frm (fun k => v.ownBlock = some k) w w' → wpList P ops Q rest (a.put o.dst (.slice A' m cap)) w') : wpList P ops Q (o :: rest) a w :=
  wpl_app_src hgd E s x ho hs hx hown hl hnews h1 (by omega) (by rw [Nat.zero_add]; exact hbytes) hbase fun A' cap w' h2 h3 => by
    rw [Nat.zero_add, List.nil_append] at h2
    rw [Nat.zero_add]
    exact h A' cap w' h2 h3

end Go.Proofs.Ytmkkeglcjbogcaa
namespace Go.Proofs.Ytmkkeglcjbogcaa
open Go.RowKit
set_option linter.unusedVariables false
set_option linter.unusedSimpArgs false

def ptrW (p : Nat) : Value := .pointer (some ⟨p, 0, none⟩)
def tmC (t : Tm) : Array Value := #[.int .u64 t.due, .int .u64 t.per, .int .i64 t.what]
def tmV (t : Tm) : Value := .agg (tmC t)
/-- A wheel's maps: of numbers, and its slots. -/
def WhM (bw : Nat) (bs : List Nat) (k : Nat) : Prop := k = bw ∨ k ∈ bs
/-- What a wheel's calls may change: its own block, its maps. -/
def WhS (p bw : Nat) (bs : List Nat) (k : Nat) : Prop := k = p ∨ WhM bw bs k
/-- The wheel at block p: n slots, the maps' blocks bs and bw. -/
structure WhAt (w : World) (p n bw : Nat) (bs : List Nat) (s : Wh) : Prop where
  cell : ∃ g cap, w.heap[p]? = some (.cells #[.slice (some ⟨g, 0, none⟩) n cap, .map (some bw), .int .u64 s.now, .int .i64 s.last] 157 (0, 0)) ∧ w.ownsRow 0 158 1 (.slice (some ⟨g, 0, none⟩) n cap) n (bs.map fun b => .map (some b))
  slots : bs.length = n
  pos : 1 ≤ n ∧ n ≤ 4096
  dist : bs.Nodup ∧ bw ∉ bs
  wher : MapP w bw (s.tm.map fun t => (keyI t.no, keyI (t.due % n)))
  slot : ∀ i (h : i < bs.length), MapP w bs[i] ((s.tm.filter fun t => t.due % n == (i : Int)).map fun t => (keyI t.no, tmV t))
theorem map_ne {w : World} {b k : Nat} {m : List (Value × Value)} {c : Array Value} {t : TypeId} {fz : Nat × Nat} (h : MapP w b m) (hk : w.heap[k]? = some (.cells c t fz)) : k ≠ b := by
  rintro rfl
  obtain ⟨es, cl, h2⟩ := h.isMap
  rw [hk] at h2
  cases h2
theorem WhAt.lt {w : World} {p n bw : Nat} {bs : List Nat} {s : Wh} (h : WhAt w p n bw bs s) {k : Nat} (hk : WhS p bw bs k) : k < w.heap.size := by
  rcases hk with rfl | rfl | hk
  · obtain ⟨g, cap, hc, _⟩ := h.cell
    exact lt_of_block hc
  · exact h.wher.lt
  · obtain ⟨i, hi, rfl⟩ := List.getElem_of_mem hk
    exact (h.slot i hi).lt
/-- A row of slots is none of the blocks that are written. -/
theorem WhAt.row_not {w : World} {p n bw : Nat} {bs : List Nat} {s : Wh} (h : WhAt w p n bw bs s) {k : Nat} {c : Array Value} {t : TypeId} {fz : Nat × Nat} (hk : w.heap[k]? = some (.cells c t fz)) (ht : t ≠ 157) : ¬ WhS p bw bs k := by
  rintro (rfl | rfl | hm)
  · obtain ⟨g, cap, hc, _⟩ := h.cell
    rw [hk] at hc
    cases hc
    exact ht rfl
  · exact map_ne h.wher hk rfl
  · obtain ⟨i, hi, rfl⟩ := List.getElem_of_mem hm
    exact map_ne (h.slot i hi) hk rfl
theorem WhAt.frm {T : Nat → Prop} {w w' : World} {p n bw : Nat} {bs : List Nat} {s : Wh} (h : WhAt w p n bw bs s) (hF : Frm T w w') (hT : ∀ k, WhS p bw bs k → ¬ T k) (hr : ∀ k cur, w.heap[k]? = some (.cells cur 158 (0, 0)) → ¬ T k) : WhAt w' p n bw bs s := by
  obtain ⟨g, cap, hc, hrow⟩ := h.cell
  refine ⟨⟨g, cap, hF.heap hc (hT _ (.inl rfl)), hF.row hrow fun k hk => ?_⟩, h.slots, h.pos, h.dist, h.wher.frm hF (hT _ (.inr (.inl rfl))), fun i hi => (h.slot i hi).frm hF (hT _ (.inr (.inr (List.getElem_mem hi))))⟩
  obtain ⟨_, cur, hcur⟩ := row_block hrow hk
  exact hr k cur hcur
theorem WhAt.grow {w w' : World} {p n bw : Nat} {bs : List Nat} {s : Wh} (h : WhAt w p n bw bs s) (hF : Frm (fun _ => False) w w') : WhAt w' p n bw bs s := h.frm hF (fun _ _ h => h) (fun _ _ _ h => h)
theorem WhAt.perm {w : World} {p n bw : Nat} {bs : List Nat} {s s' : Wh} (h : WhAt w p n bw bs s) (hp : s.tm.Perm s'.tm) (hn : s.now = s'.now) (hl : s.last = s'.last) : WhAt w p n bw bs s' := by
  obtain ⟨g, cap, hc, hrow⟩ := h.cell
  exact ⟨⟨g, cap, by rw [← hn, ← hl]; exact hc, hrow⟩, h.slots, h.pos, h.dist, h.wher.perm (hp.map _), fun i hi => (h.slot i hi).perm ((hp.filter _).map _)⟩
theorem WhAt.nd {w : World} {p n bw : Nat} {bs : List Nat} {s : Wh} (h : WhAt w p n bw bs s) : (s.tm.map (·.no)).Nodup := by
  have h1 := h.wher.keys
  rw [List.map_map] at h1
  have e : (s.tm.map ((fun p : Value × Value => p.1) ∘ fun t : Tm => (keyI t.no, keyI (t.due % n)))) = (s.tm.map (·.no)).map keyI := by rw [List.map_map]; rfl
  rw [e] at h1
  rw [List.Nodup, List.pairwise_map] at h1
  exact h1.imp fun h e => h (by rw [e])
structure WhOpen (w : World) (p n bw : Nat) (bs : List Nat) (s : Wh) (g cap : Nat) : Prop where
  hp : w.heap[p]? = some (.cells #[.slice (some ⟨g, 0, none⟩) n cap, .map (some bw), .int .u64 s.now, .int .i64 s.last] 157 (0, 0))
  row : w.ownsRow 0 158 1 (.slice (some ⟨g, 0, none⟩) n cap) n (bs.map fun b => .map (some b))
  le : n ≤ cap ∧ cap ≤ maxLen
  blk : ∃ cur, w.heap[g]? = some (.cells cur 158 (0, 0))
  at_ : ∀ i (h : i < bs.length), w.cell? ⟨g, i, none⟩ = some (.map (some bs[i]))
theorem WhAt.open_ {w : World} {p n bw : Nat} {bs : List Nat} {s : Wh} (h : WhAt w p n bw bs s) : ∃ g cap, WhOpen w p n bw bs s g cap := by
  obtain ⟨g, cap, hc, hrow⟩ := h.cell
  obtain ⟨A, cap', e, h1, h2, h3⟩ := row_open hrow
  simp only [Value.slice.injEq] at e
  obtain ⟨rfl, -, rfl⟩ := e
  obtain ⟨g', e', _, hcur, _, hcell⟩ := h3 (by have := h.pos; omega)
  simp only [Option.some.injEq, Addr.mk.injEq, and_true] at e'
  subst e'
  refine ⟨g, cap, hc, hrow, ⟨h1, h2⟩, hcur, fun i hi => ?_⟩
  rw [hcell i (by have := h.slots; omega)]
  simp [hi]
/-- The slot of a number of ticks. -/
theorem WhAt.slot_lt {w : World} {p n bw : Nat} {bs : List Nat} {s : Wh} (h : WhAt w p n bw bs s) (x : Int) : ∃ i : Nat, x % n = (i : Int) ∧ i < n ∧ i < bs.length := by
  have h1 := Int.emod_nonneg x (b := (n : Int)) (by have := h.pos; omega)
  have h2 := Int.emod_lt_of_pos x (b := (n : Int)) (by have := h.pos; omega)
  refine ⟨(x % n).toNat, by omega, by omega, by rw [h.slots]; omega⟩
set_option maxRecDepth 100000 in
theorem wwithin_any (x : Int) (w : World) : Calls Try.prog 79 #[.int .u64 x] w fun e w' => e = .returned (.bool (withinW x)) ∧ w = w' := by
  by_cases h1 : 1 ≤ x
  · by_cases h2 : x ≤ 4294967296
    · have HE : Hid (withinW x = true) := by unfold Hid withinW; simp [h1, h2]
      go_enter Try.func79, Try.ntmps79
      go_wp2
      go_ret
      exact ⟨by rw [HE.out]; rfl, rfl⟩
    · have HE : Hid (withinW x = false) := by unfold Hid withinW; simp [h2]
      go_enter Try.func79, Try.ntmps79
      go_wp2
      go_ret
      exact ⟨by rw [HE.out]; rfl, rfl⟩
  · have HE : Hid (withinW x = false) := by unfold Hid withinW; simp [h1]
    go_enter Try.func79, Try.ntmps79
    go_wp2
    go_ret
    exact ⟨by rw [HE.out]; rfl, rfl⟩
set_option maxRecDepth 100000 in
theorem wnow_any (w : World) (p n bw : Nat) (bs : List Nat) (s : Wh) (h : WhAt w p n bw bs s) : Calls Try.prog 50 #[ptrW p] w fun e w' => e = .returned (.int .u64 s.now) ∧ w = w' := by
  obtain ⟨g, cap, hc, _⟩ := h.cell
  have c2 : w.cell? ⟨p, 2, none⟩ = some (.int .u64 s.now) := cell_at hc
  unfold ptrW
  clear hc h
  go_enter Try.func50, Try.ntmps50
  go_wp2
  go_ret
  exact ⟨rfl, rfl⟩
set_option maxRecDepth 100000 in
theorem wlen_any (w : World) (p n bw : Nat) (bs : List Nat) (s : Wh) (h : WhAt w p n bw bs s) : Calls Try.prog 49 #[ptrW p] w fun e w' => e = .returned (.int .i64 (s.tm.length : Nat)) ∧ w = w' := by
  obtain ⟨g, cap, hc, _⟩ := h.cell
  have c1 : w.cell? ⟨p, 1, none⟩ = some (.map (some bw)) := cell_at hc
  have hl := fun ty => h.wher.len (P := Try.prog) (t := 154) Try.underlying154 ty
  simp only [List.length_map] at hl
  unfold ptrW
  clear hc h
  go_enter Try.func49, Try.ntmps49
  go_wp2
  go_ret
  exact ⟨rfl, rfl⟩
end Go.Proofs.Ytmkkeglcjbogcaa
namespace Go.Proofs.Ytmkkeglcjbogcaa
open Go.RowKit
open List (getElem_toArray getElem_cons_zero getElem_cons_succ setIfInBounds_toArray set_cons_zero set_cons_succ)
set_option linter.unusedVariables false
set_option linter.unusedSimpArgs false

/-- One slot's map, and the map of numbers, are turned. -/
theorem WhAt.turn {w w1 w2 : World} {p n bw : Nat} {bs : List Nat} {s : Wh} (h : WhAt w p n bw bs s) {tm' : List Tm} {i : Nat} (hib : i < bs.length)
    (hoth : ∀ j : Nat, j ≠ i → (s.tm.filter fun t => t.due % n == (j : Int)).Perm (tm'.filter fun t => t.due % n == (j : Int)))
    (m1 : MapP w1 bs[i] ((tm'.filter fun t => t.due % n == (i : Int)).map fun t => (keyI t.no, tmV t))) (F1 : Frm (One bs[i]) w w1)
    (m2 : MapP w2 bw (tm'.map fun t => (keyI t.no, keyI (t.due % n)))) (F2 : Frm (One bw) w1 w2) :
    WhAt w2 p n bw bs ⟨tm', s.now, s.last⟩ ∧ Frm (WhM bw bs) w w2 := by
  obtain ⟨g, cap, hc, hrow⟩ := h.cell
  have hpi : p ≠ bs[i] := map_ne (h.slot i hib) hc
  have hpw : p ≠ bw := map_ne h.wher hc
  have hiw : bs[i] ≠ bw := fun e => h.dist.2 (by rw [← e]; exact List.getElem_mem hib)
  have hF : Frm (fun k => k = bs[i] ∨ k = bw) w w2 := (F1.mono (fun _ _ h => .inl h)).trans F2 (fun _ _ h => .inr h)
  have hr : ∀ k, (Value.slice (some ⟨g, 0, none⟩) n cap).ownBlock = some k → ¬ (k = bs[i] ∨ k = bw) := fun k hk => by
    obtain ⟨_, cur, hcur⟩ := row_block hrow hk
    rintro (e | e)
    · exact map_ne (h.slot i hib) hcur e
    · exact map_ne h.wher hcur e
  refine ⟨⟨⟨g, cap, hF.heap hc (by rintro (e | e); exact hpi e; exact hpw e), hF.row hrow hr⟩, h.slots, h.pos, h.dist, m2, fun j hj => ?_⟩, hF.mono (fun k _ e => by rcases e with rfl | rfl; exact .inr (List.getElem_mem hib); exact .inl rfl)⟩
  by_cases hji : j = i
  · subst hji
    exact m1.frm F2 hiw
  · refine ((h.slot j hj).frm hF ?_).perm ((hoth j hji).map _)
    rintro (e | e)
    · exact hji (nodup_at h.dist.1 hj hib e)
    · exact h.dist.2 (by rw [← e]; exact List.getElem_mem hj)
theorem filter_cut {n : Nat} {tm rest : List Tm} {t : Tm} (hp : tm.Perm (t :: rest)) {i : Nat} (hi : t.due % n = (i : Int)) (j : Nat) (hj : j ≠ i) : (tm.filter fun t => t.due % n == (j : Int)).Perm (rest.filter fun t => t.due % n == (j : Int)) := by
  have h1 := hp.filter (fun t : Tm => t.due % n == (j : Int))
  rwa [List.filter_cons_of_neg (by simp [hi]; omega)] at h1
theorem filter_hit {n : Nat} {tm rest : List Tm} {t : Tm} (hp : tm.Perm (t :: rest)) {i : Nat} (hi : t.due % n = (i : Int)) : (tm.filter fun t => t.due % n == (i : Int)).Perm (t :: rest.filter fun t => t.due % n == (i : Int)) := by
  have h1 := hp.filter (fun t : Tm => t.due % n == (i : Int))
  rwa [List.filter_cons_of_pos (by simp [hi])] at h1
theorem zero_int (w : World) : (zeroValue 3).run Try.prog w = .ok (.int .i64 0) w := by kernel_rfl
theorem zero_timer (w : World) : (zeroValue 163).run Try.prog w = .ok (.agg #[.int .u64 0, .int .u64 0, .int .i64 0]) w := by kernel_rfl
theorem field_due (a b c : Value) (w : World) : (Instr.field 163 (.agg #[a, b, c]) 0).run Try.prog w = .ok a w := by kernel_rfl
def CancelPost (p n bw : Nat) (bs : List Nat) (s : Wh) (rest : List Tm) (w : World) (e : Ending) (w' : World) : Prop := e = .returned (.bool true) ∧ WhAt w' p n bw bs ⟨rest, s.now, s.last⟩ ∧ Frm (WhM bw bs) w w'
set_option maxRecDepth 100000 in
theorem wcancel_miss (w : World) (p n bw : Nat) (bs : List Nat) (s : Wh) (x : Int) (h : WhAt w p n bw bs s) (hno : ∀ t ∈ s.tm, t.no ≠ x) : Calls Try.prog 46 #[ptrW p, .int .i64 x] w fun e w' => e = .returned (.bool false) ∧ w = w' := by
  obtain ⟨g, cap, O⟩ := h.open_
  have k1 : w.cell? ⟨p, 1, none⟩ = some (.map (some bw)) := cell_at O.hp
  have hl := h.wher.miss (P := Try.prog) (k := 3) (t := 154) (n := x) Try.underlying3 Try.underlying154 (zero_int w) (fun q hq => by
    obtain ⟨t, ht, rfl⟩ := List.mem_map.1 hq
    intro e
    simp only [keyI, Value.int.injEq, true_and] at e
    exact hno t ht e) true
  simp only [if_true] at hl
  unfold ptrW
  clear h O hno
  go_enter Try.func46, Try.ntmps46
  go_wp2
  go_ret
  exact ⟨rfl, rfl⟩
set_option maxRecDepth 100000 in
theorem wcancel_hit (w : World) (p n bw : Nat) (bs : List Nat) (s : Wh) (t : Tm) (rest : List Tm) (h : WhAt w p n bw bs s) (hp : s.tm.Perm (t :: rest)) : Calls Try.prog 46 #[ptrW p, .int .i64 t.no] w (CancelPost p n bw bs s rest w) := by
  obtain ⟨g, cap, O⟩ := h.open_
  obtain ⟨i, hi, hin, hib⟩ := h.slot_lt t.due
  have k0 : w.cell? ⟨p, 0, none⟩ = some (.slice (some ⟨g, 0, none⟩) n cap) := cell_at O.hp
  have k1 : w.cell? ⟨p, 1, none⟩ = some (.map (some bw)) := cell_at O.hp
  have kg := O.at_ i hib
  have htm : t ∈ s.tm := hp.mem_iff.2 (List.mem_cons_self ..)
  have hl := h.wher.hit (P := Try.prog) (k := 3) (t := 154) (n := t.no) (v := keyI i) Try.underlying3 Try.underlying154 (List.mem_map.2 ⟨t, htm, by rw [hi]⟩) true
  simp only [if_true, keyI] at hl
  have hp1 : p ≠ bs[i] := map_ne (h.slot i hib) O.hp
  have HK1 := Lib.hid (fun w1 (hF : Frm (One bs[i]) w w1) => hF.cell k1 hp1)
  have hs1 := h.slot i hib
  have hq1 : ((s.tm.filter fun t => t.due % n == (i : Int)).map fun t => (keyI t.no, tmV t)).Perm ((keyI t.no, tmV t) :: ((rest.filter fun t => t.due % n == (i : Int)).map fun t => (keyI t.no, tmV t))) := (filter_hit hp hi).map _
  have hq2 : (s.tm.map fun t => (keyI t.no, keyI (t.due % n))).Perm ((keyI t.no, keyI (t.due % n)) :: (rest.map fun t => (keyI t.no, keyI (t.due % n)))) := hp.map _
  have hiw : bs[i] ≠ bw := fun e => h.dist.2 (by rw [← e]; exact List.getElem_mem hib)
  have HS1 := Lib.hid hs1
  have HQ1 := Lib.hid hq1
  have HQ2 := Lib.hid hq2
  have H := Lib.hid h
  have HP := Lib.hid hp
  have HI := Lib.hid hi
  have HIW : Hid (¬ One bs[i] bw) := fun e => hiw e.symm
  obtain ⟨b, hb⟩ : ∃ b, b = bs[i] := ⟨_, rfl⟩
  have hin2 : (i : Int) < n := by omega
  have hn9 : n ≤ 4096 := h.pos.2
  have hcap := O.le.1
  rw [← hb] at HS1 HK1 kg HIW
  have HB := Lib.hid hb
  unfold ptrW
  clear h O hp htm hi hs1 hq1 hq2 hiw hp1 hb
  go_enter Try.func46, Try.ntmps46
  go_wp2_with (first | (refine wpl_dropP rfl (.tmp 23) (.tmp 24) rfl Try.underlying3 Try.underlying158 HS1.out rfl rfl HQ1.out ?_; intro w1 hm1 hF1; have HM1 := Lib.hid hm1; have HF1 := Lib.hid hF1; have k1 := HK1.out w1 hF1; have HW1 := Lib.hid (H.out.wher.frm HF1.out HIW.out); clear hm1 hF1) | (refine wpl_dropP rfl (.tmp 28) (.tmp 29) rfl Try.underlying3 Try.underlying154 HW1.out rfl rfl HQ2.out ?_; intro w2 hm2 hF2; have HM2 := Lib.hid hm2; have HF2 := Lib.hid hF2; clear hm2 hF2))
  go_ret
  unfold CancelPost
  have hb := HB.out
  subst hb
  obtain ⟨r1, r2⟩ := H.out.turn (tm' := rest) hib (filter_cut HP.out HI.out) HM1.out HF1.out HM2.out HF2.out
  exact ⟨rfl, r1, r2⟩
set_option maxRecDepth 100000 in
theorem wleft_miss (w : World) (p n bw : Nat) (bs : List Nat) (s : Wh) (x : Int) (h : WhAt w p n bw bs s) (hno : ∀ t ∈ s.tm, t.no ≠ x) : Calls Try.prog 52 #[ptrW p, .int .i64 x] w fun e w' => e = .returned (.tuple #[.int .u64 0, .bool false]) ∧ w = w' := by
  obtain ⟨g, cap, O⟩ := h.open_
  have k1 : w.cell? ⟨p, 1, none⟩ = some (.map (some bw)) := cell_at O.hp
  have hl := h.wher.miss (P := Try.prog) (k := 3) (t := 154) (n := x) Try.underlying3 Try.underlying154 (zero_int w) (fun q hq => by
    obtain ⟨t, ht, rfl⟩ := List.mem_map.1 hq
    intro e
    simp only [keyI, Value.int.injEq, true_and] at e
    exact hno t ht e) true
  simp only [if_true] at hl
  unfold ptrW
  clear h O hno
  go_enter Try.func52, Try.ntmps52
  go_wp2
  go_ret2
  exact ⟨rfl, rfl⟩
set_option maxRecDepth 100000 in
theorem wleft_hit (w : World) (p n bw : Nat) (bs : List Nat) (s : Wh) (t : Tm) (h : WhAt w p n bw bs s) (ht : t ∈ s.tm) (hd : 0 ≤ t.due - s.now) (hd2 : t.due - s.now ≤ 9223372036854775807) : Calls Try.prog 52 #[ptrW p, .int .i64 t.no] w fun e w' => e = .returned (.tuple #[.int .u64 (t.due - s.now), .bool true]) ∧ Frm (fun _ => False) w w' := by
  obtain ⟨g, cap, O⟩ := h.open_
  obtain ⟨i, hi, hin, hib⟩ := h.slot_lt t.due
  have k0 : w.cell? ⟨p, 0, none⟩ = some (.slice (some ⟨g, 0, none⟩) n cap) := cell_at O.hp
  have k1 : w.cell? ⟨p, 1, none⟩ = some (.map (some bw)) := cell_at O.hp
  have k2 : w.cell? ⟨p, 2, none⟩ = some (.int .u64 s.now) := cell_at O.hp
  have kg := O.at_ i hib
  have hl := h.wher.hit (P := Try.prog) (k := 3) (t := 154) (n := t.no) (v := keyI i) Try.underlying3 Try.underlying154 (List.mem_map.2 ⟨t, ht, by rw [hi]⟩) true
  simp only [if_true, keyI] at hl
  have HCC := Lib.hid (fun W (hF : Frm (fun _ => False) w W) => (⟨hF.cell k0 (fun h => h), hF.cell k2 (fun h => h), hF.cell kg (fun h => h), by
    have := ((h.slot i hib).frm hF (fun h => h)).hit (P := Try.prog) (k := 3) (t := 158) (n := t.no) (v := tmV t) Try.underlying3 Try.underlying158 (List.mem_map.2 ⟨t, List.mem_filter.2 ⟨ht, by simp [hi]⟩, rfl⟩) false
    exact this⟩ : W.cell? ⟨p, 0, none⟩ = some (.slice (some ⟨g, 0, none⟩) n cap) ∧ W.cell? ⟨p, 2, none⟩ = some (.int .u64 s.now) ∧ W.cell? ⟨g, i, none⟩ = some (.map (some bs[i])) ∧ (Instr.lookup 158 (.map (some bs[i])) (.int .i64 t.no) false).run Try.prog W = .ok (.agg #[.int .u64 t.due, .int .u64 t.per, .int .i64 t.what]) W))
  have hcap := O.le.1
  have hn9 : n ≤ 4096 := h.pos.2
  have hin2 : (i : Int) < n := by omega
  have q1 : IntKind.u64.wrap (t.due - s.now) = t.due - s.now := IntWalk.u64_in _ (by omega)
  have hfd := fun W => field_due (.int .u64 t.due) (.int .u64 t.per) (.int .i64 t.what) W
  unfold ptrW
  clear h O hi k0 k2 kg ht
  go_enter Try.func52, Try.ntmps52
  go_wp2_with fail
  refine wp_region_held_drew (S := fun W => Frm (fun _ => False) w W) (by kernel_rfl) ((Frm.refl _ _).drew) (fun hHeld => ?_)
  refine wpAnyH_take (i := 0) (v := ?_) rfl (by kernel_rfl) (by kernel_rfl) (by kernel_rfl) (fun _ _ _ h => h) (Or.inl ⟨by rfl, ?_⟩) (by assumption) ?_; rotate_left; · (intro wq hSq; have hq := HCC.out wq hSq; go_split_ands; go_simp; (try with_reducible rfl))
  try simp only [Act.put, getElem_toArray, getElem_cons_zero, getElem_cons_succ, setIfInBounds_toArray, set_cons_zero, set_cons_succ]
  refine wpAnyH_take (i := 1) (v := ?_) rfl (by kernel_rfl) (by kernel_rfl) (by kernel_rfl) (fun _ _ _ h => h) (Or.inl ⟨by rfl, ?_⟩) (by assumption) ?_; rotate_left; · (intro wq hSq; have hq := HCC.out wq hSq; go_split_ands; go_simp; (try with_reducible rfl))
  try simp only [Act.put, getElem_toArray, getElem_cons_zero, getElem_cons_succ, setIfInBounds_toArray, set_cons_zero, set_cons_succ]
  refine wpAnyH_take (i := 2) (v := ?_) rfl (by kernel_rfl) (by kernel_rfl) (by kernel_rfl) (fun _ _ _ h => h) (Or.inl ⟨by rfl, ?_⟩) (by assumption) ?_; rotate_left; · (intro wq hSq; have hq := HCC.out wq hSq; go_split_ands; go_simp; (try with_reducible rfl))
  try simp only [Act.put, getElem_toArray, getElem_cons_zero, getElem_cons_succ, setIfInBounds_toArray, set_cons_zero, set_cons_succ]
  refine wpAnyH_take (i := 3) (v := ?_) rfl (by kernel_rfl) (by kernel_rfl) (by kernel_rfl) (fun _ _ _ h => h) (Or.inl ⟨by rfl, ?_⟩) (by assumption) ?_; rotate_left; · (intro wq hSq; have hq := HCC.out wq hSq; go_split_ands; go_simp; (try with_reducible rfl))
  try simp only [Act.put, getElem_toArray, getElem_cons_zero, getElem_cons_succ, setIfInBounds_toArray, set_cons_zero, set_cons_succ]
  refine wpAnyH_take (i := 4) (v := ?_) rfl (by kernel_rfl) (by kernel_rfl) (by kernel_rfl) (fun _ _ _ h => h) (Or.inl ⟨by rfl, ?_⟩) (by assumption) ?_; rotate_left; · (intro wq hSq; have hq := HCC.out wq hSq; go_split_ands; go_simp; (try with_reducible rfl))
  try simp only [Act.put, getElem_toArray, getElem_cons_zero, getElem_cons_succ, setIfInBounds_toArray, set_cons_zero, set_cons_succ]
  refine wpAnyH_take (i := 5) (v := ?_) rfl (by kernel_rfl) (by kernel_rfl) (by kernel_rfl) (fun _ _ _ h => h) (Or.inl ⟨by rfl, ?_⟩) (by assumption) ?_; rotate_left; · (intro wq hSq; have hq := HCC.out wq hSq; go_split_ands; go_simp; (try with_reducible rfl))
  try simp only [Act.put, getElem_toArray, getElem_cons_zero, getElem_cons_succ, setIfInBounds_toArray, set_cons_zero, set_cons_succ]
  refine wpAnyH_take (i := 6) (v := ?_) rfl (by kernel_rfl) (by kernel_rfl) (by kernel_rfl) (fun _ _ _ h => h) (Or.inl ⟨by rfl, ?_⟩) (by assumption) ?_; rotate_left; · (intro wq hSq; have hq := HCC.out wq hSq; go_split_ands; go_simp; (try with_reducible rfl))
  try simp only [Act.put, getElem_toArray, getElem_cons_zero, getElem_cons_succ, setIfInBounds_toArray, set_cons_zero, set_cons_succ]
  refine wpAnyH_take (i := 7) (v := ?_) rfl (by kernel_rfl) (by kernel_rfl) (by kernel_rfl) (fun _ _ _ h => h) (Or.inl ⟨by rfl, ?_⟩) (by assumption) ?_; rotate_left; · (intro wq hSq; have hq := HCC.out wq hSq; go_split_ands; go_simp; (try with_reducible rfl))
  try simp only [Act.put, getElem_toArray, getElem_cons_zero, getElem_cons_succ, setIfInBounds_toArray, set_cons_zero, set_cons_succ]
  refine wpAnyH_take (i := 8) (v := ?_) rfl (by kernel_rfl) (by kernel_rfl) (by kernel_rfl) (fun _ _ _ h => h) (Or.inl ⟨by rfl, ?_⟩) (by assumption) ?_; rotate_left; · (intro wq hSq; have hq := HCC.out wq hSq; go_split_ands; go_simp; (try with_reducible rfl))
  try simp only [Act.put, getElem_toArray, getElem_cons_zero, getElem_cons_succ, setIfInBounds_toArray, set_cons_zero, set_cons_succ]
  refine wpAnyH_take (i := 9) (v := ?_) rfl (by kernel_rfl) (by kernel_rfl) (by kernel_rfl) (fun _ _ _ h => h) (Or.inl ⟨by rfl, ?_⟩) (by assumption) ?_; rotate_left; · (intro wq hSq; have hq := HCC.out wq hSq; go_split_ands; go_simp; (try with_reducible rfl))
  try simp only [Act.put, getElem_toArray, getElem_cons_zero, getElem_cons_succ, setIfInBounds_toArray, set_cons_zero, set_cons_succ]
  refine wpAnyH_take (i := 10) (v := ?_) rfl (by kernel_rfl) (by kernel_rfl) (by kernel_rfl) (fun _ _ _ h => h) (Or.inl ⟨by rfl, ?_⟩) (by assumption) ?_; rotate_left; · (intro wq hSq; have hq := HCC.out wq hSq; go_split_ands; go_simp; (try with_reducible rfl))
  try simp only [Act.put, getElem_toArray, getElem_cons_zero, getElem_cons_succ, setIfInBounds_toArray, set_cons_zero, set_cons_succ]
  refine wpAnyH_take (i := 11) (v := ?_) rfl (by kernel_rfl) (by kernel_rfl) (by kernel_rfl) (fun _ _ _ h => h) (Or.inl ⟨by rfl, ?_⟩) (by assumption) ?_; rotate_left; · (intro wq hSq; have hq := HCC.out wq hSq; go_split_ands; go_simp; (try with_reducible rfl))
  try simp only [Act.put, getElem_toArray, getElem_cons_zero, getElem_cons_succ, setIfInBounds_toArray, set_cons_zero, set_cons_succ]
  refine wpAnyH_take (i := 12) (v := ?_) rfl (by kernel_rfl) (by kernel_rfl) (by kernel_rfl) (fun _ _ _ h => h) (Or.inl ⟨by rfl, ?_⟩) (by assumption) ?_; rotate_left; · (intro wq hSq; have hq := HCC.out wq hSq; go_split_ands; go_simp; (try with_reducible rfl))
  try simp only [Act.put, getElem_toArray, getElem_cons_zero, getElem_cons_succ, setIfInBounds_toArray, set_cons_zero, set_cons_succ]
  refine wpAnyH_take (i := 13) (v := ?_) rfl (by kernel_rfl) (by kernel_rfl) (by kernel_rfl) (fun _ _ _ h => h) (Or.inl ⟨by rfl, ?_⟩) (by assumption) ?_; rotate_left; · (intro wq hSq; have hq := HCC.out wq hSq; go_split_ands; go_simp; (try with_reducible rfl))
  try simp only [Act.put, getElem_toArray, getElem_cons_zero, getElem_cons_succ, setIfInBounds_toArray, set_cons_zero, set_cons_succ]
  refine wpAnyH_take (i := 14) (v := ?_) rfl (by kernel_rfl) (by kernel_rfl) (by kernel_rfl) (fun _ _ _ h => h) (Or.inl ⟨by rfl, ?_⟩) (by assumption) ?_; rotate_left; · (intro wq hSq; have hq := HCC.out wq hSq; go_split_ands; go_simp; (try with_reducible rfl))
  try simp only [Act.put, getElem_toArray, getElem_cons_zero, getElem_cons_succ, setIfInBounds_toArray, set_cons_zero, set_cons_succ]
  refine wpAnyH_take (i := 15) (v := ?_) rfl (by kernel_rfl) (by kernel_rfl) (by kernel_rfl) (fun _ _ _ h => h) (Or.inl ⟨by rfl, ?_⟩) (by assumption) ?_; rotate_left; · (intro wq hSq; have hq := HCC.out wq hSq; go_split_ands; go_simp; (try with_reducible rfl))
  try simp only [Act.put, getElem_toArray, getElem_cons_zero, getElem_cons_succ, setIfInBounds_toArray, set_cons_zero, set_cons_succ]
  refine wpAnyH_take (i := 16) (v := ?_) rfl (by kernel_rfl) (by kernel_rfl) (by kernel_rfl) (fun _ _ _ h => h) (Or.inl ⟨by rfl, ?_⟩) (by assumption) ?_; rotate_left; · (intro wq hSq; have hq := HCC.out wq hSq; go_split_ands; go_simp; (try with_reducible rfl))
  try simp only [Act.put, getElem_toArray, getElem_cons_zero, getElem_cons_succ, setIfInBounds_toArray, set_cons_zero, set_cons_succ]
  refine wpAnyH_done (by kernel_rfl) ?_ _
  go_wp2_with fail
  go_ret2
  exact ⟨rfl, hHeld⟩
end Go.Proofs.Ytmkkeglcjbogcaa
namespace Go.Proofs.Ytmkkeglcjbogcaa
open Go.RowKit
open List (getElem_toArray getElem_cons_zero getElem_cons_succ setIfInBounds_toArray set_cons_zero set_cons_succ)
set_option linter.unusedVariables false
set_option linter.unusedSimpArgs false

theorem filter_put {n : Nat} (tm : List Tm) {t : Tm} {i : Nat} (hi : t.due % n = (i : Int)) (j : Nat) (hj : j ≠ i) : (tm.filter fun t => t.due % n == (j : Int)).Perm ((t :: tm).filter fun t => t.due % n == (j : Int)) := by
  rw [List.filter_cons_of_neg (by simp [hi]; omega)]
theorem filter_in {n : Nat} (tm : List Tm) {t : Tm} {i : Nat} (hi : t.due % n = (i : Int)) : (t :: tm).filter (fun t => t.due % n == (i : Int)) = t :: tm.filter fun t => t.due % n == (i : Int) := by
  rw [List.filter_cons_of_pos (by simp [hi])]
def PutPost (p n bw : Nat) (bs : List Nat) (s : Wh) (t : Tm) (w : World) (e : Ending) (w' : World) : Prop := e = .returned (.tuple #[]) ∧ WhAt w' p n bw bs ⟨t :: s.tm, s.now, s.last⟩ ∧ Frm (WhM bw bs) w w'
set_option maxRecDepth 100000 in
set_option maxHeartbeats 1000000 in
theorem wput_any (w : World) (p n bw : Nat) (bs : List Nat) (s : Wh) (t : Tm) (h0 : WhAt w p n bw bs s) (hno : ∀ x ∈ s.tm, x.no ≠ t.no) (hd : 0 ≤ t.due) (hd2 : t.due ≤ 9223372036854775807) : Calls Try.prog 107 #[ptrW p, .int .i64 t.no, tmV t] w (PutPost p n bw bs s t w) := by
  obtain ⟨i, hi, hin, hib⟩ := h0.slot_lt t.due
  have HI := Lib.hid hi
  have H0 := Lib.hid h0
  have hn9 : n ≤ 4096 := h0.pos.2
  have hn1 : 1 ≤ n := h0.pos.1
  have HNO := Lib.hid hno
  have q1 : IntKind.u64.wrap (n : Int) = n := IntWalk.u64_in _ (by omega)
  have q2 : t.due.tmod n = i := by rw [Int.tmod_eq_emod_of_nonneg hd, hi]
  have q3 : IntKind.i64.wrap (i : Int) = i := IntWalk.i64_in _ (by omega)
  have q4 : ¬ n = 0 := by omega
  unfold ptrW tmV tmC
  clear hno h0
  go_enter Try.func107, Try.ntmps107
  go_upto_region 1 with fail
  have h1 : WhAt (w.alloc (.cells #[.int .u64 t.due, .int .u64 t.per, .int .i64 t.what] 163 (0, 0))) p n bw bs s := H0.out.grow ((Frm.refl _ _).alloc _)
  have hb1 : (w.alloc (.cells #[.int .u64 t.due, .int .u64 t.per, .int .i64 t.what] 163 (0, 0))).heap[w.heap.size]? = some (.cells #[.int .u64 t.due, .int .u64 t.per, .int .i64 t.what] 163 (0, 0)) := heap_new w _
  have hf1 : Frm (fun _ => False) w (w.alloc (.cells #[.int .u64 t.due, .int .u64 t.per, .int .i64 t.what] 163 (0, 0))) := (Frm.refl _ _).alloc _
  obtain ⟨wb, hwb⟩ : ∃ wb, wb = w.alloc (.cells #[.int .u64 t.due, .int .u64 t.per, .int .i64 t.what] 163 (0, 0)) := ⟨_, rfl⟩
  rw [← hwb] at h1 hb1 hf1 ⊢
  obtain ⟨g, cap, O⟩ := h1.open_
  have hcap := O.le.1
  have k0 : wb.cell? ⟨p, 0, none⟩ = some (.slice (some ⟨g, 0, none⟩) n cap) := cell_at O.hp
  have k1 : wb.cell? ⟨p, 1, none⟩ = some (.map (some bw)) := cell_at O.hp
  have kg := O.at_ i hib
  have t0 : wb.cell? ⟨w.heap.size, 0, none⟩ = some (.int .u64 t.due) := cell_at hb1
  have t1 : wb.cell? ⟨w.heap.size, 1, none⟩ = some (.int .u64 t.per) := cell_at hb1
  have t2 : wb.cell? ⟨w.heap.size, 2, none⟩ = some (.int .i64 t.what) := cell_at hb1
  have hin2 : (i : Int) < n := by omega
  have hbw : bs[i] ≠ bw := fun e => h1.dist.2 (by rw [← e]; exact List.getElem_mem hib)
  have HBW : Hid (¬ One bs[i] bw) := fun e => hbw e.symm
  have hs1 := h1.slot i hib
  have hw1 := h1.wher
  have hk1 : ∀ q ∈ ((s.tm.filter fun t => t.due % n == (i : Int)).map fun t => (keyI t.no, tmV t)), q.1 ≠ keyI t.no := fun q hq e => by
    obtain ⟨u, hu, rfl⟩ := List.mem_map.1 hq
    simp only [keyI, Value.int.injEq, true_and] at e
    exact HNO.out u (List.mem_filter.1 hu).1 e
  have hk2 : ∀ q ∈ (s.tm.map fun t => (keyI t.no, keyI (t.due % n))), q.1 ≠ keyI t.no := fun q hq e => by
    obtain ⟨u, hu, rfl⟩ := List.mem_map.1 hq
    simp only [keyI, Value.int.injEq, true_and] at e
    exact HNO.out u hu e
  have HS1 := Lib.hid hs1
  have HW1 := Lib.hid hw1
  have HK1 := Lib.hid hk1
  have HK2 := Lib.hid hk2
  have H1 := Lib.hid h1
  have HF1 := Lib.hid hf1
  have HC0 := Lib.hid (fun W (h : Frm (fun _ => False) wb W) => (⟨h.cell k0 (fun h => h), h.cell t0 (fun h => h)⟩ : _ ∧ _))
  have HC1 := Lib.hid (fun W (h : Frm (fun k => k = bs[i] ∨ k = bw) wb W) => (⟨h.cell k0 (by rintro (e | e); exact map_ne hs1 O.hp e; exact map_ne hw1 O.hp e), h.cell k1 (by rintro (e | e); exact map_ne hs1 O.hp e; exact map_ne hw1 O.hp e), h.cell kg (by obtain ⟨cur, hcur⟩ := O.blk; rintro (e | e); exact map_ne hs1 hcur e; exact map_ne hw1 hcur e), h.cell t0 (by rintro (e | e); exact map_ne hs1 hb1 e; exact map_ne hw1 hb1 e), h.cell t1 (by rintro (e | e); exact map_ne hs1 hb1 e; exact map_ne hw1 hb1 e), h.cell t2 (by rintro (e | e); exact map_ne hs1 hb1 e; exact map_ne hw1 hb1 e)⟩ : _ ∧ _ ∧ _ ∧ _ ∧ _ ∧ _))
  obtain ⟨b, hb⟩ : ∃ b, b = bs[i] := ⟨_, rfl⟩
  rw [← hb] at HS1 HBW HC1
  have HB := Lib.hid hb
  clear hwb h1 hb1 hf1 O k0 k1 kg t0 t1 t2 hbw hs1 hw1 hk1 hk2 hb hi
  refine wp_region_held_drew (S := fun W => Frm (fun _ => False) wb W) (by kernel_rfl) ((Frm.refl _ _).drew) (fun hHeld => ?_)
  refine wpAnyH_take (i := 0) (v := ?_) rfl (by kernel_rfl) (by kernel_rfl) (by kernel_rfl) (fun _ _ _ h => h) (Or.inl ⟨by rfl, ?_⟩) (by assumption) ?_; rotate_left; · (intro wq hSq; have hq := HC0.out wq hSq; go_split_ands; go_simp; (try with_reducible rfl))
  try simp only [Act.put, getElem_toArray, getElem_cons_zero, getElem_cons_succ, setIfInBounds_toArray, set_cons_zero, set_cons_succ]
  refine wpAnyH_take (i := 1) (v := ?_) rfl (by kernel_rfl) (by kernel_rfl) (by kernel_rfl) (fun _ _ _ h => h) (Or.inl ⟨by rfl, ?_⟩) (by assumption) ?_; rotate_left; · (intro wq hSq; have hq := HC0.out wq hSq; go_split_ands; go_simp; (try with_reducible rfl))
  try simp only [Act.put, getElem_toArray, getElem_cons_zero, getElem_cons_succ, setIfInBounds_toArray, set_cons_zero, set_cons_succ]
  refine wpAnyH_take (i := 2) (v := ?_) rfl (by kernel_rfl) (by kernel_rfl) (by kernel_rfl) (fun _ _ _ h => h) (Or.inl ⟨by rfl, ?_⟩) (by assumption) ?_; rotate_left; · (intro wq hSq; have hq := HC0.out wq hSq; go_split_ands; go_simp; (try with_reducible rfl))
  try simp only [Act.put, getElem_toArray, getElem_cons_zero, getElem_cons_succ, setIfInBounds_toArray, set_cons_zero, set_cons_succ]
  refine wpAnyH_take (i := 3) (v := ?_) rfl (by kernel_rfl) (by kernel_rfl) (by kernel_rfl) (fun _ _ _ h => h) (Or.inl ⟨by rfl, ?_⟩) (by assumption) ?_; rotate_left; · (intro wq hSq; have hq := HC0.out wq hSq; go_split_ands; go_simp; (try with_reducible rfl))
  try simp only [Act.put, getElem_toArray, getElem_cons_zero, getElem_cons_succ, setIfInBounds_toArray, set_cons_zero, set_cons_succ]
  refine wpAnyH_take (i := 4) (v := ?_) rfl (by kernel_rfl) (by kernel_rfl) (by kernel_rfl) (fun _ _ _ h => h) (Or.inl ⟨by rfl, ?_⟩) (by assumption) ?_; rotate_left; · (intro wq hSq; have hq := HC0.out wq hSq; go_split_ands; go_simp; (try with_reducible rfl))
  try simp only [Act.put, getElem_toArray, getElem_cons_zero, getElem_cons_succ, setIfInBounds_toArray, set_cons_zero, set_cons_succ]
  refine wpAnyH_take (i := 5) (v := ?_) rfl (by kernel_rfl) (by kernel_rfl) (by kernel_rfl) (fun _ _ _ h => h) (Or.inl ⟨by rfl, ?_⟩) (by assumption) ?_; rotate_left; · (intro wq hSq; have hq := HC0.out wq hSq; go_split_ands; go_simp; (try with_reducible rfl))
  try simp only [Act.put, getElem_toArray, getElem_cons_zero, getElem_cons_succ, setIfInBounds_toArray, set_cons_zero, set_cons_succ]
  refine wpAnyH_take (i := 6) (v := ?_) rfl (by kernel_rfl) (by kernel_rfl) (by kernel_rfl) (fun _ _ _ h => h) (Or.inl ⟨by rfl, ?_⟩) (by assumption) ?_; rotate_left; · (intro wq hSq; have hq := HC0.out wq hSq; go_split_ands; go_simp; (try with_reducible rfl))
  try simp only [Act.put, getElem_toArray, getElem_cons_zero, getElem_cons_succ, setIfInBounds_toArray, set_cons_zero, set_cons_succ]
  refine wpAnyH_take (i := 7) (v := ?_) rfl (by kernel_rfl) (by kernel_rfl) (by kernel_rfl) (fun _ _ _ h => h) (Or.inl ⟨by rfl, ?_⟩) (by assumption) ?_; rotate_left; · (intro wq hSq; have hq := HC0.out wq hSq; go_split_ands; go_simp; (try with_reducible rfl))
  try simp only [Act.put, getElem_toArray, getElem_cons_zero, getElem_cons_succ, setIfInBounds_toArray, set_cons_zero, set_cons_succ]
  refine wpAnyH_take (i := 8) (v := ?_) rfl (by kernel_rfl) (by kernel_rfl) (by kernel_rfl) (fun _ _ _ h => h) (Or.inl ⟨by rfl, ?_⟩) (by assumption) ?_; rotate_left; · (intro wq hSq; have hq := HC0.out wq hSq; go_split_ands; go_simp; (try with_reducible rfl))
  try simp only [Act.put, getElem_toArray, getElem_cons_zero, getElem_cons_succ, setIfInBounds_toArray, set_cons_zero, set_cons_succ]
  refine wpAnyH_take (i := 9) (v := ?_) rfl (by kernel_rfl) (by kernel_rfl) (by kernel_rfl) (fun _ _ _ h => h) (Or.inl ⟨by rfl, ?_⟩) (by assumption) ?_; rotate_left; · (intro wq hSq; have hq := HC0.out wq hSq; go_split_ands; go_simp; (try with_reducible rfl))
  try simp only [Act.put, getElem_toArray, getElem_cons_zero, getElem_cons_succ, setIfInBounds_toArray, set_cons_zero, set_cons_succ]
  refine wpAnyH_take (i := 10) (v := ?_) rfl (by kernel_rfl) (by kernel_rfl) (by kernel_rfl) (fun _ _ _ h => h) (Or.inl ⟨by rfl, ?_⟩) (by assumption) ?_; rotate_left; · (intro wq hSq; have hq := HC0.out wq hSq; go_split_ands; go_simp; (try with_reducible rfl))
  try simp only [Act.put, getElem_toArray, getElem_cons_zero, getElem_cons_succ, setIfInBounds_toArray, set_cons_zero, set_cons_succ]
  refine wpAnyH_done (by kernel_rfl) ?_ _
  go_wp2_with fail
  obtain ⟨wc, hwc⟩ : ∃ wc, wc = wb.drew := ⟨_, rfl⟩
  have hbc : Frm (fun _ => False) wb wc := by rw [hwc]; exact (Frm.refl _ _).drew
  rw [← hwc] at hHeld ⊢
  have HBC := Lib.hid hbc
  clear hwc hbc
  refine wp_region_held_drew (S := fun W => Frm (fun k => k = b ∨ k = bw) wc W) (by kernel_rfl) ((Frm.refl _ _).drew) (fun hHeld => ?_)
  refine wpAnyH_take (i := 0) (v := ?_) rfl (by kernel_rfl) (by kernel_rfl) (by kernel_rfl) (fun _ _ _ h => h) (Or.inl ⟨by rfl, ?_⟩) (by assumption) ?_; rotate_left; · (intro wq hSq; have hq := (fun W h => HC1.out W ((HBC.out.mono (fun _ _ h => h.elim)).trans' h)) wq hSq; go_split_ands; go_simp; (try with_reducible rfl))
  try simp only [Act.put, getElem_toArray, getElem_cons_zero, getElem_cons_succ, setIfInBounds_toArray, set_cons_zero, set_cons_succ]
  refine wpAnyH_take (i := 1) (v := ?_) rfl (by kernel_rfl) (by kernel_rfl) (by kernel_rfl) (fun _ _ _ h => h) (Or.inl ⟨by rfl, ?_⟩) (by assumption) ?_; rotate_left; · (intro wq hSq; have hq := (fun W h => HC1.out W ((HBC.out.mono (fun _ _ h => h.elim)).trans' h)) wq hSq; go_split_ands; go_simp; (try with_reducible rfl))
  try simp only [Act.put, getElem_toArray, getElem_cons_zero, getElem_cons_succ, setIfInBounds_toArray, set_cons_zero, set_cons_succ]
  refine wpAnyH_take (i := 2) (v := ?_) rfl (by kernel_rfl) (by kernel_rfl) (by kernel_rfl) (fun _ _ _ h => h) (Or.inl ⟨by rfl, ?_⟩) (by assumption) ?_; rotate_left; · (intro wq hSq; have hq := (fun W h => HC1.out W ((HBC.out.mono (fun _ _ h => h.elim)).trans' h)) wq hSq; go_split_ands; go_simp; (try with_reducible rfl))
  try simp only [Act.put, getElem_toArray, getElem_cons_zero, getElem_cons_succ, setIfInBounds_toArray, set_cons_zero, set_cons_succ]
  refine wpAnyH_take (i := 3) (v := ?_) rfl (by kernel_rfl) (by kernel_rfl) (by kernel_rfl) (fun _ _ _ h => h) (Or.inl ⟨by rfl, ?_⟩) (by assumption) ?_; rotate_left; · (intro wq hSq; have hq := (fun W h => HC1.out W ((HBC.out.mono (fun _ _ h => h.elim)).trans' h)) wq hSq; go_split_ands; go_simp; (try with_reducible rfl))
  try simp only [Act.put, getElem_toArray, getElem_cons_zero, getElem_cons_succ, setIfInBounds_toArray, set_cons_zero, set_cons_succ]
  refine wpAnyH_take (i := 4) (v := ?_) rfl (by kernel_rfl) (by kernel_rfl) (by kernel_rfl) (fun _ _ _ h => h) (Or.inl ⟨by rfl, ?_⟩) (by assumption) ?_; rotate_left; · (intro wq hSq; have hq := (fun W h => HC1.out W ((HBC.out.mono (fun _ _ h => h.elim)).trans' h)) wq hSq; go_split_ands; go_simp; (try with_reducible rfl))
  try simp only [Act.put, getElem_toArray, getElem_cons_zero, getElem_cons_succ, setIfInBounds_toArray, set_cons_zero, set_cons_succ]
  refine wpAnyH_take (i := 5) (v := ?_) rfl (by kernel_rfl) (by kernel_rfl) (by kernel_rfl) (fun _ _ _ h => h) (Or.inl ⟨by rfl, ?_⟩) (by assumption) ?_; rotate_left; · (intro wq hSq; have hq := (fun W h => HC1.out W ((HBC.out.mono (fun _ _ h => h.elim)).trans' h)) wq hSq; go_split_ands; go_simp; (try with_reducible rfl))
  try simp only [Act.put, getElem_toArray, getElem_cons_zero, getElem_cons_succ, setIfInBounds_toArray, set_cons_zero, set_cons_succ]
  refine wpAnyH_take (i := 6) (v := ?_) rfl (by kernel_rfl) (by kernel_rfl) (by kernel_rfl) (fun _ _ _ h => h) (Or.inl ⟨by rfl, ?_⟩) (by assumption) ?_; rotate_left; · (intro wq hSq; have hq := (fun W h => HC1.out W ((HBC.out.mono (fun _ _ h => h.elim)).trans' h)) wq hSq; go_split_ands; go_simp; (try with_reducible rfl))
  try simp only [Act.put, getElem_toArray, getElem_cons_zero, getElem_cons_succ, setIfInBounds_toArray, set_cons_zero, set_cons_succ]
  refine wpAnyH_take (i := 7) (v := ?_) rfl (by kernel_rfl) (by kernel_rfl) (by kernel_rfl) (fun _ _ _ h => h) (Or.inl ⟨by rfl, ?_⟩) (by assumption) ?_; rotate_left; · (intro wq hSq; have hq := (fun W h => HC1.out W ((HBC.out.mono (fun _ _ h => h.elim)).trans' h)) wq hSq; go_split_ands; go_simp; (try with_reducible rfl))
  try simp only [Act.put, getElem_toArray, getElem_cons_zero, getElem_cons_succ, setIfInBounds_toArray, set_cons_zero, set_cons_succ]
  refine wpAnyH_take (i := 8) (v := ?_) rfl (by kernel_rfl) (by kernel_rfl) (by kernel_rfl) (fun _ _ _ h => h) (Or.inl ⟨by rfl, ?_⟩) (by assumption) ?_; rotate_left; · (intro wq hSq; have hq := (fun W h => HC1.out W ((HBC.out.mono (fun _ _ h => h.elim)).trans' h)) wq hSq; go_split_ands; go_simp; (try with_reducible rfl))
  try simp only [Act.put, getElem_toArray, getElem_cons_zero, getElem_cons_succ, setIfInBounds_toArray, set_cons_zero, set_cons_succ]
  refine wpAnyH_take (i := 9) (v := ?_) rfl (by kernel_rfl) (by kernel_rfl) (by kernel_rfl) (fun _ _ _ h => h) (Or.inl ⟨by rfl, ?_⟩) (by assumption) ?_; rotate_left; · (intro wq hSq; have hq := (fun W h => HC1.out W ((HBC.out.mono (fun _ _ h => h.elim)).trans' h)) wq hSq; go_split_ands; go_simp; (try with_reducible rfl))
  try simp only [Act.put, getElem_toArray, getElem_cons_zero, getElem_cons_succ, setIfInBounds_toArray, set_cons_zero, set_cons_succ]
  refine wpAnyH_take (i := 10) (v := ?_) rfl (by kernel_rfl) (by kernel_rfl) (by kernel_rfl) (fun _ _ _ h => h) (Or.inl ⟨by rfl, ?_⟩) (by assumption) ?_; rotate_left; · (intro wq hSq; have hq := (fun W h => HC1.out W ((HBC.out.mono (fun _ _ h => h.elim)).trans' h)) wq hSq; go_split_ands; go_simp; (try with_reducible rfl))
  try simp only [Act.put, getElem_toArray, getElem_cons_zero, getElem_cons_succ, setIfInBounds_toArray, set_cons_zero, set_cons_succ]
  refine wpAnyH_take (i := 11) (v := ?_) rfl (by kernel_rfl) (by kernel_rfl) (by kernel_rfl) (fun _ _ _ h => h) (Or.inl ⟨by rfl, ?_⟩) (by assumption) ?_; rotate_left; · (intro wq hSq; have hq := (fun W h => HC1.out W ((HBC.out.mono (fun _ _ h => h.elim)).trans' h)) wq hSq; go_split_ands; go_simp; (try with_reducible rfl))
  try simp only [Act.put, getElem_toArray, getElem_cons_zero, getElem_cons_succ, setIfInBounds_toArray, set_cons_zero, set_cons_succ]
  refine wpAnyH_take (i := 12) (v := ?_) rfl (by kernel_rfl) (by kernel_rfl) (by kernel_rfl) (fun _ _ _ h => h) (Or.inl ⟨by rfl, ?_⟩) (by assumption) ?_; rotate_left; · (intro wq hSq; have hq := (fun W h => HC1.out W ((HBC.out.mono (fun _ _ h => h.elim)).trans' h)) wq hSq; go_split_ands; go_simp; (try with_reducible rfl))
  try simp only [Act.put, getElem_toArray, getElem_cons_zero, getElem_cons_succ, setIfInBounds_toArray, set_cons_zero, set_cons_succ]
  refine wpAnyH_take (i := 13) (v := ?_) rfl (by kernel_rfl) (by kernel_rfl) (by kernel_rfl) (fun _ _ _ h => h) (Or.inl ⟨by rfl, ?_⟩) (by assumption) ?_; rotate_left; · (intro wq hSq; have hq := (fun W h => HC1.out W ((HBC.out.mono (fun _ _ h => h.elim)).trans' h)) wq hSq; go_split_ands; go_simp; (try with_reducible rfl))
  try simp only [Act.put, getElem_toArray, getElem_cons_zero, getElem_cons_succ, setIfInBounds_toArray, set_cons_zero, set_cons_succ]
  refine wpAnyH_take (i := 14) (v := ?_) rfl (by kernel_rfl) (by kernel_rfl) (by kernel_rfl) (fun _ _ _ h => h) (Or.inl ⟨by rfl, ?_⟩) (by assumption) ?_; rotate_left; · (intro wq hSq; have hq := (fun W h => HC1.out W ((HBC.out.mono (fun _ _ h => h.elim)).trans' h)) wq hSq; go_split_ands; go_simp; (try with_reducible rfl))
  try simp only [Act.put, getElem_toArray, getElem_cons_zero, getElem_cons_succ, setIfInBounds_toArray, set_cons_zero, set_cons_succ]
  refine wpAnyH_ready (rs := [15]) (by kernel_rfl) (by simp) ?_
  refine AllReadyH.cons rfl (fun K hK => ?_) AllReadyH.nil
  refine wp_enterP (.tmp 23) (.tmp 24) rfl Try.underlying3 Try.underlying158 (zero_timer _) (HS1.out.frm (HBC.out.drew) (fun h => h)) rfl rfl HK1.out ?_
  intro cl w1 m1 hm1 hS1 hF1
  refine hK.out _ _ (hHeld.trans hF1 (fun i _ h => .inl h)) (fun hHeld => ?_)
  clear hK K
  try simp only [Act.put, setIfInBounds_toArray, set_cons_zero, set_cons_succ]
  refine wpAnyH_take (i := 16) (v := ?_) rfl (by kernel_rfl) (by kernel_rfl) (by kernel_rfl) (fun _ _ _ h => h) (Or.inl ⟨by rfl, ?_⟩) (by assumption) ?_; rotate_left; · (intro wq hSq; have hq := (fun _ _ => trivial) wq hSq; go_split_ands; go_simp; (try with_reducible rfl))
  try simp only [Act.put, getElem_toArray, getElem_cons_zero, getElem_cons_succ, setIfInBounds_toArray, set_cons_zero, set_cons_succ]
  refine wpAnyH_ready (rs := [17]) (by kernel_rfl) (by simp) ?_
  refine AllReadyH.cons rfl (fun K hK => ?_) AllReadyH.nil
  refine wp_estoreP (.tmp 23) (.tmp 33) (.tmp 30) rfl hS1 hm1 rfl rfl rfl ?_
  intro w2 hM2 hF2
  refine hK.out _ _ (hHeld.trans hF2 (fun i _ h => .inl h)) (fun hHeld => ?_)
  clear hK K
  try simp only [Act.put, setIfInBounds_toArray, set_cons_zero, set_cons_succ]
  have hF12 : Frm (One b) wc w2 := ((Frm.refl _ wc).drew.trans' hF1).trans' hF2
  refine wpAnyH_ready (rs := [18]) (by kernel_rfl) (by simp) ?_
  refine AllReadyH.cons rfl (fun K hK => ?_) AllReadyH.nil
  refine wp_enterP (.tmp 28) (.tmp 29) rfl Try.underlying3 Try.underlying154 (zero_int _) (HW1.out.frm ((HBC.out.mono (fun _ _ h => h.elim)).trans' hF12) HBW.out) rfl rfl HK2.out ?_
  intro cl3 w3 m3 hm3 hS3 hF3
  refine hK.out _ _ (hHeld.trans hF3 (fun i _ h => .inr h)) (fun hHeld => ?_)
  clear hK K
  try simp only [Act.put, setIfInBounds_toArray, set_cons_zero, set_cons_succ]
  refine wpAnyH_take (i := 19) (v := ?_) rfl (by kernel_rfl) (by kernel_rfl) (by kernel_rfl) (fun _ _ _ h => h) (Or.inl ⟨by rfl, ?_⟩) (by assumption) ?_; rotate_left; · (intro wq hSq; have hq := (fun _ _ => trivial) wq hSq; go_split_ands; go_simp; (try with_reducible rfl))
  try simp only [Act.put, getElem_toArray, getElem_cons_zero, getElem_cons_succ, setIfInBounds_toArray, set_cons_zero, set_cons_succ]
  refine wpAnyH_ready (rs := [20]) (by kernel_rfl) (by simp) ?_
  refine AllReadyH.cons rfl (fun K hK => ?_) AllReadyH.nil
  refine wp_estoreP (.tmp 28) (.tmp 35) (.tmp 31) rfl hS3 hm3 rfl rfl rfl ?_
  intro w4 hM4 hF4
  refine hK.out _ _ (hHeld.trans hF4 (fun i _ h => .inr h)) (fun hHeld => ?_)
  clear hK K
  try simp only [Act.put, setIfInBounds_toArray, set_cons_zero, set_cons_succ]
  refine wpAnyH_done (by kernel_rfl) ?_ _
  go_wp2_with fail
  go_end0
  have hF34 : Frm (One bw) w2 w4 := hF3.trans' hF4
  have hb := HB.out
  subst hb
  have hi := HI.out
  obtain ⟨r1, r2⟩ := (H1.out.grow HBC.out).turn (tm' := t :: s.tm) hib (filter_put s.tm hi) (by rw [filter_in s.tm hi]; exact hM2) hF12 (by rw [List.map_cons, hi]; exact hM4) hF34
  exact ⟨rfl, r1, ((HF1.out.trans' HBC.out).mono (fun _ _ h => h.elim)).trans' r2⟩
end Go.Proofs.Ytmkkeglcjbogcaa
