/-
  A call of a Go function at an operation of a region that draws its order.
-/
import Derived.Test.YtemjdmgfilbfaaaCore2
namespace Go.Proofs.Ytemjdmgfilbfaaa
open Go.RowKit

@[go_sem] theorem World_alloc_drewN (w : World) (n : Nat) (o : Obj) : (w.drewN n).alloc o = (w.alloc o).drewN n := rfl
@[go_sem] theorem World_setCell_drewN (w : World) (n : Nat) (a : Addr) (v : Value) : (w.drewN n).setCell a v = (w.setCell a v).drewN n := rfl

/-- What a call hands on. -/
def CallK (K : Act → World → Prop) (Q : Exit → Act → World → Prop) (a : Act) (d : Option Tmp) (e : Ending) (w : World) : Prop :=
  match e with
  | .returned v => K (a.put d v) w
  | .panicked chain => Q (.panic chain) a w
  | .outgrown => LetsOut Q
theorem CallK.ret {K : Act → World → Prop} {Q : Exit → Act → World → Prop} {a : Act} {d : Option Tmp} {v : Value} {w : World} (h : K (a.put d v) w) : CallK K Q a d (.returned v) w := h

theorem run_enter {P : Program} {f : FuncId} {fn : Func} {c : Code} (hf : P.funcs[f]? = some fn) (hname : (fn.name == "runtime.NumGoroutine") = false) (hb : fn.body = some c) (args : Array Value) (w : World) :
    (callFunc f args).run P w = .ok (.enter f args) w := by
  have h1 : fn.name ≠ "runtime.NumGoroutine" := by simpa using hname
  simp [callFunc, hf, h1, hb]

theorem step_call {P : Program} {ops : Array Oper} {o : Oper} {a : Act} {K : Act → World → Prop} {Q : Exit → Act → World → Prop} {X : Prop} {w : World} (f : FuncId) (hgd : o.guard = none) {xs : Array Operand} {ts : Array TypeId}
    (ho : o.op = .call { callee := .value (.func f), args := xs, argTypes := ts }) {fn : Func} {c : Code} (hf : P.funcs[f]? = some fn) (hname : (fn.name == "runtime.NumGoroutine") = false) (hb : fn.body = some c) {args : Array Value} (hargs' : (xs.toList.map a.eval).toArray = args)
    (h : Calls P f args w (CallK K Q a o.dst)) : if Region.wanted o (yielded ops a.tmps) = true then Oper.wp P o a w K Q else X := by
  rw [if_pos (by simp [Region.wanted, hgd])]
  have hargs : xs.map a.eval = args := by rw [← hargs']; apply Array.ext'; simp
  unfold Oper.wp execOp
  have hr := run_enter hf hname hb args w
  have he : a.eval (.func f) = .func (.func f) #[] #[] := rfl
  simp only [ho, resolve, invoke, he, Sem.run_bind, Sem.run_pure, Result.andThen_ok, hargs, List.map_toArray]
  simp only [Deferred.ofValue, Sem.run_pure, Result.andThen_ok, Array.append_empty, Array.empty_append, hr]
  simp only [Oper.upon]
  refine h.mono fun e w' hk => ?_
  cases e <;> exact hk

/-- 'append([]T{}, src...)'. -/
theorem step_clone {P : Program} {ops : Array Oper} {o : Oper} {a : Act} {K : Act → World → Prop} {Q : Exit → Act → World → Prop} {X : Prop} {w : World} {t e : TypeId} {size bytes B : Nat} (hgd : o.guard = none) (E : El P t e size bytes) (s x : Operand)
    (ho : o.op = .call { callee := .builtin .append, args := #[s, x], argTypes := #[t, t] }) {v : Value} {m c : Nat} {A : Option Addr} {news : List Value} (hs : a.eval s = v) (hx : a.eval x = .slice A m c)
    (hown : w.ownsRow B e size v 0 []) (hl : news.length = m * size) (hnews : 0 < m → NewsOf w A news) (h1 : ∀ u ∈ news, u.oneCell' = true)
    (h63 : m ≤ maxLen) (hbytes : m * bytes ≤ 140737488355328) (hbase : B ≤ w.heap.size)
    (h : ∀ A' cap w', w'.ownsRow B e size (.slice A' m cap) m news → Frm (fun k => v.ownBlock = some k) w w' → K (a.put o.dst (.slice A' m cap)) w') : if Region.wanted o (yielded ops a.tmps) = true then Oper.wp P o a w K Q else X :=
  step_app_src hgd E s x ho hs hx hown hl hnews h1 (by omega) (by rw [Nat.zero_add]; exact hbytes) hbase fun A' cap w' h2 h3 => by
    rw [Nat.zero_add, List.nil_append] at h2
    rw [Nat.zero_add]
    exact h A' cap w' h2 h3
theorem wpl_clone {P : Program} {ops : Array Oper} {rest : List Oper} {o : Oper} {a : Act} {Q : Exit → Act → World → Prop} {w : World} {t e : TypeId} {size bytes B : Nat} (hgd : o.guard = none) (E : El P t e size bytes) (s x : Operand)
    (ho : o.op = .call { callee := .builtin .append, args := #[s, x], argTypes := #[t, t] }) {v : Value} {m c : Nat} {A : Option Addr} {news : List Value} (hs : a.eval s = v) (hx : a.eval x = .slice A m c)
    (hown : w.ownsRow B e size v 0 []) (hl : news.length = m * size) (hnews : 0 < m → NewsOf w A news) (h1 : ∀ u ∈ news, u.oneCell' = true)
    (h63 : m ≤ maxLen) (hbytes : m * bytes ≤ 140737488355328) (hbase : B ≤ w.heap.size)
    (h : ∀ A' cap w', w'.ownsRow B e size (.slice A' m cap) m news → Frm (fun k => v.ownBlock = some k) w w' → wpList P ops Q rest (a.put o.dst (.slice A' m cap)) w') : wpList P ops Q (o :: rest) a w :=
  wpl_app_src hgd E s x ho hs hx hown hl hnews h1 (by omega) (by rw [Nat.zero_add]; exact hbytes) hbase fun A' cap w' h2 h3 => by
    rw [Nat.zero_add, List.nil_append] at h2
    rw [Nat.zero_add]
    exact h A' cap w' h2 h3

end Go.Proofs.Ytemjdmgfilbfaaa
