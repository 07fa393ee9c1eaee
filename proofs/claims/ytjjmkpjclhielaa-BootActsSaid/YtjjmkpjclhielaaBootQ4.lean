/-
  What one boot's step leaves of the other.
-/
import Derived.Test.YtjjmkpjclhielaaBootQ3
namespace Go.Proofs.Ytjjmkpjclhielaa
open Go.RowKit
set_option linter.unusedVariables false

theorem NodeAt.ne {w : World} {p i : Nat} {x : Nd} {c : Array Value} {ty : Nat} (h : NodeAt w p x) (hi : w.heap[i]? = some (.cells c ty (0, 0))) (hn : 74 ≠ ty) : p ≠ i := by
  obtain ⟨A, cc, _, hh⟩ := h
  exact block_ne hh hi hn

theorem RAt.code {N : Nat} {w w' : World} {d ib lb sb b : Nat} {vl : Value} {xs : List Pla} {l : List Nd} {l' : List (Nat × Nd)} {t t' : Int} {hh hh' : Bool} (h : RAt N w d ib lb sb vl xs l t hh) (hB : BAt w b l' t' hh')
    (hF : Frm (fun k => k = b ∨ k ∈ l'.map (·.1)) w w') (hb : N ≤ b) (hl : ∀ q ∈ l', N ≤ q.1) : RAt N w' d ib lb sb vl xs l t hh := by
  obtain ⟨v, hO, _⟩ := hB.row
  have hq : ∀ (i : Nat) (c : Array Value) (ty : Nat), w.heap[i]? = some (.cells c ty (0, 0)) → 74 ≠ ty → i ∉ l'.map (·.1) := fun i c ty hi hn hm => by
    obtain ⟨q, hq, rfl⟩ := List.mem_map.1 hm
    obtain ⟨j, hj, rfl⟩ := List.getElem_of_mem hq
    exact (hB.el j hj).ne hi hn rfl
  refine h.frm hF ?_ ?_ ?_ ?_ ?_
  · exact fun e => e.elim (block_ne h.hd hO (by decide)) (hq _ _ _ h.hd (by decide))
  · exact fun e => e.elim (block_ne h.hi hO (by decide)) (hq _ _ _ h.hi (by decide))
  · exact fun e => e.elim (block_ne h.hl hO (by decide)) (hq _ _ _ h.hl (by decide))
  · exact fun e => e.elim (block_ne h.hs hO (by decide)) (hq _ _ _ h.hs (by decide))
  · intro j hj e
    rcases e with rfl | hm
    · omega
    · obtain ⟨q, hq, rfl⟩ := List.mem_map.1 hm
      have := hl q hq
      omega
theorem BAt.doc {N : Nat} {w w' : World} {d ib lb sb b : Nat} {vl : Value} {xs : List Pla} {l : List Nd} {l' : List (Nat × Nd)} {t t' : Int} {hh hh' : Bool} (h : RAt N w d ib lb sb vl xs l t hh) (hB : BAt w b l' t' hh')
    (hF : Frm (fun j => j = d ∨ j = ib ∨ j = lb ∨ j = sb) w w') : BAt w' b l' t' hh' := by
  obtain ⟨v, hO, _⟩ := hB.row
  refine hB.frm hF ?_ ?_ ?_
  · rintro (e | e | e | e)
    · exact block_ne hO h.hd (by decide) e
    · exact block_ne hO h.hi (by decide) e
    · exact block_ne hO h.hl (by decide) e
    · exact block_ne hO h.hs (by decide) e
  · intro q hq
    obtain ⟨j, hj, rfl⟩ := List.getElem_of_mem hq
    rintro (e | e | e | e)
    · exact (hB.el j hj).ne h.hd (by decide) e
    · exact (hB.el j hj).ne h.hi (by decide) e
    · exact (hB.el j hj).ne h.hl (by decide) e
    · exact (hB.el j hj).ne h.hs (by decide) e
  · rintro k cur (rfl | rfl | rfl | rfl) hc
    · exact block_ne h.hd hc (by decide) rfl
    · exact block_ne h.hi hc (by decide) rfl
    · exact block_ne h.hl hc (by decide) rfl
    · exact block_ne h.hs hc (by decide) rfl
end Go.Proofs.Ytjjmkpjclhielaa
