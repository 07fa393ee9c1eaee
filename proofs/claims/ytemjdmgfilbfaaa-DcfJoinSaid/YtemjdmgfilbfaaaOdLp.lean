/-
  Two dictionaries of one list of entries, side by side.
-/
import Derived.Test.YtemjdmgfilbfaaaOdAc
import Derived.Test.YtemjdmgfilbfaaaOdXo
import Derived.Test.YtemjdmgfilbfaaaOdT
namespace Go.Proofs.Ytemjdmgfilbfaaa
open Go.RowKit
set_option linter.unusedVariables false

/-- A block without cells is an empty row. -/
theorem own0 {w : World} {g B : Nat} {e : TypeId} (size : Nat) (h : w.heap[g]? = some (.cells #[] e (0, 0))) (hB : B ≤ g) : w.ownsRow B e size (.slice (some ⟨g, 0, none⟩) 0 0) 0 [] :=
  ⟨by simp, .inr ⟨g, 0, #[], rfl, hB, h, Nat.le_refl _, by unfold maxLen; omega, by simp, by simp⟩⟩
/-- Bytes of the call's own. -/
structure Byt (w : World) (B : Nat) (A : Option Addr) (n c : Nat) (bs : List UInt8) : Prop where
  at_ : BytesAt w (.slice A n c) bs
  lo : ∀ k, (Value.slice A n c).ownBlock = some k → B ≤ k
theorem Byt.frm {S : Nat → Prop} {w w' : World} {B n c : Nat} {A : Option Addr} {bs : List UInt8} (h : Byt w B A n c bs) (hF : Frm S w w') (hS : ∀ k, B ≤ k → ¬ S k) : Byt w' B A n c bs :=
  ⟨h.at_.frm hF fun k hk => hS k (h.lo k hk), h.lo⟩
theorem Byt.grow {w w' : World} {B n c : Nat} {A : Option Addr} {bs : List UInt8} (h : Byt w B A n c bs) (hF : Frm (fun _ => False) w w') : Byt w' B A n c bs := h.frm hF fun _ _ h => h
/-- What is written to a block without cells leaves bytes alone. -/
theorem Byt.apart {w w' : World} {B n c g : Nat} {A : Option Addr} {bs : List UInt8} {e : TypeId} (h : Byt w B A n c bs) (hg : w.heap[g]? = some (.cells #[] e (0, 0))) (hF : Frm (fun k => (Value.slice (some ⟨g, 0, none⟩) 0 0).ownBlock = some k) w w') : Byt w' B A n c bs := by
  refine ⟨?_, h.lo⟩
  obtain ⟨A', cap, e1, h1, h2, h3⟩ := h.at_
  simp only [Value.slice.injEq] at e1
  obtain ⟨rfl, rfl, rfl⟩ := e1
  refine ⟨A, c, rfl, h1, h2, fun h0 => ?_⟩
  obtain ⟨b, off, rfl, hc⟩ := h3 h0
  refine ⟨b, off, rfl, fun i hi => hF.cell (hc i hi) fun e2 => ?_⟩
  cases e2
  have := cell_at hg (o := off + i)
  rw [hc i hi] at this
  simp at this
theorem Byt.of_row {w : World} {B n c : Nat} {A : Option Addr} {bs : List UInt8} (h : w.ownsRow B 5 1 (.slice A (0 + n) c) (0 + n) ([] ++ bs.map encB)) : Byt w B A n c bs := by
  rw [Nat.zero_add, List.nil_append] at h
  exact ⟨BytesAt.of_row h, fun k hk => (row_block h hk).1⟩

/-- The program's two dictionaries, and the pair that bears the first. -/
structure Duo (w : World) (a b p b2 N : Nat) (l1 l2 : List (Nat × Im)) : Prop where
  hp : w.heap[a]? = some (.cells #[ptr b, ptr p] 52 (0, 0))
  d1 : DAt w b l1
  d2 : DAt w b2 l2
  u1 : ∀ q ∈ l1, q.1 < N
  bn : b < N
  n2 : N ≤ b2
theorem Duo.grow {w w' : World} {a b p b2 N : Nat} {l1 l2 : List (Nat × Im)} (h : Duo w a b p b2 N l1 l2) (hF : Frm (fun _ => False) w w') : Duo w' a b p b2 N l1 l2 :=
  ⟨hF.heap h.hp (fun h => h), h.d1.grow hF, h.d2.grow hF, h.u1, h.bn, h.n2⟩
/-- The first is written to. -/
theorem Duo.w1 {w w' : World} {a b p b2 N : Nat} {l1 l2 l' : List (Nat × Im)} (h : Duo w a b p b2 N l1 l2) (hF : Frm (fun j => ∃ q ∈ l1, j = q.1) w w') (hd : DAt w' b l') (hf : l'.map (·.1) = l1.map (·.1)) : Duo w' a b p b2 N l' l2 := by
  refine ⟨hF.heap h.hp ?_, hd, h.d2.frm hF ?_ ?_ ?_, fun q hq => ?_, h.bn, h.n2⟩
  · rintro ⟨q, hq, rfl⟩
    exact block_ne (h.d1.el q hq) h.hp (by decide) rfl
  · rintro ⟨q, hq, e⟩
    have := h.u1 q hq; have := h.n2; omega
  · rintro q2 hq2 ⟨q, hq, e⟩
    have := h.u1 q hq; have := h.n2; have := h.d2.lo q2 hq2; omega
  · rintro k cur ⟨q, hq, rfl⟩ hk
    exact block_ne (h.d1.el q hq) hk (by decide) rfl
  · have : q.1 ∈ l1.map (·.1) := by rw [← hf]; exact List.mem_map_of_mem hq
    obtain ⟨q', hq', e⟩ := List.mem_map.1 this
    rw [← e]
    exact h.u1 q' hq'
/-- The other one is written to. -/
theorem Duo.w2 {w w' : World} {a b p b2 N : Nat} {l1 l2 l' : List (Nat × Im)} (h : Duo w a b p b2 N l1 l2) (hF : Frm (fun j => ∃ q ∈ l2, j = q.1) w w') (hd : DAt w' b2 l') : Duo w' a b p b2 N l1 l' := by
  refine ⟨hF.heap h.hp ?_, h.d1.frm hF ?_ ?_ ?_, hd, h.u1, h.bn, h.n2⟩
  · rintro ⟨q, hq, rfl⟩
    exact block_ne (h.d2.el q hq) h.hp (by decide) rfl
  · rintro ⟨q, hq, e⟩
    have := h.d2.lo q hq; have := h.n2; have := h.bn; omega
  · rintro q2 hq2 ⟨q, hq, e⟩
    have := h.d2.lo q hq; have := h.n2; have := h.u1 q2 hq2; omega
  · rintro k cur ⟨q, hq, rfl⟩ hk
    exact block_ne (h.d2.el q hq) hk (by decide) rfl
/-- An append to a block of bytes without cells. -/
theorem Duo.app {w w' : World} {a b p b2 N g : Nat} {l1 l2 : List (Nat × Im)} (h : Duo w a b p b2 N l1 l2) (hZ : w.heap[g]? = some (.cells #[] 5 (0, 0))) (hF : Frm (fun k => (Value.slice (some ⟨g, 0, none⟩) 0 0).ownBlock = some k) w w') : Duo w' a b p b2 N l1 l2 := by
  have hD : ∀ b' l, DAt w b' l → DAt w' b' l := fun b' l hd => by
    obtain ⟨v, hO, _⟩ := hd.row
    refine hd.frm hF (fun e => by cases e; exact block_ne hO hZ (by decide) rfl) (fun q hq e => by cases e; exact block_ne (hd.el q hq) hZ (by decide) rfl) (fun k cur e hk => by cases e; exact block_ne hk hZ (by decide) rfl)
  exact ⟨hF.heap h.hp (fun e => by cases e; exact block_ne h.hp hZ (by decide) rfl), hD _ _ h.d1, hD _ _ h.d2, h.u1, h.bn, h.n2⟩
/-- A frame of a dictionary's own items, seen from a heap that was ahead of both. -/
theorem Duo.lo1 {w : World} {a b p b2 N : Nat} {l1 l2 : List (Nat × Im)} (h : Duo w a b p b2 N l1 l2) {B k : Nat} (hB : B ≤ b) (hk : ∃ q ∈ l1, k = q.1) : B ≤ k := by
  obtain ⟨q, hq, rfl⟩ := hk
  exact Nat.le_trans hB (h.d1.lo q hq)
theorem Duo.lo2 {w : World} {a b p b2 N : Nat} {l1 l2 : List (Nat × Im)} (h : Duo w a b p b2 N l1 l2) {B k : Nat} (hB : B ≤ b) (hk : ∃ q ∈ l2, k = q.1) : B ≤ k := by
  obtain ⟨q, hq, rfl⟩ := hk
  have := h.d2.lo q hq; have := h.n2; have := h.bn; omega
theorem Duo.lt1 {w : World} {a b p b2 N : Nat} {l1 l2 : List (Nat × Im)} (h : Duo w a b p b2 N l1 l2) {k : Nat} (hk : ∃ q ∈ l1, k = q.1) : k < w.heap.size := by
  obtain ⟨q, hq, rfl⟩ := hk
  exact h.d1.lt q hq
theorem Duo.lt2 {w : World} {a b p b2 N : Nat} {l1 l2 : List (Nat × Im)} (h : Duo w a b p b2 N l1 l2) {k : Nat} (hk : ∃ q ∈ l2, k = q.1) : k < w.heap.size := by
  obtain ⟨q, hq, rfl⟩ := hk
  exact h.d2.lt q hq
end Go.Proofs.Ytemjdmgfilbfaaa
