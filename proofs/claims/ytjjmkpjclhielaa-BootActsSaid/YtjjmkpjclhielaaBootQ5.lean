/-
  Both boots in memory, and what a step of each leaves.
-/
import Derived.Test.YtjjmkpjclhielaaBootQ4
import Derived.Test.YtjjmkpjclhielaaBootT
namespace Go.Proofs.Ytjjmkpjclhielaa
open Go.RowKit
set_option linter.unusedVariables false

def Both (N : Nat) (w : World) (b d ib lb sb : Nat) (v : Value) (xs : List Pla) (l : List (Nat × Nd)) (t : Int) (hh : Bool) : Prop :=
  BAt w b l t hh ∧ RAt N w d ib lb sb v xs (nds l) t hh ∧ N ≤ b ∧ ∀ q ∈ l, N ≤ q.1

theorem Both.grow {N : Nat} {w w' : World} {b d ib lb sb : Nat} {v : Value} {xs : List Pla} {l : List (Nat × Nd)} {t : Int} {hh : Bool} (h : Both N w b d ib lb sb v xs l t hh) (hF : Frm (fun _ => False) w w') : Both N w' b d ib lb sb v xs l t hh :=
  ⟨h.1.grow hF, h.2.1.grow hF, h.2.2⟩

theorem nodes_ge {N : Nat} {l l' : List (Nat × Nd)} (h : ∀ q ∈ l, N ≤ q.1) (he : l'.map (·.1) = l.map (·.1)) : ∀ q ∈ l', N ≤ q.1 := fun q hq => by
  have : q.1 ∈ l.map (·.1) := by rw [← he]; exact List.mem_map_of_mem hq
  obtain ⟨r, hr, e⟩ := List.mem_map.1 this
  rw [← e]; exact h r hr

theorem bsaw_any (b : Nat) (l : List (Nat × Nd)) (t : Int) (hh : Bool) (n : Int) (s : Sn) (w : World) (h : BAt w b l t hh) (hlk : ∀ y ∈ nds l, 0 ≤ y.looked ∧ y.looked ≤ 1000000) :
    Calls Try.prog 12 #[ptr b, .int .i64 n, valS s] w (SawPost b l t (sawOf ⟨nds l, t, hh⟩ n s) w) := by
  cases hp : placeN (nds l) n with
  | none => exact saw_none b l t hh n s w h hp
  | some k =>
    by_cases hs : (∀ hk : k < l.length, l[k].2.is ≠ 0 ∨ hh = true)
    · exact saw_shut b l t hh n s w h k hp hs
    · obtain ⟨hk, hs⟩ := Classical.not_forall.1 hs
      obtain rfl : hh = false := by
        cases hh with
        | false => rfl
        | true => exact absurd (.inr rfl) hs
      exact saw_open b l t n s w h k hp (fun _ => Classical.byContradiction fun e => hs (.inl e)) (fun q hq => hlk q.2 (List.mem_map_of_mem hq))

/-- The blocks of acts are as they were. -/
def KeepA (w w' : World) : Prop := ∀ (i : Nat) (c : Array Value), w.heap[i]? = some (Obj.cells c 58 (0, 0)) → w'.heap[i]? = some (Obj.cells c 58 (0, 0))

theorem KeepA.code {w w' : World} {b : Nat} {l : List (Nat × Nd)} {t : Int} {hh : Bool} (hB : BAt w b l t hh) (hF : Frm (fun k => k = b ∨ k ∈ l.map (·.1)) w w') : KeepA w w' := fun i c hi => by
  obtain ⟨v, hO, _⟩ := hB.row
  refine hF.heap hi ?_
  rintro (e | hm)
  · exact block_ne hi hO (by decide) e
  · obtain ⟨q, hq, rfl⟩ := List.mem_map.1 hm
    obtain ⟨j, hj, rfl⟩ := List.getElem_of_mem hq
    exact (hB.el j hj).ne hi (by decide) rfl
theorem KeepA.doc {N : Nat} {w w' : World} {d ib lb sb : Nat} {vl : Value} {xs : List Pla} {l : List Nd} {t : Int} {hh : Bool} (h : RAt N w d ib lb sb vl xs l t hh) (hF : Frm (fun j => j = d ∨ j = ib ∨ j = lb ∨ j = sb) w w') : KeepA w w' := fun i c hi => by
  refine hF.heap hi ?_
  rintro (e | e | e | e)
  · exact block_ne hi h.hd (by decide) e
  · exact block_ne hi h.hi (by decide) e
  · exact block_ne hi h.hl (by decide) e
  · exact block_ne hi h.hs (by decide) e

/-- The code has made its step (to r), the document not yet. -/
def Mid (N : Nat) (w : World) (b d ib lb sb : Nat) (v : Value) (xs : List Pla) (l : List (Nat × Nd)) (t : Int) (hh : Bool) (r : Bs) : Prop :=
  ∃ l', BAt w b l' t r.halted ∧ nds l' = r.l ∧ RAt N w d ib lb sb v xs (nds l) t hh ∧ N ≤ b ∧ ∀ q ∈ l', N ≤ q.1
/-- Both have. -/
def Done (N : Nat) (w : World) (b d ib lb sb : Nat) (v : Value) (xs : List Pla) (t : Int) (r : Bs) : Prop := ∃ l', Both N w b d ib lb sb v xs l' t r.halted ∧ nds l' = r.l

theorem Both.code {N : Nat} {w w1 : World} {b d ib lb sb : Nat} {v : Value} {xs : List Pla} {l l' : List (Nat × Nd)} {t : Int} {hh : Bool} {r : Bs} (h : Both N w b d ib lb sb v xs l t hh)
    (h1 : BAt w1 b l' t r.halted) (hn : nds l' = r.l) (hp : l'.map (·.1) = l.map (·.1)) (hF : Frm (fun k => k = b ∨ k ∈ l.map (·.1)) w w1) : Mid N w1 b d ib lb sb v xs l t hh r ∧ KeepA w w1 ∧ Frm (fun j => N ≤ j) w w1 :=
  ⟨⟨l', h1, hn, h.2.1.code h.1 hF h.2.2.1 h.2.2.2, h.2.2.1, nodes_ge h.2.2.2 hp⟩, KeepA.code h.1 hF, hF.mono fun i _ e => by
    rcases e with rfl | hm
    · exact h.2.2.1
    · obtain ⟨q, hq, rfl⟩ := List.mem_map.1 hm
      exact h.2.2.2 q hq⟩
theorem Mid.doc {N : Nat} {w w1 : World} {b d ib lb sb : Nat} {v : Value} {xs : List Pla} {l : List (Nat × Nd)} {t : Int} {hh : Bool} {r : Bs} (h : Mid N w b d ib lb sb v xs l t hh r)
    (h2 : RAt N w1 d ib lb sb v xs r.l t r.halted) (hF : Frm (fun j => j = d ∨ j = ib ∨ j = lb ∨ j = sb) w w1) : Done N w1 b d ib lb sb v xs t r ∧ KeepA w w1 ∧ Frm (fun j => N ≤ j) w w1 := by
  obtain ⟨l', h1, hn, hR, hb, hq⟩ := h
  refine ⟨⟨l', ⟨BAt.doc hR h1 hF, by rw [hn]; exact h2, hb, hq⟩, hn⟩, KeepA.doc hR hF, hF.mono fun i _ e => ?_⟩
  obtain ⟨e1, e2, e3, e4⟩ := hR.lo
  rcases e with rfl | rfl | rfl | rfl <;> assumption

theorem blostB {N : Nat} {w : World} {b d ib lb sb : Nat} {v : Value} {xs : List Pla} {l : List (Nat × Nd)} {t : Int} {hh : Bool} (h : Both N w b d ib lb sb v xs l t hh) (n : Int) :
    Calls Try.prog 21 #[ptr b, .int .i64 n] w fun e w1 => e = .returned (.int .i64 (lostN ⟨nds l, t, hh⟩ n).2) ∧ Mid N w1 b d ib lb sb v xs l t hh (lostN ⟨nds l, t, hh⟩ n).1 ∧ KeepA w w1 ∧ Frm (fun j => N ≤ j) w w1 :=
  (blost_any b l t hh n w h.1).mono fun _ _ ⟨he, _, h1, h2, h3, h4⟩ => ⟨he, h.code h1 h2 h3 h4⟩
theorem rlostB {N : Nat} {w : World} {b d ib lb sb : Nat} {v : Value} {xs : List Pla} {l : List (Nat × Nd)} {t : Int} {hh : Bool} (n : Int) (h : Mid N w b d ib lb sb v xs l t hh (lostN ⟨nds l, t, hh⟩ n).1) :
    Calls Try.prog 22 #[ptr d, .int .i64 n] w fun e w1 => e = .returned (.int .i64 (lostN ⟨nds l, t, hh⟩ n).2) ∧ Done N w1 b d ib lb sb v xs t (lostN ⟨nds l, t, hh⟩ n).1 ∧ KeepA w w1 ∧ Frm (fun j => N ≤ j) w w1 := by
  obtain ⟨l', _, _, hR, _⟩ := id h
  exact (rlost_any N d ib lb sb v xs (nds l) t hh n w hR).mono fun _ _ ⟨he, h1, h2⟩ => ⟨he, h.doc h1 h2⟩
theorem bsawB {N : Nat} {w : World} {b d ib lb sb : Nat} {v : Value} {xs : List Pla} {l : List (Nat × Nd)} {t : Int} {hh : Bool} (h : Both N w b d ib lb sb v xs l t hh) (n : Int) (s : Sn) (hlk : ∀ y ∈ nds l, 0 ≤ y.looked ∧ y.looked ≤ 1000000) :
    Calls Try.prog 12 #[ptr b, .int .i64 n, valS s] w fun e w1 => e = .returned (.tuple #[.int .u8 (sawOf ⟨nds l, t, hh⟩ n s).2.1, .int .i64 (sawOf ⟨nds l, t, hh⟩ n s).2.2.1, .int .i64 (sawOf ⟨nds l, t, hh⟩ n s).2.2.2]) ∧ Mid N w1 b d ib lb sb v xs l t hh (sawOf ⟨nds l, t, hh⟩ n s).1 ∧ KeepA w w1 ∧ Frm (fun j => N ≤ j) w w1 :=
  (bsaw_any b l t hh n s w h.1 hlk).mono fun _ _ ⟨he, _, h1, h2, h3, h4⟩ => ⟨he, h.code h1 h2 h3 h4⟩
theorem rsawB {N : Nat} {w : World} {b d ib lb sb : Nat} {v : Value} {xs : List Pla} {l : List (Nat × Nd)} {t : Int} {hh : Bool} (n : Int) (s : Sn) (hlk : ∀ y ∈ nds l, 0 ≤ y.looked ∧ y.looked ≤ 1000000)
    (hit : ∀ x ∈ xs, x.1.its.length ≤ 9223372036854775807 ∧ ∃ A c, x.2 = .slice A x.1.its.length c) (h : Mid N w b d ib lb sb v xs l t hh (sawOf ⟨nds l, t, hh⟩ n s).1) :
    Calls Try.prog 23 #[ptr d, .int .i64 n, valS s] w fun e w1 => e = .returned (.tuple #[.int .u8 (sawOf ⟨nds l, t, hh⟩ n s).2.1, .int .i64 (sawOf ⟨nds l, t, hh⟩ n s).2.2.1, .int .i64 (sawOf ⟨nds l, t, hh⟩ n s).2.2.2]) ∧ Done N w1 b d ib lb sb v xs t (sawOf ⟨nds l, t, hh⟩ n s).1 ∧ KeepA w w1 ∧ Frm (fun j => N ≤ j) w w1 := by
  obtain ⟨l', _, _, hR, _⟩ := id h
  exact (rsaw_any N d ib lb sb v xs (nds l) t hh n s w hR hlk hit).mono fun _ _ ⟨he, h1, h2⟩ => ⟨he, h.doc h1 h2⟩
theorem plans_hit {w : World} {v : Value} {xs : List Pla} (h : PlansAt w v xs) : ∀ x ∈ xs, x.1.its.length ≤ 9223372036854775807 ∧ ∃ A c, x.2 = .slice A x.1.its.length c := fun x hx => by
  obtain ⟨ys, hy, hb⟩ := h.2 x hx
  obtain ⟨A, c, e, hm, _⟩ := hy.open_
  rw [← hb]
  exact ⟨by simpa [maxLen] using hm, A, c, by rw [e]; simp⟩
end Go.Proofs.Ytjjmkpjclhielaa
