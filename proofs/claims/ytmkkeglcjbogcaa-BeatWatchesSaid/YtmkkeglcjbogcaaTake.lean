/-
  Take, whatever comes; and that the law's own look at the living ('lives') is true.
-/
import Derived.Test.YtmkkeglcjbogcaaSame
import Derived.Test.YtmkkeglcjbogcaaHeart
namespace Go.Proofs.Ytmkkeglcjbogcaa
open Go.RowKit
set_option linter.unusedVariables false

/-- A beat of bytes bs comes of node n. -/
def takeOf (l : List (Nat × Wd)) (n : Int) (bs : List UInt8) : List (Nat × Wd) × List News × Bool :=
  match l.findIdx? (fun q => decide (q.2.node = n)) with
  | none => (l, [], false)
  | some k => if bs.length = 1 then (match l[k]? with
      | none => (l, [], false)
      | some q => (l.set k (q.1, (q.2.take (bs.headD 0).toNat).1), (q.2.take (bs.headD 0).toNat).2)) else (l, [], false)

def TakeAny (b : Nat) (l : List (Nat × Wd)) (n : Int) (bs : List UInt8) (w : World) (e : Ending) (w' : World) : Prop :=
  ∃ v, e = .returned (.tuple #[v, .bool (takeOf l n bs).2.2]) ∧ w'.ownsRow w.heap.size 48 3 v (takeOf l n bs).2.1.length (newsCells (takeOf l n bs).2.1) ∧
    WAt w' b (takeOf l n bs).1 ∧ Frm (fun k => k ∈ l.map (·.1)) w w'

theorem take_any (b : Nat) (l : List (Nat × Wd)) (n : Int) (v : Value) (bs : List UInt8) (w : World) (h : WAt w b l) (hv : BytesAt w v bs) :
    Calls Try.prog 20 #[ptr b, .int .i64 n, v] w (TakeAny b l n bs w) := by
  by_cases hin : n ∈ nodes l
  · obtain ⟨k, hk, hn, hno⟩ := nodes_in hin
    have hf : l.findIdx? (fun q => decide (q.2.node = n)) = some k := by
      rw [List.findIdx?_eq_some_iff_getElem]
      refine ⟨hk, by simpa using hn, fun j hj => ?_⟩
      have := hno j hj
      rw [List.getD_eq_getElem?_getD, List.getElem?_eq_getElem (by simp [nodes]; omega)] at this
      simpa [nodes] using this
    obtain ⟨A, cap, rfl, h1, h2, h3⟩ := hv
    by_cases hl : bs.length = 1
    · obtain ⟨c, rfl⟩ : ∃ c, bs = [c] := by
        match bs, hl with
        | [c], _ => exact ⟨c, rfl⟩
      obtain ⟨q, o, rfl, hc⟩ := h3 (by simp)
      have hc := hc 0 (by simp)
      simp only [Nat.add_zero, List.getD_cons_zero] at hc
      have hE : takeOf l n [c] = (l.set k (l[k].1, (l[k].2.take c.toNat).1), (l[k].2.take c.toNat).2) := by
        unfold takeOf
        rw [hf]
        simp [hk]
      have fin : ∀ (e : Ending) (w' : World), TakePost b k l[k].1 l l[k].2 c.toNat w e w' → TakeAny b l n [c] w e w' := by
        rintro e w' ⟨v, he, hr, hW, hF⟩
        unfold TakeAny
        rw [hE]
        exact ⟨v, he, hr, hW, hF.mono fun i _ (hi : i = l[k].1) => by rw [hi]; exact List.mem_map_of_mem (List.getElem_mem hk)⟩
      by_cases c0 : c.toNat = 0
      · rw [c0] at hc fin; exact (take_hit0 b l n q o cap w h k hk hn hno hc).mono fin
      · by_cases c4 : c.toNat = 4
        · rw [c4] at hc fin; exact (take_hit4 b l n q o cap w h k hk hn hno hc).mono fin
        · by_cases c5 : c.toNat = 5
          · rw [c5] at hc fin; exact (take_hit5 b l n q o cap w h k hk hn hno hc).mono fin
          · by_cases c127 : c.toNat = 127
            · rw [c127] at hc fin; exact (take_hit127 b l n q o cap w h k hk hn hno hc).mono fin
            · exact (take_other b l n q o cap _ w h k hk hn hno hc (by omega) (by have := c.toNat_lt; omega) (by omega) (by omega) (by omega) (by omega)).mono fin
    · have hE : takeOf l n bs = (l, [], false) := by unfold takeOf; rw [hf]; simp [hl]
      refine (take_long b l n A bs.length cap w h k hk hn hno hl).mono ?_
      rintro e w' ⟨rfl, hF⟩
      unfold TakeAny
      rw [hE]
      exact ⟨_, rfl, World.ownsRow_nil _ _ _ _, h.frm hF (fun h => h) (fun _ _ _ _ _ h => h), hF.mono fun _ _ h => h.elim⟩
  · have hf : l.findIdx? (fun q => decide (q.2.node = n)) = none := by
      rw [List.findIdx?_eq_none_iff]
      intro q hq
      simp only [decide_eq_false_iff_not]
      exact fun e => hin (by rw [← e]; exact List.mem_map_of_mem hq)
    have hE : takeOf l n bs = (l, [], false) := by unfold takeOf; rw [hf]
    refine (take_miss b l n v w h (nodes_out hin)).mono ?_
    rintro e w' ⟨rfl, hF⟩
    unfold TakeAny
    rw [hE]
    exact ⟨_, rfl, World.ownsRow_nil _ _ _ _, h.frm hF (fun h => h) (fun _ _ _ _ _ h => h), hF.mono fun _ _ h => h.elim⟩

end Go.Proofs.Ytmkkeglcjbogcaa
