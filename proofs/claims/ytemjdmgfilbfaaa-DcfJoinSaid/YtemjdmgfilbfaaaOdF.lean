/-
  The document's dictionary in memory; Find.
-/
import Derived.Test.YtemjdmgfilbfaaaOdU
namespace Go.Proofs.Ytemjdmgfilbfaaa
open Go.RowKit
set_option linter.unusedVariables false

/-- The document's dictionary: two rows of its own. -/
structure DR (w : World) (p B : Nat) (d : List Im) : Prop where
  ex : ∃ sL sV, w.heap[p]? = some (.cells #[sL, sV] 108 (0, 0)) ∧ w.ownsRow B 42 14 sL d.length (cellsOf cellsE (d.map (·.1))) ∧ w.ownsRow B 36 3 sV d.length (cellsOf cellsV (d.map (·.2)))
theorem DR.grow {w w' : World} {p B : Nat} {d : List Im} (h : DR w p B d) (hF : Frm (fun _ => False) w w') : DR w' p B d := by
  obtain ⟨sL, sV, h1, h2, h3⟩ := h.ex
  exact ⟨sL, sV, hF.heap h1 (fun h => h), hF.row h2 (fun _ _ h => h), hF.row h3 (fun _ _ h => h)⟩

theorem findC_take (d : List Im) (i s : Int) (h : ∀ (t : Nat) (ht : t < d.length), isAt i s d[t] = false) : findD d i s = none ∧ findC d i s = if (d.any fun x => x.1.idx == i) = true then codeNoSub else codeNoObject := by
  have hn : findD d i s = none := by
    unfold findD
    rw [List.findIdx?_eq_none_iff]
    intro x hx
    obtain ⟨t, ht, rfl⟩ := List.getElem_of_mem hx
    exact h t ht
  refine ⟨hn, ?_⟩
  unfold findC
  rw [hn]
  rfl
theorem findC_hit (d : List Im) (i s : Int) (k : Nat) (hk : k < d.length) (h : ∀ (t : Nat) (ht : t < d.length), t < k → isAt i s d[t] = false) (hy : isAt i s d[k] = true) : findD d i s = some k ∧ findC d i s = 0 := by
  have hf : findD d i s = some k := by
    unfold findD
    rw [List.findIdx?_eq_some_iff_getElem]
    exact ⟨hk, hy, fun j hj => by rw [h j (by omega) hj]; simp⟩
  refine ⟨hf, ?_⟩
  unfold findC
  rw [hf]
  rfl

set_option maxRecDepth 100000 in
set_option maxHeartbeats 1000000 in
theorem rDFind_any (p B : Nat) (d : List Im) (i s : Int) (w : World) (h : DR w p B d) (hl : d.length ≤ 1024) :
    Calls Try.prog 57 #[ptr p, .int .u16 i, .int .u8 s] w fun e w' => e = .returned (.tuple #[.int .i64 (((findD d i s).getD 0 : Nat) : Int), .int .u32 (findC d i s)]) ∧ Frm (fun _ => False) w w' := by
  obtain ⟨sL, sV, h1, h2, h3⟩ := h.ex
  obtain ⟨A, cap, rfl, q1, q2, q3⟩ := row_open h2
  have c0 : w.cell? ⟨p, 0, none⟩ = some (.slice A d.length cap) := cell_at h1
  have hcell : ∀ (k : Nat) (hk : k < d.length), ∃ g, A = some ⟨g, 0, none⟩ ∧ g < w.heap.size ∧ w.cell? ⟨g, k * 14, none⟩ = some (.int .u16 d[k].1.idx) ∧ w.cell? ⟨g, k * 14 + 1, none⟩ = some (.int .u8 d[k].1.sub) := fun k hk => by
    obtain ⟨g, e, _, ⟨cur, hc⟩, _, hcc⟩ := q3 (by omega)
    refine ⟨g, e, lt_of_block hc, ?_, ?_⟩
    · rw [hcc _ (by omega)]
      have := cellsOf_get cellsE_len (d.map (·.1)) k 0 (by simpa using hk) (by decide)
      simpa [cellsE] using this
    · rw [hcc _ (by omega)]
      have := cellsOf_get cellsE_len (d.map (·.1)) k 1 (by simpa using hk) (by decide)
      simpa [cellsE] using this
  have HCE := Lib.hid hcell
  clear h h1 h2 h3 q1 q2 q3 hcell
  unfold ptr
  go_enter Try.func57, Try.ntmps57
  go_wp2_with fail
  go_loopw [8, 9] (fun c v wr => ∃ k : Nat, k ≤ d.length ∧ v = .int .i64 k ∧ c = .int .u32 (if ((d.take k).any fun x => x.1.idx == i) = true then codeNoSub else codeNoObject) ∧ (∀ (t : Nat) (ht : t < d.length), t < k → isAt i s d[t] = false) ∧ wr = w) (fun _ v _ => d.length - (intOf v).toNat)
  case atStart => exact ⟨0, by omega, rfl, by simp [codeNoObject], fun t ht h => by omega, rfl⟩
  case round =>
    obtain ⟨k, hk, rfl, rfl, hno, rfl⟩ := hrel
    have HNO := Lib.hid hno
    clear hno
    generalize hcc : (if ((d.take k).any fun x => x.1.idx == i) = true then codeNoSub else codeNoObject) = cc
    have HCN := Lib.hid hcc
    clear hcc
    by_cases hlt : k < d.length
    · obtain ⟨g, rfl, hg, a0, a1⟩ := HCE.out k hlt
      have HT : Hid (((d.take (k + 1)).any fun x => x.1.idx == i) = (((d.take k).any fun x => x.1.idx == i) || (d[k].1.idx == i))) := by
        unfold Hid
        rw [List.take_succ_eq_append_getElem hlt, List.any_append]
        simp
      have HH : Hid (isAt i s d[k] = true → findD d i s = some k ∧ findC d i s = 0) := findC_hit d i s k hlt HNO.out
      have HN2 : Hid (isAt i s d[k] = false → ∀ (t : Nat) (ht : t < d.length), t < k + 1 → isAt i s d[t] = false) := fun h t ht h2 => by
        rcases Nat.lt_or_eq_of_le (Nat.le_of_lt_succ h2) with h3 | rfl
        · exact HNO.out t ht h3
        · exact h
      have HIS : Hid (isAt i s d[k] = ((d[k].1.idx == i) && (d[k].1.sub == s))) := rfl
      generalize isAt i s d[k] = q at *
      generalize ((d.take k).any fun x => x.1.idx == i) = b0 at *
      generalize d[k].1.idx = xi at *
      generalize d[k].1.sub = xs at *
      cases hi : xi == i
      · have HQ : Hid (q = false) := by unfold Hid; rw [HIS.out, hi]; rfl
        go_wp2_with fail
        go_roundw
        case rel => exact ⟨k + 1, by omega, by go_num, by rw [HT.out, hi, Bool.or_false, HCN.out], HN2.out HQ.out, trivial⟩
        case measure => simp [intOf]; omega
      · cases hs : xs == s
        · have HQ : Hid (q = false) := by unfold Hid; rw [HIS.out, hi, hs]; rfl
          go_wp2_with fail
          go_roundw
          case rel => exact ⟨k + 1, by omega, by go_num, by rw [HT.out, hi, Bool.or_true]; rfl, HN2.out HQ.out, trivial⟩
          case measure => simp [intOf]; omega
        · have HQ : Hid (q = true) := by unfold Hid; rw [HIS.out, hi, hs]; rfl
          go_wp2_with fail
          go_ret2
          obtain ⟨f1, f2⟩ := HH.out HQ.out
          exact ⟨by rw [f1, f2]; rfl, Frm.refl _ _⟩
    · have hkn : k = d.length := by omega
      subst hkn
      obtain ⟨f1, f2⟩ := findC_take d i s (fun t ht => HNO.out t ht ht)
      have HF1 := Lib.hid f1
      have HF2 := Lib.hid f2
      clear f1 f2
      rw [List.take_length] at HCN
      rw [HCN.out] at HF2
      go_wp2_with fail
      go_ret2
      exact ⟨by rw [HF1.out, HF2.out]; rfl, Frm.refl _ _⟩
end Go.Proofs.Ytemjdmgfilbfaaa
