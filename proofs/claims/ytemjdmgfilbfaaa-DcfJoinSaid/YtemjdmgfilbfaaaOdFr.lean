/-
  The document's Read.
-/
import Derived.Test.YtemjdmgfilbfaaaOdF
namespace Go.Proofs.Ytemjdmgfilbfaaa
open Go.RowKit
set_option linter.unusedVariables false

theorem cellsV_len (v : Va) : (cellsV v).length = 3 := rfl
theorem DR.at_ {w : World} {p B : Nat} {d : List Im} (h : DR w p B d) {k : Nat} (hk : k < d.length) : ∃ gl gv cl cv, w.heap[p]? = some (.cells #[.slice (some ⟨gl, 0, none⟩) d.length cl, .slice (some ⟨gv, 0, none⟩) d.length cv] 108 (0, 0)) ∧ gl < w.heap.size ∧ gv < w.heap.size ∧
    (∀ j, j < 14 → w.cell? ⟨gl, k * 14 + j, none⟩ = (cellsE d[k].1)[j]?) ∧ ∀ j, j < 3 → w.cell? ⟨gv, k * 3 + j, none⟩ = (cellsV d[k].2)[j]? := by
  obtain ⟨sL, sV, h1, h2, h3⟩ := h.ex
  obtain ⟨A, cap, rfl, _, _, q3⟩ := row_open h2
  obtain ⟨A', cap', rfl, _, _, q3'⟩ := row_open h3
  obtain ⟨g, rfl, _, ⟨cur, hc⟩, _, hcc⟩ := q3 (by omega)
  obtain ⟨g', rfl, _, ⟨cur', hc'⟩, _, hcc'⟩ := q3' (by omega)
  refine ⟨g, g', cap, cap', h1, lt_of_block hc, lt_of_block hc', fun j hj => ?_, fun j hj => ?_⟩
  · rw [hcc _ (by omega)]
    have := cellsOf_get cellsE_len (d.map (·.1)) k j (by simpa using hk) hj
    simpa using this
  · rw [hcc' _ (by omega)]
    have := cellsOf_get cellsV_len (d.map (·.2)) k j (by simpa using hk) hj
    simpa using this
theorem find_lt {d : List Im} {i s : Int} {k : Nat} (h : findD d i s = some k) : k < d.length := by
  unfold findD at h
  exact (List.findIdx?_eq_some_iff_getElem.1 h).1

set_option maxRecDepth 100000 in
set_option maxHeartbeats 1000000 in
theorem rDRead_any (p B : Nat) (d : List Im) (i s : Int) (w : World) (h : DR w p B d) (hl : d.length ≤ 1024) (hok : ∀ x ∈ d, x.2.ok) :
    Calls Try.prog 53 #[ptr p, .int .u16 i, .int .u8 s] w (ReadP d i s w) := by
  have HFD := Lib.hid (rDFind_any p B d i s w h hl)
  have HD := Lib.hid h
  have HOK := Lib.hid hok
  clear h hok
  unfold ptr at HFD
  unfold ptr ReadP
  cases hf : findD d i s with
  | none =>
    have hn : findC d i s ≠ 0 := by
      unfold findC
      rw [hf]
      simp only [Option.isSome_none, Bool.false_eq_true, if_false]
      split <;> decide
    have E : Hid (readD d i s = ([], findC d i s)) := by unfold Hid readD; rw [hf]
    rw [hf] at HFD
    have hb : (findC d i s != 0) = true := by simpa using hn
    generalize findC d i s = c at *
    clear hf hn
    go_enter Try.func53, Try.ntmps53
    go_wp2_with (go_at_call 57; refine HFD.out.mono ?_; rintro e w1 ⟨rfl, hF1⟩)
    go_ret2
    exact ⟨_, by rw [E.out]; rfl, by rw [E.out]; exact Fresh8.nil _ _, hF1⟩
  | some k =>
    have hk := find_lt hf
    have hc0 : findC d i s = 0 := by unfold findC; rw [hf]; rfl
    have E : Hid (readD d i s = if d[k].1.acc = 1 then ([], codeNoRead) else ((encV d[k].2).1, 0)) := by unfold Hid readD; rw [hf]; simp [hk]
    rw [hf, hc0] at HFD
    simp only [Option.getD_some] at HFD
    have HEN := Lib.hid (fun W => rEnc_any d[k].2 W (HOK.out _ (List.getElem_mem hk)))
    have hat := HD.out.at_ hk
    clear hf hc0
    generalize d[k] = x at *
    obtain ⟨gl, gv, cl, cv, h1, l1, l2, cL, cV⟩ := hat
    have hc : ∀ W, Frm (fun _ => False) w W → (W.cell? ⟨p, 0, none⟩ = some (.slice (some ⟨gl, 0, none⟩) d.length cl) ∧ W.cell? ⟨p, 1, none⟩ = some (.slice (some ⟨gv, 0, none⟩) d.length cv) ∧ W.cell? ⟨gl, k * 14 + 2, none⟩ = some (.int .i64 x.1.acc)) ∧ W.cell? ⟨gv, k * 3, none⟩ = some (.int .i64 x.2.ty) ∧ W.cell? ⟨gv, k * 3 + 1, none⟩ = some (.int .u64 x.2.n) ∧ W.cell? ⟨gv, k * 3 + 2, none⟩ = some (.string (strB2 x.2.b)) := fun W hF => by
      have k1 := hF.heap h1 (fun h => h)
      exact ⟨⟨cell_at k1, cell_at k1, hF.cell (cL 2 (by decide)) (fun h => h)⟩, hF.cell (cV 0 (by decide)) (fun h => h), hF.cell (cV 1 (by decide)) (fun h => h), hF.cell (cV 2 (by decide)) (fun h => h)⟩
    have HCC := Lib.hid hc
    unfold EncP valV at HEN
    generalize (encV x.2).2 = ec at *
    clear hc h1 cL cV
    by_cases ha : x.1.acc = 1
    · have E2 : Hid (readD d i s = ([], codeNoRead)) := by unfold Hid; rw [E.out, if_pos ha]
      have hb : (x.1.acc == 1) = true := by simpa using ha
      clear E ha
      go_enter Try.func53, Try.ntmps53
      go_wp2_with (go_at_call 57; refine HFD.out.mono ?_; rintro e w1 ⟨rfl, hF1⟩; obtain ⟨⟨u0, u1, u2⟩, u3, u4, u5⟩ := HCC.out w1 hF1; have m1 := Nat.lt_of_lt_of_le l1 hF1.size; have m2 := Nat.lt_of_lt_of_le l2 hF1.size)
      go_ret2
      exact ⟨_, by rw [E2.out]; rfl, by rw [E2.out]; exact Fresh8.nil _ _, hF1⟩
    · have E2 : Hid (readD d i s = ((encV x.2).1, 0)) := by unfold Hid; rw [E.out, if_neg ha]
      have hb : (x.1.acc == 1) = false := by simpa using ha
      clear E ha
      go_enter Try.func53, Try.ntmps53
      go_wp2_with (first | (go_at_call 57; refine HFD.out.mono ?_; rintro e w1 ⟨rfl, hF1⟩; obtain ⟨⟨u0, u1, u2⟩, u3, u4, u5⟩ := HCC.out w1 hF1; have m1 := Nat.lt_of_lt_of_le l1 hF1.size; have m2 := Nat.lt_of_lt_of_le l2 hF1.size; have HF1 := Lib.hid hF1) | (go_at_call 90; refine (HEN.out _).mono ?_; rintro e w2 ⟨sv, rfl, hfr, hF2⟩; have HFR := Lib.hid hfr; clear hfr))
      go_ret2
      exact ⟨_, by rw [E2.out]; rfl, by rw [E2.out]; exact HFR.out.base HF1.out.size, HF1.out.trans' hF2⟩
end Go.Proofs.Ytemjdmgfilbfaaa
