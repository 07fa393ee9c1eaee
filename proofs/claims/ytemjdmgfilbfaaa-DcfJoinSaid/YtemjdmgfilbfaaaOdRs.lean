/-
  The document's place and Reset.
-/
import Derived.Test.YtemjdmgfilbfaaaOdFr
import Derived.Test.YtemjdmgfilbfaaaOdNp
namespace Go.Proofs.Ytemjdmgfilbfaaa
open Go.RowKit
set_option linter.unusedVariables false
set_option linter.unusedSimpArgs false

theorem el_Value : El Try.prog 55 36 3 32 := El.of Try.underlying55 (z := .agg #[.int .i64 0, .int .u64 0, .string ⟨#[]⟩]) (by kernel_rfl) rfl (by decide)

set_option maxRecDepth 100000 in
set_option maxHeartbeats 1000000 in
theorem rplace_any (x : En) (w : World) (hx : x.ok) : Calls Try.prog 87 #[valE x] w fun e w' => e = .returned (.int .i64 (plE x)) ∧ Frm (fun _ => False) w w' := by
  obtain ⟨i0, i1, s0, s1, _⟩ := hx
  have E : Hid (x.idx * 256 + x.sub = plE x) := rfl
  unfold valE
  go_enter Try.func87, Try.ntmps87
  go_wp2_with fail
  go_ret
  exact ⟨by rw [← E.out]; go_num, by (repeat' (first | (with_reducible exact Frm.refl _ _) | (with_reducible assumption) | (with_reducible refine Frm.alloc ?_ _) | (with_reducible refine Frm.drew ?_) | (with_reducible refine Frm.drewN ?_ _) | (with_reducible refine Frm.set1 ?_ _) | (with_reducible refine Frm.setCell ?_ ?_ _) | (exact fun h => absurd h (Nat.lt_irrefl _)) | (intro hlt; simp [World.size_alloc, One] at hlt ⊢; omega)))⟩

set_option maxRecDepth 100000 in
set_option maxHeartbeats 4000000 in
theorem rDReset_any (p B : Nat) (es : List En) (sL sV : Value) (w : World) (h1 : w.heap[p]? = some (.cells #[sL, sV] 108 (0, 0))) (h2 : w.ownsRow B 42 14 sL es.length (cellsOf cellsE es)) (hl : es.length ≤ 1024) (hB : B ≤ w.heap.size) :
    Calls Try.prog 60 #[ptr p] w fun e w' => e = .returned (.tuple #[]) ∧ DR w' p B (es.map fun x => (x, x.df)) ∧ Frm (One p) w w' := by
  obtain ⟨A, cap, rfl, q1, q2, q3⟩ := row_open h2
  have HROW := Lib.hid h2
  have HO := Lib.hid h1
  have hcell : ∀ (k : Nat) (hk : k < es.length), ∃ g, A = some ⟨g, 0, none⟩ ∧ g ≠ p ∧ g < w.heap.size ∧ w.cell? ⟨g, k * 14 + 11, none⟩ = some (.int .i64 es[k].df.ty) ∧ w.cell? ⟨g, k * 14 + 12, none⟩ = some (.int .u64 es[k].df.n) ∧ w.cell? ⟨g, k * 14 + 13, none⟩ = some (.string (strB2 es[k].df.b)) := fun k hk => by
    obtain ⟨g, e, _, ⟨cur, hc⟩, _, hcc⟩ := q3 (by omega)
    refine ⟨g, e, block_ne hc h1 (by decide), lt_of_block hc, ?_, ?_, ?_⟩
    · rw [hcc _ (by omega)]
      have := cellsOf_get cellsE_len es k 11 hk (by decide)
      simpa [cellsE] using this
    · rw [hcc _ (by omega)]
      have := cellsOf_get cellsE_len es k 12 hk (by decide)
      simpa [cellsE] using this
    · rw [hcc _ (by omega)]
      have := cellsOf_get cellsE_len es k 13 hk (by decide)
      simpa [cellsE] using this
  have HCE := Lib.hid hcell
  have hfz := frees h1
  have hp0 := lt_of_block h1
  have c1 : w.cell? ⟨p, 1, none⟩ = some sV := cell_at h1
  have HB := Lib.hid hB
  clear h1 h2 q1 q2 q3 hcell hB
  unfold ptr
  go_enter Try.func60, Try.ntmps60
  go_wp2_with fail
  clear hfz c1
  go_loopw [2] (fun i wr => ∃ (k : Nat) (v : Value), k ≤ es.length ∧ i = .int .i64 k ∧ wr.heap[p]? = some (.cells #[.slice A es.length cap, v] 108 (0, 0)) ∧ wr.ownsRow w.heap.size 36 3 v k (cellsOf cellsV ((es.take k).map (·.df))) ∧ Frm (One p) w wr) (fun i _ => es.length - (intOf i).toNat)
  case atStart => exact ⟨0, _, Nat.zero_le _, rfl, heap_set_at HO.out rfl, World.ownsRow_nil _ _ _ _, (Frm.refl _ _).set1 _⟩
  case round =>
    obtain ⟨k, v, hk, rfl, hO, hr, hF⟩ := hrel
    have ct : wr.cell? ⟨p, 0, none⟩ = some (.slice A es.length cap) := cell_at hO
    by_cases hlt : k < es.length
    · obtain ⟨g, rfl, hgp, hgl, e0, e1, e2⟩ := HCE.out k hlt
      have HTK : Hid (cellsOf cellsV ((es.take (k + 1)).map (·.df)) = cellsOf cellsV ((es.take k).map (·.df)) ++ [.int .i64 es[k].df.ty, .int .u64 es[k].df.n, .string (strB2 es[k].df.b)]) := by
        unfold Hid
        rw [List.take_succ_eq_append_getElem hlt, List.map_append]
        unfold cellsOf
        rw [List.flatMap_append]
        simp [cellsV]
      have e0 := hF.cell e0 hgp
      have e1 := hF.cell e1 hgp
      have e2 := hF.cell e2 hgp
      have hgl2 := Nat.lt_of_lt_of_le hgl hF.size
      have hpl := Nat.lt_of_lt_of_le hp0 hF.size
      have hsz := hF.size
      generalize es[k] = x at *
      obtain ⟨rb, hrb⟩ : ∃ rb, rb = cellsOf cellsV ((es.take k).map (·.df)) := ⟨_, rfl⟩
      rw [← hrb] at hr HTK
      clear hrb
      obtain ⟨Av, cv, rfl, g3, g4, _⟩ := row_open hr
      have ct1 : wr.cell? ⟨p, 1, none⟩ = some (.slice Av k cv) := cell_at hO
      have HNE : Hid (∀ j, (Value.slice Av k cv).ownBlock = some j → j ≠ p ∧ w.heap.size ≤ j) := fun j hj => by
        obtain ⟨hk0, cur, hc⟩ := row_block hr hj
        exact ⟨block_ne hc hO (by decide), hk0⟩
      have HR := Lib.hid hr
      have HOO := Lib.hid hO
      have HF := Lib.hid hF
      have hm1 : k + 1 ≤ maxLen := by unfold maxLen; omega
      have hm2 : (k + 1) * 32 ≤ 140737488355328 := by omega
      clear hr hO hF
      go_upto_region 4 with fail
      go_region_law
        ((refine step_app (by rfl) el_Value _ _ (by rfl) (by rfl) (by rfl) (B := w.heap.size) (xs := rb) (arr := #[.int .i64 x.df.ty, .int .u64 x.df.n, .string (strB2 x.df.b)]) (e2 := 36) (fr := (0, 0)) (Frm.row (S := fun _ => False) (by (repeat' (first | (with_reducible exact Frm.refl _ _) | (with_reducible assumption) | (with_reducible refine Frm.alloc ?_ _) | (with_reducible refine Frm.drew ?_) | (with_reducible refine Frm.drewN ?_ _) | (with_reducible refine Frm.set1 ?_ _) | (with_reducible refine Frm.setCell ?_ ?_ _) | (exact fun h => absurd h (Nat.lt_irrefl _)) | (intro hlt; simp [World.size_alloc, One] at hlt ⊢; omega)))) HR.out (fun _ _ h => h)) (heap_new_at (by simp)) (by rfl) (by simp [Value.oneCell']) (by decide) hm1 hm2 (by simp; omega) ?_; intro g2 cap3 w2 hown2 hfr2 hat2 hlt2; have hO2 : w2.heap[p]? = some (.cells #[.slice (some ⟨g, 0, none⟩) es.length cap, .slice Av k cv] 108 (0, 0)) := (by refine hfr2.heap ?_ (fun h => (HNE.out _ h).1 rfl); (repeat (first | (with_reducible exact HOO.out) | (with_reducible apply heap_alloc_old) | (with_reducible apply heap_drewN') | (with_reducible apply heap_drew')))); have hz2 : w2.frozen? ⟨p, 1, none⟩ = false := free_at hO2; have hc2 : w2.cell? ⟨p, 1, none⟩ = some (.slice Av k cv) := cell_at hO2))
      all_goals
        have HO3 := Lib.hid hO2
        have HO4 := Lib.hid hown2
        have HF2 := Lib.hid hfr2
        clear hO2 hown2 hfr2 hc2 hz2 ct ct1 e0 e1 e2
        go_wp2_with fail
        go_roundw
        case rel =>
          refine ⟨k + 1, _, by omega, by go_num, heap_set_at HO3.out rfl, ?_, ?_⟩
          · rw [HTK.out]
            exact Frm.row (S := One p) ((Frm.refl _ _).set1 _) HO4.out (fun j hj e => by cases hj; exact block_ne (row_block HO4.out rfl).2.choose_spec HO3.out (by decide) e)
          · refine Frm.set1 ?_ _
            refine HF.out.trans (T := fun j => (Value.slice Av k cv).ownBlock = some j) (Frm.trans (T := fun j => (Value.slice Av k cv).ownBlock = some j) (b := _) (S := fun j => (Value.slice Av k cv).ownBlock = some j) ?_ HF2.out (fun i _ h => h)) (fun i hi h => absurd hi (Nat.not_lt.2 (HNE.out _ h).2))
            (repeat' (first | (with_reducible exact Frm.refl _ _) | (with_reducible assumption) | (with_reducible refine Frm.alloc ?_ _) | (with_reducible refine Frm.drew ?_) | (with_reducible refine Frm.drewN ?_ _) | (with_reducible refine Frm.set1 ?_ _) | (with_reducible refine Frm.setCell ?_ ?_ _) | (exact fun h => absurd h (Nat.lt_irrefl _)) | (intro hlt; simp [World.size_alloc, One] at hlt ⊢; omega)))
        case measure => simp [intOf]; omega
    · have hkn : k = es.length := by omega
      subst hkn
      rw [List.take_length] at hr
      have HR := Lib.hid hr
      have HOO := Lib.hid hO
      have HF := Lib.hid hF
      clear hr hO hF
      go_wp2_with fail
      refine bodyPost_end (v := .tuple #[]) (by simp [results, Try.results60, go_sem]) rfl ⟨rfl, ⟨_, _, by simpa using HOO.out, ?_, ?_⟩, HF.out⟩
      · have := HF.out.row HROW.out (fun j hj e => by cases e; obtain ⟨_, cur, hc⟩ := row_block HROW.out hj; exact block_ne hc HO.out (by decide) rfl)
        simpa [List.map_map, Function.comp_def] using this
      · have := row_base HR.out HB.out
        simpa [List.map_map, Function.comp_def] using this
end Go.Proofs.Ytemjdmgfilbfaaa
