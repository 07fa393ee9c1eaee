/-
  Saw, at a node that is open.
-/
import Derived.Test.YtjjmkpjclhielaaBootS
namespace Go.Proofs.Ytjjmkpjclhielaa
open Go.RowKit
set_option linter.unusedVariables false

theorem seen_run {x : Nd} {s : Sn} {t : Int} (h : (judgeOf x.p s).1 = 0 ∨ (judgeOf x.p s).1 = 76) : x.seen s t = ⟨x.p, 1, x.looked + 1, (judgeOf x.p s).1⟩ := by simp [Nd.seen, h]
theorem seen_up {x : Nd} {s : Sn} {t : Int} (h : ¬ ((judgeOf x.p s).1 = 0 ∨ (judgeOf x.p s).1 = 76)) (h2 : againOf (judgeOf x.p s).1 = false ∨ t ≤ x.looked + 1) : x.seen s t = ⟨x.p, 2, x.looked + 1, (judgeOf x.p s).1⟩ := by simp [Nd.seen, h, h2]
theorem seen_still {x : Nd} {s : Sn} {t : Int} (h : ¬ ((judgeOf x.p s).1 = 0 ∨ (judgeOf x.p s).1 = 76)) (h2 : ¬ (againOf (judgeOf x.p s).1 = false ∨ t ≤ x.looked + 1)) : x.seen s t = ⟨x.p, 0, x.looked + 1, (judgeOf x.p s).1⟩ := by simp [Nd.seen, h, h2]

set_option maxRecDepth 100000 in
set_option maxHeartbeats 4000000 in
theorem saw_open (b : Nat) (l : List (Nat × Nd)) (t : Int) (n : Int) (s : Sn) (w : World) (h : BAt w b l t false) (k : Nat) (hp : placeN (nds l) n = some k) (hs : ∀ hk : k < l.length, l[k].2.is = 0)
    (hlk : ∀ q ∈ l, 0 ≤ q.2.looked ∧ q.2.looked ≤ 1000000) :
    Calls Try.prog 12 #[ptr b, .int .i64 n, valS s] w (SawPost b l t (sawOf ⟨nds l, t, false⟩ n s) w) := by
  have hg : Hid (BAt (w.alloc (.cells #[.bool s.there, .int .u32 s.dev, .int .u32 s.i0, .int .u32 s.i1, .int .u32 s.i2, .int .u32 s.i3, .int .u32 s.day, .int .u32 s.time, .int .i64 s.state, .int .u32 s.code, .bool s.beat] 40)) b l t false) := h.grow (by (repeat' (first | (with_reducible exact Frm.refl _ _) | (with_reducible assumption) | (with_reducible refine Frm.alloc ?_ _) | (with_reducible refine Frm.drew ?_) | (with_reducible refine Frm.drewN ?_ _) | (with_reducible refine Frm.set1 ?_ _) | (with_reducible refine Frm.setCell ?_ ?_ _) | (exact fun h => absurd h (Nat.lt_irrefl _)) | (intro hlt; simp [World.size_alloc, One] at hlt ⊢; omega))))
  obtain ⟨hk, hkn, hc⟩ := of_some hg.out hp
  have hs := hs hk
  have hlk := hlk _ (List.getElem_mem hk)
  have E : Hid (sawOf ⟨nds l, t, false⟩ n s = (⟨(nds l).set k (l[k].2.seen s t), t, decide ((l[k].2.seen s t).is = 2) && l[k].2.p.mand⟩, (judgeOf l[k].2.p s).1, (judgeOf l[k].2.p s).2, 0)) :=
    sawOf_open (b := ⟨nds l, t, false⟩) s hp (nds_get hk) hs rfl
  have H := Lib.hid hc
  obtain ⟨A, cc, hil, hx⟩ := h.el k hk
  obtain ⟨A1, cap, hO, _, _⟩ := h.open_
  have HB := Lib.hid h
  have hst := Lib.hid (fst_set hk (l[k].2.seen s t))
  have HUPD : Hid (∀ (wa wb : World), BAt wa b l t false → Frm (fun j => j = b ∨ j = l[k].1) wa wb → (∀ hh', (∀ v, wa.heap[b]? = some (.cells #[v, .int .i64 t, .bool false] 64 (0, 0)) → wb.heap[b]? = some (.cells #[v, .int .i64 t, .bool hh'] 64 (0, 0))) → NodeAt wb l[k].1 (l[k].2.seen s t) →
      BAt wb b (l.set k (l[k].1, l[k].2.seen s t)) t hh')) := fun wa wb ha hF hh' hb hn => ha.upd hk _ hF hb hn
  have hmem : Hid (l[k].1 ∈ l.map (·.1)) := List.mem_map_of_mem (List.getElem_mem hk)
  have hx' := hx
  clear hp hc hkn h
  have hdp : b ≠ l[k].1 := block_ne hO hx (by decide)
  generalize hq : l[k] = q at *
  obtain ⟨p, x⟩ := q
  simp only at hs hlk hil hx E H hmem hdp hst HUPD
  have d0 : w.cell? ⟨p, 0, none⟩ = some (.int .i64 x.p.node) := cell_at hx
  have d1 : w.cell? ⟨p, 1, none⟩ = some (.int .u32 x.p.dev) := cell_at hx
  have d2 : w.cell? ⟨p, 2, none⟩ = some (.int .u32 x.p.i0) := cell_at hx
  have d3 : w.cell? ⟨p, 3, none⟩ = some (.int .u32 x.p.i1) := cell_at hx
  have d4 : w.cell? ⟨p, 4, none⟩ = some (.int .u32 x.p.i2) := cell_at hx
  have d5 : w.cell? ⟨p, 5, none⟩ = some (.int .u32 x.p.i3) := cell_at hx
  have d6 : w.cell? ⟨p, 6, none⟩ = some (.int .u32 x.p.day) := cell_at hx
  have d7 : w.cell? ⟨p, 7, none⟩ = some (.int .u32 x.p.time) := cell_at hx
  have d8 : w.cell? ⟨p, 8, none⟩ = some (.slice A x.p.its.length cc) := cell_at hx
  have d9 : w.cell? ⟨p, 9, none⟩ = some (.bool x.p.mand) := cell_at hx
  have d10 : w.cell? ⟨p, 10, none⟩ = some (.bool x.p.keep) := cell_at hx
  have d11 : w.cell? ⟨p, 11, none⟩ = some (.int .i64 0) := by rw [← hs]; exact cell_at hx
  have c2 : w.cell? ⟨b, 2, none⟩ = some (.bool false) := cell_at hO
  have hpl := lt_of_block hx
  have hbl := lt_of_block hO
  have HJ := Lib.hid (fun W => judge_any x.p s A cc W hil)
  have HX := Lib.hid hx
  have HS := Lib.hid hs
  have HONE := Lib.hid (judge_one x.p s)
  have HR := Lib.hid (fun h => seen_run (x := x) (s := s) (t := t) h)
  have HU := Lib.hid (fun h h2 => seen_up (x := x) (s := s) (t := t) h h2)
  have HV := Lib.hid (fun h h2 => seen_still (x := x) (s := s) (t := t) h h2)
  unfold JudgeP at HJ
  obtain ⟨c, hc⟩ : ∃ c, (judgeOf x.p s).1 = c := ⟨_, rfl⟩
  obtain ⟨todo, htd⟩ : ∃ c, (judgeOf x.p s).2 = c := ⟨_, rfl⟩
  rw [hc, htd] at E HONE
  rw [hc] at HR HU HV
  simp only [hc, htd] at HJ
  clear hc htd
  clear hx hO hs hx'
  unfold ptr valS valP at *
  go_enter Try.func12, Try.ntmps12
  go_upto_region 6 with (go_at_call 26; refine H.out.mono ?_; rintro e w' ⟨rfl, m, rfl⟩)
  go_cut [10, 11] (fun u v wx => SawCut b p x c todo A cc l t w u v wx)
  case first =>
    go_region_law (refine step_call 29 (by rfl) (by rfl) Try.func29 (by rfl) (by rfl) (by rfl) ((HJ.out _).mono ?_); rintro e w3 ⟨rfl, hF3⟩; refine CallK.ret ?_)
    all_goals
      have hF3' : Frm (fun _ => False) w w3 := Frm.trans' (by (repeat' (first | (with_reducible exact Frm.refl _ _) | (with_reducible assumption) | (with_reducible refine Frm.alloc ?_ _) | (with_reducible refine Frm.drew ?_) | (with_reducible refine Frm.drewN ?_ _) | (with_reducible refine Frm.set1 ?_ _) | (with_reducible refine Frm.setCell ?_ ?_ _) | (exact fun h => absurd h (Nat.lt_irrefl _)) | (intro hlt; simp [World.size_alloc, One] at hlt ⊢; omega)))) hF3
      go_wp2_with fail
      go_meet
      exact ⟨rfl, rfl, HB.out.grow hF3', hF3', hF3'.heap HX.out (fun h => h)⟩
  case rest =>
    obtain ⟨rfl, rfl, hB, hF, hx⟩ := hcut
    have e9 : wc.cell? ⟨p, 9, none⟩ = some (.bool x.p.mand) := cell_at hx
    have e11 : wc.cell? ⟨p, 11, none⟩ = some (.int .i64 x.is) := cell_at hx
    have e12 : wc.cell? ⟨p, 12, none⟩ = some (.int .i64 x.looked) := cell_at hx
    have e13 : wc.cell? ⟨p, 13, none⟩ = some (.int .u8 x.status) := cell_at hx
    have hfp := frees hx
    obtain ⟨A5, cap5, hO5, _, _⟩ := hB.open_
    have f1 : wc.cell? ⟨b, 1, none⟩ = some (.int .i64 t) := cell_at hO5
    have f2 : wc.cell? ⟨b, 2, none⟩ = some (.bool false) := cell_at hO5
    have hfb := frees hO5
    have hpl5 := lt_of_block hx
    have hbl5 := lt_of_block hO5
    have HX5 := Lib.hid hx
    have HO5 := Lib.hid hO5
    have HB5 := Lib.hid hB
    have HF5 := Lib.hid hF
    have hdp2 : p ≠ b := fun e => hdp e.symm
    have hback : Hid (∀ wb, Frm (fun j => j = b ∨ j = p) wc wb → Frm (fun k => k = b ∨ k ∈ l.map (·.1)) w wb) := fun wb hf => (HF5.out.mono (T := fun k => k = b ∨ k ∈ l.map (·.1)) (fun _ _ h => h.elim)).trans hf (fun i hi h => h.imp id (fun e => by rw [e]; exact hmem.out))
    have hl0 := hlk.1
    have hl1 := hlk.2
    clear hx hB hF hO5 d0 d1 d2 d3 d4 d5 d6 d7 d8 d9 d10 d11 c2
    obtain ⟨lk, hlkk⟩ : ∃ n, x.looked = n := ⟨_, rfl⟩
    rw [hlkk] at e12 hl0 hl1 HR HU HV
    clear hlk
    obtain ⟨md, hmd⟩ : ∃ n, x.p.mand = n := ⟨_, rfl⟩
    rw [hmd] at e9 E
    have HMD := Lib.hid hmd
    have HLK := Lib.hid hlkk
    clear hmd hlkk
    by_cases h1 : c = 0 ∨ c = 76
    · have hsn := HR.out h1
      rw [hsn] at E HUPD hst
      simp only [show decide ((1 : Int) = 2) = false from rfl, Bool.false_and] at E
      have h1' : (todo == 1) = true ∨ ((todo == 1) = false ∧ (c == 76) = true) := by
        by_cases ht : todo = 1
        · left; simpa using ht
        · right
          refine ⟨by simpa using ht, ?_⟩
          have hc0 : c ≠ 0 := fun e => ht (HONE.out.2 e)
          simpa using h1.resolve_left hc0
      clear h1 hsn
      rcases h1' with b1 | ⟨b1, b2⟩
      all_goals
        go_wp2_with fail
        go_ret3
        refine ⟨by rw [E.out]; rfl, _, ?_, by rw [E.out]; exact nds_set _ _ _ _, hst.out, hback.out _ (by (repeat' (first | (with_reducible exact Frm.refl _ _) | (with_reducible assumption) | (with_reducible refine Frm.setCell ?_ ?_ _) | (with_reducible refine Frm.drewN ?_ _) | (exact fun _ => Or.inl rfl) | (exact fun _ => Or.inr rfl))))⟩
        rw [E.out]
        refine HUPD.out wc _ HB5.out (by (repeat' (first | (with_reducible exact Frm.refl _ _) | (with_reducible assumption) | (with_reducible refine Frm.setCell ?_ ?_ _) | (with_reducible refine Frm.drewN ?_ _) | (exact fun _ => Or.inl rfl) | (exact fun _ => Or.inr rfl)))) false (fun v hv => ?_) ⟨A, cc, hil, ?_⟩
        · (apply heap_fin; (case h => (repeat (first | (with_reducible exact hv) | (with_reducible apply heap_alloc_old) | (with_reducible apply heap_drewN') | (with_reducible apply heap_drew') | (with_reducible apply heap_set_same) | (with_reducible refine heap_set_other ?_ (by simp only []; omega)) | (with_reducible exact heap_new_at (by simp))))); (case e => rfl))
        · (apply heap_fin; (case h => (repeat (first | (with_reducible exact HX5.out) | (with_reducible apply heap_alloc_old) | (with_reducible apply heap_drewN') | (with_reducible apply heap_drew') | (with_reducible apply heap_set_same) | (with_reducible refine heap_set_other ?_ (by simp only []; omega)) | (with_reducible exact heap_new_at (by simp))))); (case e => rfl))
    · have b1 : (todo == 1) = false := by
        have : todo ≠ 1 := fun e => h1 (.inl (HONE.out.1 e))
        simpa using this
      have b2 : (c == 76) = false := by
        have : c ≠ 76 := fun e => h1 (.inr e)
        simpa using this
      have hag := fun W => again_any c W
      by_cases ha : againOf c = false ∨ t ≤ lk + 1
      · have hsn := HU.out h1 ha
        rw [hsn] at E HUPD hst
        simp only [show decide ((2 : Int) = 2) = true from rfl, Bool.true_and] at E
        cases hac : againOf c with
        | false =>
          rw [hac] at hag
          have HAG := Lib.hid hag
          clear hag ha hac
          clear h1 hsn
          go_wp2_with fail
          go_quiet ((go_at_call 30; exact Calls.quiet_of_same (HAG.out _)))
          go_wp2_with fail
          all_goals
            go_ret3
            refine ⟨by rw [E.out]; rfl, _, ?_, by rw [E.out]; exact nds_set _ _ _ _, hst.out, hback.out _ (by (repeat' (first | (with_reducible exact Frm.refl _ _) | (with_reducible assumption) | (with_reducible refine Frm.setCell ?_ ?_ _) | (with_reducible refine Frm.drewN ?_ _) | (exact fun _ => Or.inl rfl) | (exact fun _ => Or.inr rfl))))⟩
            rw [E.out]
            refine HUPD.out wc _ HB5.out (by (repeat' (first | (with_reducible exact Frm.refl _ _) | (with_reducible assumption) | (with_reducible refine Frm.setCell ?_ ?_ _) | (with_reducible refine Frm.drewN ?_ _) | (exact fun _ => Or.inl rfl) | (exact fun _ => Or.inr rfl)))) md (fun v hv => ?_) ⟨A, cc, hil, ?_⟩
            · (apply heap_fin; (case h => (repeat (first | (with_reducible exact hv) | (with_reducible apply heap_alloc_old) | (with_reducible apply heap_drewN') | (with_reducible apply heap_drew') | (with_reducible apply heap_set_same) | (with_reducible refine heap_set_other ?_ (by simp only []; omega)) | (with_reducible exact heap_new_at (by simp))))); (case e => rfl))
            · (apply heap_fin; (case h => (repeat (first | (with_reducible exact HX5.out) | (with_reducible apply heap_alloc_old) | (with_reducible apply heap_drewN') | (with_reducible apply heap_drew') | (with_reducible apply heap_set_same) | (with_reducible refine heap_set_other ?_ (by simp only []; omega)) | (with_reducible exact heap_new_at (by simp))))); (case e => rfl))
        | true =>
          rw [hac] at hag
          have HAG := Lib.hid hag
          have hle : t ≤ lk + 1 := by rw [hac] at ha; simpa using ha
          clear hag ha hac
          clear h1 hsn
          go_wp2_with fail
          go_quiet ((go_at_call 30; exact Calls.quiet_of_same (HAG.out _)))
          go_wp2_with fail
          all_goals
            go_ret3
            refine ⟨by rw [E.out]; rfl, _, ?_, by rw [E.out]; exact nds_set _ _ _ _, hst.out, hback.out _ (by (repeat' (first | (with_reducible exact Frm.refl _ _) | (with_reducible assumption) | (with_reducible refine Frm.setCell ?_ ?_ _) | (with_reducible refine Frm.drewN ?_ _) | (exact fun _ => Or.inl rfl) | (exact fun _ => Or.inr rfl))))⟩
            rw [E.out]
            refine HUPD.out wc _ HB5.out (by (repeat' (first | (with_reducible exact Frm.refl _ _) | (with_reducible assumption) | (with_reducible refine Frm.setCell ?_ ?_ _) | (with_reducible refine Frm.drewN ?_ _) | (exact fun _ => Or.inl rfl) | (exact fun _ => Or.inr rfl)))) md (fun v hv => ?_) ⟨A, cc, hil, ?_⟩
            · (apply heap_fin; (case h => (repeat (first | (with_reducible exact hv) | (with_reducible apply heap_alloc_old) | (with_reducible apply heap_drewN') | (with_reducible apply heap_drew') | (with_reducible apply heap_set_same) | (with_reducible refine heap_set_other ?_ (by simp only []; omega)) | (with_reducible exact heap_new_at (by simp))))); (case e => rfl))
            · (apply heap_fin; (case h => (repeat (first | (with_reducible exact HX5.out) | (with_reducible apply heap_alloc_old) | (with_reducible apply heap_drewN') | (with_reducible apply heap_drew') | (with_reducible apply heap_set_same) | (with_reducible refine heap_set_other ?_ (by simp only []; omega)) | (with_reducible exact heap_new_at (by simp))))); (case e => rfl))
      · have hsn : x.seen s t = ⟨x.p, x.is, lk + 1, c⟩ := by rw [HV.out h1 ha, HS.out]
        have hi2 : decide (x.is = 2) = false := by rw [HS.out]; rfl
        rw [hsn] at E HUPD hst
        simp only [hi2, Bool.false_and] at E
        clear hi2
        have hac : againOf c = true := by simp at ha; exact ha.1
        rw [hac] at hag
        have HAG := Lib.hid hag
        have hle : lk + 1 < t := by rw [hac] at ha; simp at ha; omega
        clear hag ha hac
        clear h1 hsn
        go_wp2_with fail
        go_quiet ((go_at_call 30; exact Calls.quiet_of_same (HAG.out _)))
        go_wp2_with fail
        all_goals
          go_ret3
          refine ⟨by rw [E.out]; rfl, _, ?_, by rw [E.out]; exact nds_set _ _ _ _, hst.out, hback.out _ (by (repeat' (first | (with_reducible exact Frm.refl _ _) | (with_reducible assumption) | (with_reducible refine Frm.setCell ?_ ?_ _) | (with_reducible refine Frm.drewN ?_ _) | (exact fun _ => Or.inl rfl) | (exact fun _ => Or.inr rfl))))⟩
          rw [E.out]
          refine HUPD.out wc _ HB5.out (by (repeat' (first | (with_reducible exact Frm.refl _ _) | (with_reducible assumption) | (with_reducible refine Frm.setCell ?_ ?_ _) | (with_reducible refine Frm.drewN ?_ _) | (exact fun _ => Or.inl rfl) | (exact fun _ => Or.inr rfl)))) false (fun v hv => ?_) ⟨A, cc, hil, ?_⟩
          · (apply heap_fin; (case h => (repeat (first | (with_reducible exact hv) | (with_reducible apply heap_alloc_old) | (with_reducible apply heap_drewN') | (with_reducible apply heap_drew') | (with_reducible apply heap_set_same) | (with_reducible refine heap_set_other ?_ (by simp only []; omega)) | (with_reducible exact heap_new_at (by simp))))); (case e => rfl))
          · (apply heap_fin; (case h => (repeat (first | (with_reducible exact HX5.out) | (with_reducible apply heap_alloc_old) | (with_reducible apply heap_drewN') | (with_reducible apply heap_drew') | (with_reducible apply heap_set_same) | (with_reducible refine heap_set_other ?_ (by simp only []; omega)) | (with_reducible exact heap_new_at (by simp))))); (case e => rfl))
end Go.Proofs.Ytjjmkpjclhielaa
