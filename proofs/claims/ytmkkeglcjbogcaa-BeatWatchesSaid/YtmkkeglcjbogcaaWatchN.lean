/-
  What NewWatcher does.
-/
import Derived.Test.YtmkkeglcjbogcaaWatchT
import Derived.Deep.RegionLaw
namespace Go.Proofs.Ytmkkeglcjbogcaa
open Go.RowKit
set_option linter.unusedVariables false

/-- A slice of watches. -/
def WatchesAt (w : World) (v : Value) (ws : List (Int × Int)) : Prop :=
  ∃ A cap, v = .slice A ws.length cap ∧ (0 < ws.length → ∃ g off, A = some ⟨g, off, none⟩ ∧ g < w.heap.size ∧
    ∀ i (h : i < ws.length), w.cell? ⟨g, off + i * 2, none⟩ = some (.int .i64 ws[i].1) ∧ w.cell? ⟨g, off + i * 2 + 1, none⟩ = some (.int .u64 ws[i].2))

/-- What is wrong with nodes, of which some have been seen. -/
def chk (seen : List Int) : List (Int × Int) → Int
  | [] => 0
  | (n, t) :: r => if n < 1 ∨ 127 < n ∨ t < 1 ∨ 4294967296 < t then 1 else if n ∈ seen then 5 else chk (seen ++ [n]) r

def Wd.new (p : Int × Int) : Wd := ⟨p.1, p.2, 0, false, false, 0⟩

def NewPost (ws : List (Int × Int)) (w : World) (e : Ending) (w' : World) : Prop :=
  Frm (fun _ => False) w w' ∧ ((chk [] ws ≠ 0 ∧ e = .returned (.tuple #[.pointer none, .int .i64 (chk [] ws)])) ∨
    (chk [] ws = 0 ∧ ∃ b l, e = .returned (.tuple #[ptr b, .int .i64 0]) ∧ WAt w' b l ∧ l.map (·.2) = ws.map Wd.new ∧ w.heap.size ≤ b ∧ ∀ q ∈ l, w.heap.size ≤ q.1))

theorem first_at (l : List Int) (n : Int) (h : n ∈ l) : ∃ k, k < l.length ∧ l.getD k 0 = n ∧ ∀ j, j < k → l.getD j 0 ≠ n := by
  induction l with
  | nil => cases h
  | cons x r ih =>
    by_cases e : x = n
    · exact ⟨0, by simp, by simpa using e, fun j hj => absurd hj (by omega)⟩
    · obtain ⟨k, hk, h1, h2⟩ := ih ((List.mem_cons.1 h).resolve_left (fun e2 => e e2.symm))
      refine ⟨k + 1, by simpa using hk, by simpa using h1, fun j hj => ?_⟩
      cases j with
      | zero => simpa using e
      | succ j => simpa using h2 j (by omega)
theorem nodes_in {l : List (Nat × Wd)} {n : Int} (h : n ∈ nodes l) : ∃ j, ∃ hj : j < l.length, l[j].2.node = n ∧ ∀ i, i < j → (nodes l).getD i 0 ≠ n := by
  obtain ⟨k, hk, hg, h2⟩ := first_at _ _ h
  have hk' : k < l.length := by simpa [nodes] using hk
  refine ⟨k, hk', ?_, h2⟩
  rw [List.getD_eq_getElem?_getD, List.getElem?_eq_getElem hk] at hg
  simpa [nodes] using hg
theorem nodes_out {l : List (Nat × Wd)} {n : Int} (h : n ∉ nodes l) : ∀ j, j < l.length → (nodes l).getD j 0 ≠ n := by
  intro j hj e
  have hj' : j < (nodes l).length := by simpa [nodes] using hj
  rw [List.getD_eq_getElem?_getD, List.getElem?_eq_getElem hj'] at e
  exact h (by rw [← e]; simp)

theorem el_px : El Try.prog 129 132 1 8 := El.of Try.underlying129 (z := .pointer none) (by kernel_rfl) rfl (by decide)

theorem WAt.push {w w' : World} {b g cap p : Nat} {l : List (Nat × Wd)} {v : Value} (h : WAt w b l) (x : Wd) (hv : w.heap[b]? = some (.cells #[v] 131 (0, 0)))
    (hO : w'.heap[b]? = some (.cells #[.slice (some ⟨g, 0, none⟩) (l.length + 1) cap] 131 (0, 0))) (hr : w'.ownsRow b 132 1 (.slice (some ⟨g, 0, none⟩) (l.length + 1) cap) (l.length + 1) ((l.map fun q => ptr q.1) ++ [ptr p]))
    (hp : w'.heap[p]? = some (.cells x.cells 135 (0, 0))) (hnew : w.heap.size ≤ p) (hf : Frm (fun k => k = b ∨ v.ownBlock = some k) w w') : WAt w' b (l ++ [(p, x)]) := by
  obtain ⟨v0, hO0, hr0⟩ := h.row
  rw [hv] at hO0
  simp at hO0
  subst hO0
  refine ⟨⟨_, hO, by simpa using hr⟩, ?_, ?_⟩
  · intro i hi
    by_cases hi' : i < l.length
    · simp only [List.getElem_append, hi', dite_true]
      refine hf.heap (h.el i hi') ?_
      rintro (e | e)
      · exact block_ne (h.el i hi') hv (by decide) e
      · obtain ⟨_, cur, hc⟩ := row_block hr0 e
        exact block_ne (h.el i hi') hc (by decide) rfl
    · have : i = l.length := by simp at hi; omega
      subst this
      simpa using hp
  · rw [List.map_append, List.nodup_append]
    refine ⟨h.nd, by simp, ?_⟩
    intro a ha c hc
    obtain ⟨q, hq, rfl⟩ := List.mem_map.1 ha
    obtain ⟨j, hj, rfl⟩ := List.getElem_of_mem hq
    have := lt_of_block (h.el j hj)
    simp at hc
    omega

set_option maxRecDepth 100000 in
set_option maxHeartbeats 1000000 in
theorem new_any (v : Value) (ws : List (Int × Int)) (w : World) (hv : WatchesAt w v ws) (hlen : ws.length * 16 ≤ 140737488351232) (hwf : ∀ p ∈ ws, 0 ≤ p.2) :
    Calls Try.prog 19 #[v] w (NewPost ws w) := by
  obtain ⟨A, cap, rfl, hA⟩ := hv
  have HA := Lib.hid hA
  have HWF := Lib.hid hwf
  clear hA hwf
  go_enter Try.func19, Try.ntmps19
  go_wp2
  go_loopw [6, 11] (fun _ i wr => ∃ (k : Nat) (l : List (Nat × Wd)), k ≤ ws.length ∧ i = .int .i64 k ∧ WAt wr w.heap.size l ∧ l.map (·.2) = (ws.take k).map Wd.new ∧ chk [] ws = chk ((ws.take k).map (·.1)) (ws.drop k) ∧
      Frm (fun _ => False) w wr ∧ w.heap.size < wr.heap.size ∧ ∀ q ∈ l, w.heap.size ≤ q.1) (fun _ i _ => ws.length - (intOf i).toNat)
  case atStart =>
    refine ⟨0, [], Nat.zero_le _, rfl, ⟨⟨.slice none 0 0, ?_, World.ownsRow_nil _ _ _ _⟩, fun i hi => by simp at hi, by simp⟩, by simp, by simp, ?_, by simp, by simp⟩
    · exact heap_new _ _
    · (repeat' (first | (with_reducible exact Frm.refl _ _) | (with_reducible assumption) | (with_reducible refine Frm.alloc ?_ _) | (with_reducible refine Frm.drew ?_) | (with_reducible refine Frm.drewN ?_ _) | (with_reducible refine Frm.set1 ?_ _) | (with_reducible refine Frm.setCell ?_ ?_ _) | (intro hlt; simp [World.size_alloc, One] at hlt ⊢; omega)))
  case round =>
    obtain ⟨k, l, hk, rfl, hW, hl, hchk, hfr, hsz, hnew⟩ := hrel
    have hlk : l.length = k := by have := congrArg List.length hl; simp at this; omega
    by_cases hlt : k < ws.length
    · obtain ⟨g, off, rfl, hgl, hc⟩ := HA.out (by omega)
      obtain ⟨c1, c2⟩ := hc k hlt
      have c1 := hfr.cell c1 (fun h => h)
      have c2 := hfr.cell c2 (fun h => h)
      have hwf := HWF.out _ (List.getElem_mem hlt)
      have hdrop : ws.drop k = ws[k] :: ws.drop (k + 1) := List.drop_eq_getElem_cons hlt
      have hgl := Nat.lt_of_lt_of_le hgl hfr.size
      obtain ⟨⟨n, t⟩, hnt⟩ : ∃ p, p = ws[k] := ⟨_, rfl⟩
      have HNT := Lib.hid hnt
      rw [← hnt] at c1 c2 hwf hdrop
      simp only at c1 c2 hwf
      have HW := Lib.hid hW
      have HL := Lib.hid hl
      have HLK := Lib.hid hlk
      have HC := Lib.hid hchk
      have HD := Lib.hid hdrop
      have HF := Lib.hid hfr
      have HN := Lib.hid hnew
      clear hc hW hl hchk hfr hnew hnt hdrop hlk
      by_cases hbad : n < 1 ∨ 127 < n ∨ t < 1 ∨ 4294967296 < t
      · have HB : Hid (chk [] ws = 1) := by unfold Hid; rw [HC.out, HD.out, chk, if_pos hbad]
        have fin : ∀ W : World, Frm (fun _ => False) w W → NewPost ws w (.returned (.tuple #[.pointer none, .int .i64 1])) W := fun W h => ⟨h, .inl ⟨by rw [HB.out]; decide, by rw [HB.out]⟩⟩
        have FIN := Lib.hid fin
        clear fin
        have HF1 : Frm (fun _ => False) w (wr.alloc (.cells #[.int .i64 n, .int .u64 t] 37)) := HF.out.alloc _
        have HF1 := Lib.hid HF1
        by_cases b1 : n < 1
        · clear hbad
          go_wp2
          go_ret2
          exact FIN.out _ HF1.out
        · by_cases b2 : 127 < n
          · clear hbad
            have b1' : 1 ≤ n := by omega
            go_wp2
            go_ret2
            exact FIN.out _ HF1.out
          · have b1' : 1 ≤ n := by omega
            have b2' : n ≤ 127 := by omega
            by_cases b3 : t < 1
            · clear hbad b1 b2
              go_wp2
              go_ret2
              exact FIN.out _ HF1.out
            · have b3' : 1 ≤ t := by omega
              have b4 : 4294967296 < t := by omega
              clear hbad b1 b2 b3
              go_wp2
              go_ret2
              exact FIN.out _ HF1.out
      · have b1 : 1 ≤ n := by omega
        have b2 : n ≤ 127 := by omega
        have b3 : 1 ≤ t := by omega
        have b4 : t ≤ 4294967296 := by omega
        have HB := Lib.hid hbad
        clear hbad
        have hW1 : WAt (wr.alloc (.cells #[.int .i64 n, .int .u64 t] 37)) w.heap.size l := HW.out.frm (S := fun _ => False) ((Frm.refl _ _).alloc _) (fun h => h) (fun _ _ _ _ _ h => h)
        have hnodes : nodes l = (ws.take k).map (·.1) := by
          have := congrArg (List.map Wd.node) HL.out
          simpa [nodes, Function.comp_def, Wd.new] using this
        by_cases hin : n ∈ nodes l
        · have HB2 : Hid (chk [] ws = 5) := by unfold Hid; rw [HC.out, HD.out, chk, if_neg HB.out, if_pos (by rw [← hnodes]; exact hin)]
          have fin : ∀ W : World, Frm (fun _ => False) w W → NewPost ws w (.returned (.tuple #[.pointer none, .int .i64 5])) W := fun W h => ⟨h, .inl ⟨by rw [HB2.out]; decide, by rw [HB2.out]⟩⟩
          have FIN := Lib.hid fin
          obtain ⟨j, hj, hg, hno⟩ := nodes_in hin
          have H := Lib.hid (of_hit w.heap.size l n _ hW1 j hj hg hno)
          have HF1 := Lib.hid ((HF.out.alloc (.cells #[.int .i64 n, .int .u64 t] 37)))
          clear hin hnodes hno hg hW1 fin
          unfold ptr at H
          go_wp2_with (go_at_call 61; refine H.out.mono ?_; rintro e w' ⟨rfl, m, rfl⟩)
          go_ret2
          exact FIN.out _ ((HF1.out.alloc _).drewN _)
        · have H := Lib.hid (of_miss w.heap.size l n _ hW1 (nodes_out hin))
          obtain ⟨v2, hO, hr⟩ := hW1.row
          obtain ⟨A2, cap2, rfl, q1, q2, _⟩ := row_open hr
          have ct : (wr.alloc (.cells #[.int .i64 n, .int .u64 t] 37)).cell? ⟨w.heap.size, 0, none⟩ = some (.slice A2 l.length cap2) := cell_at hO
          rw [World.cell?_alloc_past _ _ _ hsz] at ct
          have hlen2 := HLK.out
          have hl8 : (l.length + 1) * 8 ≤ 140737488355328 := by omega
          have hl9 : l.length + 1 ≤ maxLen := by unfold maxLen; omega
          have HR := Lib.hid hr
          have HO := Lib.hid hO
          have HW1 := Lib.hid hW1
          have HIN := Lib.hid hin
          have HNO := Lib.hid hnodes
          clear hin hnodes hr hO hW1 hlen2 q1 q2
          unfold ptr at H
          go_wp2_with (go_at_call 61; refine H.out.mono ?_; rintro e w' ⟨rfl, m, rfl⟩)
          have HNE : Hid (∀ k, (Value.slice A2 l.length cap2).ownBlock = some k → k ≠ w.heap.size ∧ k < wr.heap.size ∧ w.heap.size ≤ k) := fun k hk => by
            obtain ⟨v3, hO3, hr3⟩ := HW.out.row
            obtain ⟨hk0, cur, hc⟩ := row_block HR.out hk
            have hk1 : k ≠ w.heap.size := block_ne hc HO.out (by decide)
            have hk2 := lt_of_block hc
            simp at hk2
            refine ⟨hk1, ?_, hk0⟩
            by_cases e : k = wr.heap.size
            · subst e; rw [heap_new] at hc; cases hc
            · omega
          have z1 : w.heap.size < wr.heap.size + 1 := by omega
          have z2 : w.heap.size < wr.heap.size + 1 + 1 := by omega
          have z3 : w.heap.size < wr.heap.size + 1 + 1 + 1 := by omega
          have z4 : w.heap.size < wr.heap.size + 1 + 1 + 1 + 1 := by omega
          have y1 : (wr.alloc (.cells #[.int .i64 n, .int .u64 t] 37)).cell? ⟨wr.heap.size, 0, none⟩ = some (.int .i64 n) := by simp
          have y2 : (wr.alloc (.cells #[.int .i64 n, .int .u64 t] 37)).cell? ⟨wr.heap.size, 1, none⟩ = some (.int .u64 t) := by simp
          go_region_law
            ((refine step_app (by rfl) el_px _ _ (by rfl) (by rfl) (by rfl) (B := w.heap.size) (xs := l.map fun q => ptr q.1) (arr := #[.pointer (some ⟨wr.heap.size + 1 + 1, 0, none⟩)]) (e2 := 132) (fr := (0, 0)) (Frm.row (S := fun _ => False) (by (repeat' (first | (with_reducible exact Frm.refl _ _) | (with_reducible assumption) | (with_reducible refine Frm.alloc ?_ _) | (with_reducible refine Frm.drew ?_) | (with_reducible refine Frm.drewN ?_ _) | (with_reducible refine Frm.set1 ?_ _) | (with_reducible refine Frm.setCell ?_ ?_ _) | (intro hlt; simp [World.size_alloc, One] at hlt ⊢; omega)))) HR.out (fun _ _ h => h)) (heap_new_at (by simp)) (by rfl) (by simp [Value.oneCell']) (by decide) hl9 hl8 (by simp; omega) ?_; intro g2 cap3 w2 hown2 hfr2 hat2 hlt2; have hO2 : w2.heap[w.heap.size]? = some (.cells #[.slice A2 l.length cap2] 131 (0, 0)) := (by refine hfr2.heap ?_ (fun h => (HNE.out _ h).1 rfl); (repeat (first | (with_reducible exact HO.out) | (with_reducible apply heap_alloc_old) | (with_reducible apply heap_drewN') | (with_reducible apply heap_drew')))); have hz2 : w2.frozen? ⟨w.heap.size, 0, none⟩ = false := free_at hO2; have hc2 : w2.cell? ⟨w.heap.size, 0, none⟩ = some (.slice A2 l.length cap2) := cell_at hO2))
          all_goals
            have HO3 := Lib.hid hO2
            have HO4 := Lib.hid hown2
            have HF2 := Lib.hid hfr2
            clear hO2 hown2 hfr2 hc2 hz2 ct
            go_wp2
            go_roundw
            case rel =>
              have hpn : wr.heap.size + 1 + 1 ≠ w.heap.size := by omega
              have hpo : ¬ (Value.slice A2 l.length cap2).ownBlock = some (wr.heap.size + 1 + 1) := fun h => by have := (HNE.out _ h).2.1; omega
              have fp := HF2.out.heap (heap_alloc_old (heap_new_at (k := wr.heap.size + 1 + 1) (o := .cells (Wd.new (n, t)).cells 135 (0, 0)) (by simp))) hpo
              have hf3 : Frm (fun j => j = w.heap.size ∨ (Value.slice A2 l.length cap2).ownBlock = some j) (wr.alloc (.cells #[.int .i64 n, .int .u64 t] 37)) (w2.setCell ⟨w.heap.size, 0, none⟩ (.slice (some ⟨g2, 0, none⟩) (l.length + 1) cap3)) := by
                refine Frm.setCell ?_ (fun _ => .inl rfl) _
                refine Frm.trans (T := fun k => (Value.slice A2 l.length cap2).ownBlock = some k) ?_ HF2.out (fun i _ h => .inr h)
                (repeat' (first | (with_reducible exact Frm.refl _ _) | (with_reducible assumption) | (with_reducible refine Frm.alloc ?_ _) | (with_reducible refine Frm.drew ?_) | (with_reducible refine Frm.drewN ?_ _) | (with_reducible refine Frm.set1 ?_ _) | (with_reducible refine Frm.setCell ?_ ?_ _) | (intro hlt; simp [World.size_alloc, One] at hlt ⊢; omega)))
              refine ⟨k + 1, l ++ [(wr.heap.size + 1 + 1, Wd.new (n, t))], by omega, by go_num, HW1.out.push (Wd.new (n, t)) HO.out (heap_set_same HO3.out _) ?_ (heap_set_other fp hpn) (by simp) hf3, ?_, ?_, ?_, ?_, ?_⟩
              · exact Frm.row (S := One w.heap.size) ((Frm.refl _ _).set1 _) HO4.out (fun k hk e => by cases hk; have := block_ne (row_block HO4.out rfl).2.choose_spec HO3.out (by decide); exact this e)
              · rw [List.map_append, HL.out, List.take_succ_eq_append_getElem hlt, List.map_append, ← HNT.out]; rfl
              · rw [HC.out, HD.out, chk, if_neg HB.out, if_neg (by rw [← HNO.out]; exact HIN.out), List.take_succ_eq_append_getElem hlt, List.map_append, ← HNT.out]; rfl
              · refine (HF.out.alloc _).trans hf3 (fun i hi h => ?_)
                rcases h with h | h
                · omega
                · have := (HNE.out _ h).2.2; omega
              · have := HF2.out.size; simp at this ⊢; omega
              · intro q hq
                rcases List.mem_append.1 hq with h | h
                · exact HN.out _ h
                · simp at h; subst h; simp; omega
            case measure => simp [intOf]; omega
    · have hkn : k = ws.length := by omega
      subst hkn
      rw [List.drop_length] at hchk
      have HW := Lib.hid hW
      have HL := Lib.hid hl
      have HC := Lib.hid hchk
      have HF := Lib.hid hfr
      have HN := Lib.hid hnew
      clear hW hl hchk hfr hnew hlk
      go_wp2
      go_ret2
      exact ⟨HF.out, .inr ⟨by rw [HC.out]; rfl, _, l, rfl, HW.out, by simpa using HL.out, Nat.le_refl _, HN.out⟩⟩
end Go.Proofs.Ytmkkeglcjbogcaa
