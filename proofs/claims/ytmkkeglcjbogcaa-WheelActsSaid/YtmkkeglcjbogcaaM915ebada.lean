/-
  slices.Sorted(maps.Keys(m)) of a slot of the wheel. The wheel as a function: what stays true of it. The wheel as a function: the timers of a tick's slot run out, one behind the other. The wheel: the timers of a tick run out.
-/
import Derived.Test.YtmkkeglcjbogcaaShelf2
import Derived.Test.YtmkkeglcjbogcaaMc1e7d997
import Derived.Test.YtmkkeglcjbogcaaMad794d42
set_option linter.unusedVariables false
set_option linter.unusedSimpArgs false
namespace Go.Proofs.Ytmkkeglcjbogcaa
open Go.RowKit Go.Maps Go.Sort Go.Shelf
set_option linter.unusedVariables false
set_option linter.unusedSimpArgs false

def unitR : Value → Option (DataW Unit × List MemPlace) := fun _ => some (.nil, [])
theorem MapP.owns {w : World} {b : Nat} {m : List (Value × Value)} {k : TypeId} {ks : List Int} (h : MapP w b m) (hk : Try.prog.underlying k = some (.int .i64)) (hkey : ∀ x, (Lit.int .i64 x).wf = true → keyOf Try.prog k (.int .i64 x) = some (.int .i64 x)) (hm : (m.map (·.1)).Perm (ks.map keyI)) (hw : ∀ x ∈ ks, (Lit.int .i64 x).wf = true) (hl : ks.length ≤ 1024) :
    ∃ D, w.ownsMap Try.prog k unitR b 1024 D ∧ (intKeys D).Perm ks ∧ Maps.size D = ks.length := by
  obtain ⟨m', h1, es, cl, hb, he, hS, hnd, hbn, hbl⟩ := h
  have hme : (es.toList.map (·.key)).Perm (ks.map keyI) := by
    have e1 : es.toList.map (·.key) = m'.map (·.1) := by rw [← he]; simp
    rw [e1]
    exact (h1.map _).trans hm
  have hlen : es.size = ks.length := by have := hme.length_eq; simpa using this
  have hrd : ∀ x ∈ es.toList, ∃ n, x.key = .int .i64 n ∧ (Lit.int .i64 n).wf = true := fun x hx => by
    have h2 := hme.mem_iff.1 (List.mem_map_of_mem (f := fun e : MapEntry => e.key) hx)
    obtain ⟨n, hn, e2⟩ := List.mem_map.1 h2
    exact ⟨n, e2.symm, hw n hn⟩
  have hrg : ∀ x ∈ es.toList, ∀ n, x.key = .int .i64 n → (Lit.int .i64 n).wf = true → WideElems.rd Try.prog k unitR x = some (.int .i64 n, .nil) := fun x hx n e hwn => by
    simp [WideElems.rd, e, hkey n hwn, unitR]
  refine ⟨.map ((es.toList.map (WideElems.rg Try.prog k unitR)).foldr DataW.insert []), ⟨es, cl, hb, ⟨by unfold maxLen; omega, (MapKept.stamped_iff _ _).2 ⟨hbl, hbn, ?_⟩, fun x hx => ?_⟩, by omega, rfl⟩, ?_, ?_⟩
  · have : (es.toList.map (·.key)).Nodup := by
      have e1 : es.toList.map (·.key) = m'.map (·.1) := by rw [← he]; simp
      rw [e1]; exact hnd
    exact List.pairwise_map.1 this
  · obtain ⟨n, e, hwn⟩ := hrd x hx
    exact ⟨_, hrg x hx n e hwn⟩
  · show (((es.toList.map (WideElems.rg Try.prog k unitR)).foldr DataW.insert []).map fun p => Go.intOf p.1).Perm ks
    refine ((WideShapes.sorted_perm _).map _).trans ?_
    rw [List.map_map]
    have e1 : es.toList.map ((fun p : Lit × DataW Unit => Go.intOf p.1) ∘ WideElems.rg Try.prog k unitR) = (es.toList.map (·.key)).map (fun v => match v with | .int _ n => n | _ => 0) := by
      rw [List.map_map]
      refine List.map_congr_left fun x hx => ?_
      obtain ⟨n, e, hwn⟩ := hrd x hx
      simp only [Function.comp_apply, WideElems.rg_of (hrg x hx n e hwn), e, Go.intOf]
    rw [e1]
    have h3 := hme.map (fun v : Value => match v with | .int _ n => n | _ => 0)
    have e2 : (ks.map keyI).map (fun v : Value => match v with | .int _ n => n | _ => 0) = ks := by
      rw [List.map_map]
      exact (List.map_congr_left (fun _ _ => rfl)).trans (List.map_id ks)
    rw [e2] at h3
    exact h3
  · simp [Maps.size, length_sorted, hlen]
theorem wkeys_any (b : Nat) (w : World) : Calls Try.prog 109 #[.map (some b)] w fun e w' => e = .returned (.func (.func 130) #[] #[.pointer (some ⟨w.heap.size, 0, none⟩)]) ∧ w' = w.alloc (.cells #[.map (some b)] 158) :=
  callsIn_wide.1 (AnyZI.keys_in Try.keysT Fence.wide 5 trivial rfl (some b) w)
theorem sortsI (m : Nat) : AnyZI.SortsIn Try.prog Try.sortedI_ren Fence.wide m :=
  ⟨fun blk off cap ss W hH hblk hsz => callsIn_wide.2 (AnyM.slices_Sort_int Try.sortI blk off cap ss W hH hblk hsz),
   fun p cap W => callsIn_wide.2 (AnyM.slices_Sort_int_none Try.sortI p cap W)⟩
theorem merge_sorted {ss ks : List Int} (h : ss.Perm ks) (hs : ks.Pairwise (· < ·)) : ss.mergeSort (fun x y => decide (x ≤ y)) = ks := by
  rw [show ss.mergeSort (fun x y => decide (x ≤ y)) = ks.mergeSort (fun x y => decide (x ≤ y)) from mergeSort_of_perm_i h]
  exact List.mergeSort_of_pairwise (hs.imp fun h => by simp; omega)
def SortedP (w : World) (ks : List Int) (e : Ending) (w' : World) : Prop := ∃ v, e = .returned v ∧ w'.ownsRow w.heap.size 3 1 v ks.length (ks.map keyI) ∧ Frm (fun _ => False) w w'
theorem wsorted_any (w : World) (b : Nat) (m : List (Value × Value)) (ks : List Int) (h : MapP w b m) (hm : (m.map (·.1)).Perm (ks.map keyI)) (hs : ks.Pairwise (· < ·)) (hw : ∀ x ∈ ks, (Lit.int .i64 x).wf = true) (hl : ks.length ≤ 1024) :
    Calls Try.prog 108 #[.func (.func 130) #[] #[.pointer (some ⟨w.heap.size, 0, none⟩)]] (w.alloc (.cells #[.map (some b)] 158)) (SortedP w ks) := by
  obtain ⟨D, hD, hperm, hsize⟩ := h.owns (k := 3) Try.underlying3 (fun x hx => by simp [keyOf, Try.underlying3, mapKey, hx]) hm hw hl
  have hbl := hD.lt
  have hseq : SeqGives Fence.wide 2 Try.prog 130 #[.pointer (some ⟨w.heap.size, 0, none⟩)] encZ (fun ss => ss.Perm (intKeys D)) (Maps.size D) (w.alloc (.cells #[.map (some b)] 158)) :=
    AnyZI.keys_gives (ρ := Try.keysT_ren) { Try.keysT with } Fence.wide _ trivial rfl (by omega) w.heap.size b 1024 D _ (by simp) (by simp) (by
      obtain ⟨es, clock, hb, Ft, hs, hD⟩ := hD
      exact ⟨es, clock, (Below.heap_alloc _ _ b hbl).trans hb, Ft, hs, hD⟩)
  have cS := AnyZI.sorted_in Try.sortedI Fence.wide 5 trivial trivial trivial trivial rfl (by omega) (sortsI _) (enters_of Try.func75 (by kernel_rfl) rfl) 130 #[.pointer (some ⟨w.heap.size, 0, none⟩)] trivial (enters_of Try.func130 (by kernel_rfl) rfl) _ _ (by rw [hsize]; unfold maxLen; omega) (by rw [hsize]; omega) _ hseq
  change CallsIn _ _ Try.prog 108 _ _ _ at cS
  refine (callsIn_wide.1 cS).mono ?_
  rintro e w' ⟨v, ss, rfl, hS, hrow, _, hb⟩
  have hsk : ss.mergeSort (fun x y => decide (x ≤ y)) = ks := merge_sorted (hS.trans hperm) hs
  rw [hsk] at hrow
  have hlen : ss.length = ks.length := (hS.trans hperm).length_eq
  rw [hlen] at hrow
  refine ⟨v, rfl, row_base hrow (by simp), ?_⟩
  have hF1 : Frm (fun _ => False) w (w.alloc (.cells #[.map (some b)] 158)) := (Frm.refl _ w).alloc _
  have hF2 : Frm (fun k => w.heap.size + 1 ≤ k) (w.alloc (.cells #[.map (some b)] 158)) w' := (Frm.of_below hb).mono (fun i _ h => by simpa using h)
  exact hF1.trans hF2 (fun i hi h => by omega)
end Go.Proofs.Ytmkkeglcjbogcaa
namespace Go.Proofs.Ytmkkeglcjbogcaa
set_option linter.unusedVariables false

theorem fireT_no {now : Int} {t u : Tm} (h : fireT now t = some u) : u.no = t.no := by
  unfold fireT at h
  split at h
  · split at h
    · cases h; rfl
    · cases h
  · cases h; rfl
theorem fireT_facts {now : Int} {t u : Tm} (h : fireT now t = some u) (hd : now ≤ t.due) (hu : t.due ≤ now + 4294967296) (hp : 0 ≤ t.per ∧ t.per ≤ 4294967296) : (now < u.due ∧ u.due ≤ now + 4294967296) ∧ 0 ≤ u.per ∧ u.per ≤ 4294967296 := by
  unfold fireT at h
  split at h
  · split at h
    · cases h
      refine ⟨?_, hp⟩
      show now < t.due + t.per ∧ t.due + t.per ≤ now + 4294967296
      omega
    · cases h
  · cases h
    exact ⟨by omega, hp⟩
/-- A wheel whose time has come to the next timer. -/
theorem fires_ok {s : Wh} (told : List Int) (srt : s.tm.Pairwise fun a b => a.no < b.no) (lo : ∀ t ∈ s.tm, 1 ≤ t.no ∧ t.no ≤ s.last) (due : ∀ t ∈ s.tm, s.now ≤ t.due ∧ t.due ≤ s.now + 4294967296) (per : ∀ t ∈ s.tm, 0 ≤ t.per ∧ t.per ≤ 4294967296) (len : s.tm.length ≤ 1024) (now : 0 ≤ s.now) : (s.fires told).1.ok := by
  have hm : ∀ u ∈ s.tm.filterMap (fireT s.now), ∃ t ∈ s.tm, fireT s.now t = some u := fun u hu => List.mem_filterMap.1 hu
  refine ⟨?_, fun u hu => ?_, fun u hu => ?_, fun u hu => ?_, ?_, now⟩
  · show (s.tm.filterMap (fireT s.now)).Pairwise _
    rw [List.pairwise_filterMap]
    exact srt.imp fun {a b} h x hx y hy => by rw [fireT_no hx, fireT_no hy]; exact h
  · obtain ⟨t, ht, e⟩ := hm u hu
    rw [fireT_no e]; exact lo t ht
  · obtain ⟨t, ht, e⟩ := hm u hu
    exact (fireT_facts e (due t ht).1 (due t ht).2 (per t ht)).1
  · obtain ⟨t, ht, e⟩ := hm u hu
    exact (fireT_facts e (due t ht).1 (due t ht).2 (per t ht)).2
  · exact Nat.le_trans (List.length_filterMap_le _ _) len
theorem next_facts {s : Wh} (h : s.ok) (hn : s.next.2 = true) : 1 ≤ s.next.1 ∧ s.next.1 ≤ 4294967296 ∧ ∀ t ∈ s.tm, s.now + s.next.1 ≤ t.due := by
  unfold Wh.next at *
  have hne : (s.tm.map fun t => t.due - s.now) ≠ [] := fun e => by rw [e] at hn; cases hn
  obtain ⟨h1, h2⟩ := leastL_mem _ hne
  obtain ⟨t, ht, e⟩ := List.mem_map.1 h1
  have := h.due t ht
  refine ⟨by omega, by omega, fun u hu => ?_⟩
  have := h2 _ (List.mem_map_of_mem hu)
  omega
theorem step_ok {s : Wh} (told : List Int) (h : s.ok) (hn : s.next.2 = true) : (Wh.fires ⟨s.tm, s.now + s.next.1, s.last⟩ told).1.ok := by
  obtain ⟨h1, h2, h3⟩ := next_facts h hn
  exact fires_ok told h.srt h.lo (fun t ht => ⟨h3 t ht, by have := h.due t ht; show t.due ≤ s.now + s.next.1 + _; omega⟩) h.per h.len (by have := h.now; show 0 ≤ s.now + s.next.1; omega)
theorem cancel_ok {s : Wh} (no : Int) (h : s.ok) : (s.cancel no).1.ok :=
  ⟨h.srt.sublist List.filter_sublist, fun t ht => h.lo t (List.mem_filter.1 ht).1, fun t ht => h.due t (List.mem_filter.1 ht).1, fun t ht => h.per t (List.mem_filter.1 ht).1, Nat.le_trans (List.length_filter_le _ _) h.len, h.now⟩
theorem adds_ok {s : Wh} (after per what : Int) (h : s.ok) (ha : 1 ≤ after ∧ after ≤ 4294967296) (hp : 0 ≤ per ∧ per ≤ 4294967296) (hl : 0 ≤ s.last) : (s.adds after per what).1.ok := by
  unfold Wh.adds
  split
  · exact h
  · rename_i hlen
    have hm : ∀ t ∈ s.tm ++ [⟨s.last + 1, s.now + after, per, what⟩], t ∈ s.tm ∨ t = ⟨s.last + 1, s.now + after, per, what⟩ := fun t ht => by
      rcases List.mem_append.1 ht with h | h
      · exact .inl h
      · exact .inr (by simpa using h)
    refine ⟨?_, fun t ht => ?_, fun t ht => ?_, fun t ht => ?_, ?_, h.now⟩
    · show (s.tm ++ [_]).Pairwise _
      rw [List.pairwise_append]
      refine ⟨h.srt, by simp, fun a ha b hb => ?_⟩
      have := h.lo a ha
      rw [List.mem_singleton.1 hb]
      show a.no < s.last + 1
      omega
    · rcases hm t ht with h1 | rfl
      · have := h.lo t h1; exact ⟨this.1, by show t.no ≤ s.last + 1; omega⟩
      · exact ⟨by show 1 ≤ s.last + 1; omega, Int.le_refl _⟩
    · rcases hm t ht with h1 | rfl
      · exact h.due t h1
      · exact ⟨by show s.now < s.now + after; omega, by show s.now + after ≤ s.now + 4294967296; omega⟩
    · rcases hm t ht with h1 | rfl
      · exact h.per t h1
      · exact hp
    · show (s.tm ++ [_]).length ≤ 1024
      rw [List.length_append, List.length_singleton]
      omega
end Go.Proofs.Ytmkkeglcjbogcaa
namespace Go.Proofs.Ytmkkeglcjbogcaa
set_option linter.unusedVariables false
set_option linter.unusedSimpArgs false

/-- The timers of a slot, and the others. -/
def Wh.inS (s : Wh) (n : Int) : List Tm := s.tm.filter fun t => t.due % n == s.now % n
def Wh.outS (s : Wh) (n : Int) : List Tm := s.tm.filter fun t => !(t.due % n == s.now % n)
/-- What the wheel has when k of the slot have been looked at. -/
def Wh.mid (s : Wh) (n : Int) (k : Nat) : List Tm := s.outS n ++ (((s.inS n).take k).filterMap (fireT s.now) ++ (s.inS n).drop k)
theorem mid_zero (s : Wh) (n : Int) : (s.mid n 0).Perm s.tm := by
  unfold Wh.mid
  rw [List.take_zero, List.filterMap_nil, List.nil_append, List.drop_zero]
  exact List.perm_append_comm.trans (List.filter_append_perm _ _)
theorem mid_end (s : Wh) (n : Int) {k : Nat} (hk : k = (s.inS n).length) (told : List Int) : (s.mid n k).Perm (s.fires told).1.tm := by
  subst hk
  unfold Wh.mid
  rw [List.take_length, List.drop_length, List.append_nil]
  show (s.outS n ++ (s.inS n).filterMap (fireT s.now)).Perm (s.tm.filterMap (fireT s.now))
  have h1 : (s.outS n).filterMap (fireT s.now) = s.outS n := by
    have : ∀ t ∈ s.outS n, fireT s.now t = some t := fun t ht => by
      have h2 : ¬ t.due % n = s.now % n := by simpa using (List.mem_filter.1 ht).2
      unfold fireT
      rw [if_neg (fun e => h2 (by rw [e]))]
    revert this
    generalize s.outS n = l
    intro this
    induction l with
    | nil => rfl
    | cons t r ih =>
      rw [List.filterMap_cons, this t (List.mem_cons_self ..)]
      simp only [ih fun u hu => this u (List.mem_cons_of_mem _ hu)]
  conv => lhs; rw [← h1]
  rw [← List.filterMap_append]
  exact (List.perm_append_comm.trans (List.filter_append_perm _ _)).filterMap _
theorem told_end (s : Wh) (n : Int) (told : List Int) : (s.inS n).foldl (tellT s.now) told = (s.fires told).2 := by
  show _ = s.tm.foldl (tellT s.now) told
  unfold Wh.inS
  generalize s.tm = l
  induction l generalizing told with
  | nil => rfl
  | cons t r ih =>
    by_cases h : t.due % n = s.now % n
    · rw [List.filter_cons_of_pos (by simpa using h)]
      exact ih _
    · rw [List.filter_cons_of_neg (by simpa using h), List.foldl_cons]
      have : tellT s.now told t = told := by
        unfold tellT
        rw [if_neg (fun h2 => h (by rw [h2.1]))]
      rw [this]
      exact ih _
theorem mid_at (s : Wh) (n : Int) {k : Nat} (hk : k < (s.inS n).length) : ((s.inS n)[k]).due % n = s.now % n ∧ (s.inS n)[k] ∈ s.mid n k ∧ (s.inS n)[k] ∈ s.tm := by
  have h1 := List.mem_filter.1 (List.getElem_mem hk)
  refine ⟨by simpa using h1.2, ?_, h1.1⟩
  unfold Wh.mid
  refine List.mem_append_right _ (List.mem_append_right _ ?_)
  exact List.mem_of_getElem (List.getElem_drop (i := k) (j := 0) (h := by simp; omega))
/-- One that does not run out now. -/
theorem mid_not (s : Wh) (n : Int) {k : Nat} (hk : k < (s.inS n).length) (h : ((s.inS n)[k]).due ≠ s.now) : s.mid n (k + 1) = s.mid n k := by
  unfold Wh.mid
  have e1 : (s.inS n).take (k + 1) = (s.inS n).take k ++ [(s.inS n)[k]] := List.take_succ_eq_append_getElem hk
  have e2 : fireT s.now (s.inS n)[k] = some (s.inS n)[k] := by unfold fireT; rw [if_neg h]
  rw [e1, List.filterMap_append, List.drop_eq_getElem_cons hk]
  simp [e2]
/-- One that does: it is taken away; and put in again, if it runs out again and again. -/
def Wh.cut (s : Wh) (n : Int) (k : Nat) : List Tm := s.outS n ++ (((s.inS n).take k).filterMap (fireT s.now) ++ (s.inS n).drop (k + 1))
theorem cut_perm (s : Wh) (n : Int) {k : Nat} (hk : k < (s.inS n).length) : (s.mid n k).Perm ((s.inS n)[k] :: s.cut n k) := by
  unfold Wh.mid Wh.cut
  rw [List.drop_eq_getElem_cons hk]
  generalize (s.inS n)[k] = t
  generalize s.outS n = A
  generalize ((s.inS n).take k).filterMap (fireT s.now) = B
  generalize (s.inS n).drop (k + 1) = C
  rw [← List.append_assoc, ← List.append_assoc]
  exact List.perm_middle
theorem mid_once (s : Wh) (n : Int) {k : Nat} (hk : k < (s.inS n).length) (h : ((s.inS n)[k]).due = s.now) (h0 : ¬ 0 < ((s.inS n)[k]).per) : s.mid n (k + 1) = s.cut n k := by
  unfold Wh.mid Wh.cut
  have e1 : (s.inS n).take (k + 1) = (s.inS n).take k ++ [(s.inS n)[k]] := List.take_succ_eq_append_getElem hk
  have e2 : fireT s.now (s.inS n)[k] = none := by unfold fireT; rw [if_pos h, if_neg h0]
  rw [e1, List.filterMap_append]
  simp [e2]
def Tm.again (t : Tm) : Tm := ⟨t.no, t.due + t.per, t.per, t.what⟩
theorem mid_again (s : Wh) (n : Int) {k : Nat} (hk : k < (s.inS n).length) (h : ((s.inS n)[k]).due = s.now) (h0 : 0 < ((s.inS n)[k]).per) : (((s.inS n)[k]).again :: s.cut n k).Perm (s.mid n (k + 1)) := by
  unfold Wh.mid Wh.cut
  have e1 : (s.inS n).take (k + 1) = (s.inS n).take k ++ [(s.inS n)[k]] := List.take_succ_eq_append_getElem hk
  have e2 : fireT s.now (s.inS n)[k] = some ((s.inS n)[k]).again := by unfold fireT Tm.again; rw [if_pos h, if_pos h0]
  rw [e1, List.filterMap_append]
  simp only [List.filterMap_cons, e2, List.filterMap_nil]
  generalize ((s.inS n)[k]).again = t
  generalize s.outS n = A
  generalize ((s.inS n).take k).filterMap (fireT s.now) = B
  generalize (s.inS n).drop (k + 1) = C
  rw [List.append_assoc, List.singleton_append, ← List.append_assoc, ← List.append_assoc]
  exact List.perm_middle.symm
theorem told_step (s : Wh) (n : Int) {k : Nat} (hk : k < (s.inS n).length) (told : List Int) : ((s.inS n).take (k + 1)).foldl (tellT s.now) told = tellT s.now (((s.inS n).take k).foldl (tellT s.now) told) (s.inS n)[k] := by
  rw [List.take_succ_eq_append_getElem hk, List.foldl_append]
  rfl
theorem tell_len (now : Int) (l : List Tm) (told : List Int) (h : told.length ≤ 65536) : (l.foldl (tellT now) told).length ≤ 65536 := by
  induction l generalizing told with
  | nil => exact h
  | cons t r ih =>
    refine ih _ ?_
    unfold tellT
    split
    · rename_i h2; rw [List.length_append, List.length_singleton]; omega
    · exact h
/-- The numbers of a slot's timers, in their order. -/
theorem inS_sorted {s : Wh} (n : Int) (h : s.tm.Pairwise fun a b => a.no < b.no) : ((s.inS n).map (·.no)).Pairwise (· < ·) := by
  rw [List.pairwise_map]
  exact h.sublist List.filter_sublist
theorem mid_nodup {s : Wh} (n : Int) (h : s.tm.Pairwise fun a b => a.no < b.no) (k : Nat) : ((s.mid n k).map (·.no)).Nodup := by
  have h0 : (s.tm.map (·.no)).Nodup := by
    rw [List.Nodup, List.pairwise_map]
    exact h.imp fun h => by omega
  have h1 : ((s.outS n ++ ((s.inS n).take k ++ (s.inS n).drop k)).map (·.no)).Nodup := by
    rw [List.take_append_drop]
    exact ((List.perm_append_comm.trans (List.filter_append_perm _ _)).map _).nodup_iff.2 h0
  refine h1.sublist ?_
  unfold Wh.mid
  rw [List.map_append, List.map_append, List.map_append, List.map_append]
  refine (List.Sublist.refl _).append (List.Sublist.append ?_ (List.Sublist.refl _))
  generalize (s.inS n).take k = l
  induction l with
  | nil => exact List.Sublist.refl _
  | cons t r ih =>
    rw [List.filterMap_cons]
    cases hf : fireT s.now t with
    | none => exact ih.cons _
    | some u =>
      simp only [List.map_cons]
      rw [fireT_no hf]
      exact ih.cons_cons _
end Go.Proofs.Ytmkkeglcjbogcaa
namespace Go.Proofs.Ytmkkeglcjbogcaa
open Go.RowKit
open List (getElem_toArray getElem_cons_zero getElem_cons_succ setIfInBounds_toArray set_cons_zero set_cons_succ)
set_option linter.unusedVariables false
set_option linter.unusedSimpArgs false

/-- A wheel whose time has come to its next timers. -/
structure Wh.due_ (s : Wh) : Prop where
  (srt : s.tm.Pairwise fun a b => a.no < b.no) (lo : ∀ t ∈ s.tm, 1 ≤ t.no ∧ t.no ≤ s.last) (due : ∀ t ∈ s.tm, s.now ≤ t.due ∧ t.due ≤ s.now + 4294967296) (per : ∀ t ∈ s.tm, 0 ≤ t.per ∧ t.per ≤ 4294967296) (len : s.tm.length ≤ 1024) (now : 0 ≤ s.now ∧ s.now ≤ 4611686022722355200) (last : 0 ≤ s.last ∧ s.last ≤ 4611686018427387904)
def RowI (w : World) (B : Nat) (v : Value) (l : List Int) : Prop := w.ownsRow B 3 1 v l.length (l.map keyI)
def FiresPost (p n bw : Nat) (bs : List Nat) (s : Wh) (B : Nat) (v : Value) (told : List Int) (w : World) (e : Ending) (w' : World) : Prop :=
  ∃ v', e = .returned v' ∧ WhAt w' p n bw bs (s.fires told).1 ∧ RowI w' B v' (s.fires told).2 ∧ Frm (fun k => WhM bw bs k ∨ v.ownBlock = some k) w w' ∧ ∀ k, v'.ownBlock = some k → v.ownBlock = some k ∨ w.heap.size ≤ k
/-- What holds of the loop's head. -/
structure FireI (p n bw : Nat) (bs : List Nat) (s : Wh) (B : Nat) (v0 vs : Value) (told : List Int) (w wl : World) (k : Nat) (v : Value) (wr : World) : Prop where
  whl : WhAt wr p n bw bs ⟨s.mid n k, s.now, s.last⟩
  row : RowI wr B v (((s.inS n).take k).foldl (tellT s.now) told)
  srt : RowI wr w.heap.size vs ((s.inS n).map (·.no))
  frm : Frm (fun k => WhM bw bs k ∨ v0.ownBlock = some k) w wr
  blk : ∀ k, v.ownBlock = some k → v0.ownBlock = some k ∨ wl.heap.size ≤ k
  vsb : ∀ k, vs.ownBlock = some k → w.heap.size ≤ k ∧ k < wl.heap.size
  siz : wl.heap.size ≤ wr.heap.size
  wsz : w.heap.size ≤ wl.heap.size
  vlt : ∀ k, v0.ownBlock = some k → k < w.heap.size
theorem RowI.blk {w : World} {B : Nat} {v : Value} {l : List Int} (h : RowI w B v l) {k : Nat} (hk : v.ownBlock = some k) : ∃ cur, w.heap[k]? = some (.cells cur 3 (0, 0)) := (row_block h hk).2
theorem WhAt.told {w w' : World} {p n bw B : Nat} {bs : List Nat} {s : Wh} {v : Value} {l : List Int} (h : WhAt w p n bw bs s) (hr : RowI w B v l) (hF : Frm (fun k => v.ownBlock = some k) w w') : WhAt w' p n bw bs s :=
  h.frm hF (fun k hk e => by obtain ⟨cur, hc⟩ := hr.blk e; exact h.row_not hc (by decide) hk) (fun k cur hc e => by
    obtain ⟨cur2, hc2⟩ := hr.blk e
    rw [hc] at hc2
    cases hc2)
theorem FireI.same {p n bw : Nat} {bs : List Nat} {s : Wh} {B : Nat} {v0 vs : Value} {told : List Int} {w wl : World} {k : Nat} {v : Value} {wr w' : World} (h : FireI p n bw bs s B v0 vs told w wl k v wr) (hk : k < (s.inS n).length) (hd : ((s.inS n)[k]).due ≠ s.now) (hF : Frm (fun _ => False) wr w') : FireI p n bw bs s B v0 vs told w wl (k + 1) v w' := by
  refine ⟨by rw [mid_not s n hk hd]; exact h.whl.grow hF, ?_, hF.row h.srt (fun _ _ h => h), h.frm.trans hF (fun _ _ h => h.elim), h.blk, h.vsb, Nat.le_trans h.siz hF.size, h.wsz, h.vlt⟩
  have e : tellT s.now (((s.inS n).take k).foldl (tellT s.now) told) (s.inS n)[k] = ((s.inS n).take k).foldl (tellT s.now) told := by
    unfold tellT
    rw [if_neg (fun h => hd h.1)]
  rw [told_step s n hk, e]
  exact hF.row h.row (fun _ _ h => h)
/-- What was told, one more. -/
structure ToldC (B : Nat) (v1 : Value) (X : List Int) (wb : World) (a : Value) (wx : World) : Prop where
  row : RowI wx B a X
  frm : Frm (fun j => v1.ownBlock = some j) wb wx
  blk : ∀ j, a.ownBlock = some j → v1.ownBlock = some j ∨ wb.heap.size ≤ j
/-- Behind a round in which one was told, cancelled, and maybe put in again. -/
theorem FireI.next {p n bw : Nat} {bs : List Nat} {s : Wh} {B : Nat} {v0 v1 vs a : Value} {told X : List Int} {w wl : World} {k : Nat} {wr wb wx w' : World} (h : FireI p n bw bs s B v0 vs told w wl k v1 wr) (hb : Frm (fun _ => False) wr wb) (hr : RowI wb B v1 X) (hk : k < (s.inS n).length) (hc : ToldC B v1 (tellT s.now X (s.inS n)[k]) wb a wx) (hX : X = ((s.inS n).take k).foldl (tellT s.now) told)
    (hF : Frm (fun j => WhM bw bs j ∨ j = wr.heap.size) wx w') (hq : ∀ cur, wx.heap[wr.heap.size]? ≠ some (.cells cur 3 (0, 0))) (hA : WhAt w' p n bw bs ⟨s.mid n (k + 1), s.now, s.last⟩) (hx : WhAt wx p n bw bs ⟨s.mid n k, s.now, s.last⟩) : FireI p n bw bs s B v0 vs told w wl (k + 1) a w' := by
  have hint : ∀ j cur, wx.heap[j]? = some (.cells cur 3 (0, 0)) → ¬ (WhM bw bs j ∨ j = wr.heap.size) := fun j cur hj e => by
    rcases e with e | e
    · exact hx.row_not hj (by decide) (.inr e)
    · subst e; exact hq cur hj
  have hsb : ∀ j, vs.ownBlock = some j → ¬ v1.ownBlock = some j := fun j hj e => by
    have h1 := h.vsb j hj
    rcases h.blk j e with h2 | h2
    · have := h.vlt j h2; omega
    · omega
  refine ⟨hA, ?_, ?_, ?_, fun j hj => ?_, h.vsb, Nat.le_trans (Nat.le_trans h.siz hb.size) (Nat.le_trans hc.frm.size hF.size), h.wsz, h.vlt⟩
  · rw [told_step s n hk, ← hX]
    exact hF.row hc.row (fun j hj => by obtain ⟨cur, hcur⟩ := hc.row.blk hj; exact hint _ _ hcur)
  · have h1 : RowI wx w.heap.size vs ((s.inS n).map (·.no)) := hc.frm.row (hb.row h.srt (fun _ _ h => h)) hsb
    exact hF.row h1 (fun j hj => by obtain ⟨cur, hcur⟩ := h1.blk hj; exact hint _ _ hcur)
  · refine ((h.frm.trans hb (fun _ _ h => h.elim)).trans hc.frm (fun i hi e => ?_)).trans hF (fun i hi e => by rcases e with e | e; exact .inl e; (have := h.frm.size; omega))
    rcases h.blk i e with h2 | h2
    · exact .inr h2
    · have := h.wsz; omega
  · rcases hc.blk j hj with h2 | h2
    · exact h.blk j h2
    · exact .inr (Nat.le_trans h.siz (Nat.le_trans hb.size h2))
theorem el_intW : El Try.prog 83 3 1 8 := El.of Try.underlying83 (z := .int .i64 0) (by kernel_rfl) rfl (by decide)
set_option maxRecDepth 100000 in
set_option maxHeartbeats 2000000 in
theorem wfires_any (w : World) (p n bw : Nat) (bs : List Nat) (s : Wh) (B : Nat) (v : Value) (told : List Int) (h0 : WhAt w p n bw bs s) (hs : s.due_) (hrow : RowI w B v told) (hB : B ≤ w.heap.size) (htl : told.length ≤ 65536) (hv : ∀ k, v.ownBlock = some k → k < w.heap.size) :
    Calls Try.prog 82 #[ptrW p, v] w (FiresPost p n bw bs s B v told w) := by
  obtain ⟨g, cap, O⟩ := h0.open_
  obtain ⟨i, hi, hin, hib⟩ := h0.slot_lt s.now
  have hcap := O.le.1
  have hn9 : n ≤ 4096 := h0.pos.2
  have hn1 : 1 ≤ n := h0.pos.1
  have k0 : w.cell? ⟨p, 0, none⟩ = some (.slice (some ⟨g, 0, none⟩) n cap) := cell_at O.hp
  have k2 : w.cell? ⟨p, 2, none⟩ = some (.int .u64 s.now) := cell_at O.hp
  have kg := O.at_ i hib
  have HC := Lib.hid (fun W (h : Frm (fun _ => False) w W) => (⟨h.cell k0 (fun h => h), h.cell k2 (fun h => h), h.cell kg (fun h => h)⟩ : _ ∧ _ ∧ _))
  have hin2 : (i : Int) < n := by omega
  have hw0 := hs.now.1
  have q1 : IntKind.u64.wrap (n : Int) = n := IntWalk.u64_in _ (by omega)
  have q2 : s.now.tmod n = i := by rw [Int.tmod_eq_emod_of_nonneg hs.now.1, hi]
  have q4 : ¬ n = 0 := by omega
  have HI := Lib.hid hi
  have H0 := Lib.hid h0
  have HS := Lib.hid hs
  have HROW := Lib.hid hrow
  have HV := Lib.hid hv
  unfold ptrW
  clear O k0 k2 kg h0 hs hrow hv hi
  go_enter Try.func82, Try.ntmps82
  go_upto_region 1 with fail
  refine wp_region_held_drew (S := fun W => Frm (fun _ => False) w W) (by kernel_rfl) ((Frm.refl _ _).drew) (fun hHeld => ?_)
  refine wpAnyH_take (i := 0) (v := ?_) rfl (by kernel_rfl) (by kernel_rfl) (by kernel_rfl) (fun _ _ _ h => h) (Or.inl ⟨by rfl, ?_⟩) (by assumption) ?_; rotate_left; · (intro wq hSq; have hq := HC.out wq hSq; go_split_ands; go_simp; (try with_reducible rfl))
  try simp only [Act.put, getElem_toArray, getElem_cons_zero, getElem_cons_succ, setIfInBounds_toArray, set_cons_zero, set_cons_succ]
  refine wpAnyH_take (i := 1) (v := ?_) rfl (by kernel_rfl) (by kernel_rfl) (by kernel_rfl) (fun _ _ _ h => h) (Or.inl ⟨by rfl, ?_⟩) (by assumption) ?_; rotate_left; · (intro wq hSq; have hq := HC.out wq hSq; go_split_ands; go_simp; (try with_reducible rfl))
  try simp only [Act.put, getElem_toArray, getElem_cons_zero, getElem_cons_succ, setIfInBounds_toArray, set_cons_zero, set_cons_succ]
  refine wpAnyH_take (i := 2) (v := ?_) rfl (by kernel_rfl) (by kernel_rfl) (by kernel_rfl) (fun _ _ _ h => h) (Or.inl ⟨by rfl, ?_⟩) (by assumption) ?_; rotate_left; · (intro wq hSq; have hq := HC.out wq hSq; go_split_ands; go_simp; (try with_reducible rfl))
  try simp only [Act.put, getElem_toArray, getElem_cons_zero, getElem_cons_succ, setIfInBounds_toArray, set_cons_zero, set_cons_succ]
  refine wpAnyH_take (i := 3) (v := ?_) rfl (by kernel_rfl) (by kernel_rfl) (by kernel_rfl) (fun _ _ _ h => h) (Or.inl ⟨by rfl, ?_⟩) (by assumption) ?_; rotate_left; · (intro wq hSq; have hq := HC.out wq hSq; go_split_ands; go_simp; (try with_reducible rfl))
  try simp only [Act.put, getElem_toArray, getElem_cons_zero, getElem_cons_succ, setIfInBounds_toArray, set_cons_zero, set_cons_succ]
  refine wpAnyH_take (i := 4) (v := ?_) rfl (by kernel_rfl) (by kernel_rfl) (by kernel_rfl) (fun _ _ _ h => h) (Or.inl ⟨by rfl, ?_⟩) (by assumption) ?_; rotate_left; · (intro wq hSq; have hq := HC.out wq hSq; go_split_ands; go_simp; (try with_reducible rfl))
  try simp only [Act.put, getElem_toArray, getElem_cons_zero, getElem_cons_succ, setIfInBounds_toArray, set_cons_zero, set_cons_succ]
  refine wpAnyH_take (i := 5) (v := ?_) rfl (by kernel_rfl) (by kernel_rfl) (by kernel_rfl) (fun _ _ _ h => h) (Or.inl ⟨by rfl, ?_⟩) (by assumption) ?_; rotate_left; · (intro wq hSq; have hq := HC.out wq hSq; go_split_ands; go_simp; (try with_reducible rfl))
  try simp only [Act.put, getElem_toArray, getElem_cons_zero, getElem_cons_succ, setIfInBounds_toArray, set_cons_zero, set_cons_succ]
  refine wpAnyH_take (i := 6) (v := ?_) rfl (by kernel_rfl) (by kernel_rfl) (by kernel_rfl) (fun _ _ _ h => h) (Or.inl ⟨by rfl, ?_⟩) (by assumption) ?_; rotate_left; · (intro wq hSq; have hq := HC.out wq hSq; go_split_ands; go_simp; (try with_reducible rfl))
  try simp only [Act.put, getElem_toArray, getElem_cons_zero, getElem_cons_succ, setIfInBounds_toArray, set_cons_zero, set_cons_succ]
  refine wpAnyH_take (i := 7) (v := ?_) rfl (by kernel_rfl) (by kernel_rfl) (by kernel_rfl) (fun _ _ _ h => h) (Or.inl ⟨by rfl, ?_⟩) (by assumption) ?_; rotate_left; · (intro wq hSq; have hq := HC.out wq hSq; go_split_ands; go_simp; (try with_reducible rfl))
  try simp only [Act.put, getElem_toArray, getElem_cons_zero, getElem_cons_succ, setIfInBounds_toArray, set_cons_zero, set_cons_succ]
  refine wpAnyH_take (i := 8) (v := ?_) rfl (by kernel_rfl) (by kernel_rfl) (by kernel_rfl) (fun _ _ _ h => h) (Or.inl ⟨by rfl, ?_⟩) (by assumption) ?_; rotate_left; · (intro wq hSq; have hq := HC.out wq hSq; go_split_ands; go_simp; (try with_reducible rfl))
  try simp only [Act.put, getElem_toArray, getElem_cons_zero, getElem_cons_succ, setIfInBounds_toArray, set_cons_zero, set_cons_succ]
  refine wpAnyH_take (i := 9) (v := ?_) rfl (by kernel_rfl) (by kernel_rfl) (by kernel_rfl) (fun _ _ _ h => h) (Or.inl ⟨by rfl, ?_⟩) (by assumption) ?_; rotate_left; · (intro wq hSq; have hq := HC.out wq hSq; go_split_ands; go_simp; (try with_reducible rfl))
  try simp only [Act.put, getElem_toArray, getElem_cons_zero, getElem_cons_succ, setIfInBounds_toArray, set_cons_zero, set_cons_succ]
  refine wpAnyH_take (i := 10) (v := ?_) rfl (by kernel_rfl) (by kernel_rfl) (by kernel_rfl) (fun _ _ _ h => h) (Or.inl ⟨by rfl, ?_⟩) (by assumption) ?_; rotate_left; · (intro wq hSq; have hq := HC.out wq hSq; go_split_ands; go_simp; (try with_reducible rfl))
  try simp only [Act.put, getElem_toArray, getElem_cons_zero, getElem_cons_succ, setIfInBounds_toArray, set_cons_zero, set_cons_succ]
  refine wpAnyH_take (i := 11) (v := ?_) rfl (by kernel_rfl) (by kernel_rfl) (by kernel_rfl) (fun _ _ _ h => h) (Or.inl ⟨by rfl, ?_⟩) (by assumption) ?_; rotate_left; · (intro wq hSq; have hq := HC.out wq hSq; go_split_ands; go_simp; (try with_reducible rfl))
  try simp only [Act.put, getElem_toArray, getElem_cons_zero, getElem_cons_succ, setIfInBounds_toArray, set_cons_zero, set_cons_succ]
  refine wpAnyH_take (i := 12) (v := ?_) rfl (by kernel_rfl) (by kernel_rfl) (by kernel_rfl) (fun _ _ _ h => h) (Or.inl ⟨by rfl, ?_⟩) (by assumption) ?_; rotate_left; · (intro wq hSq; have hq := HC.out wq hSq; go_split_ands; go_simp; (try with_reducible rfl))
  try simp only [Act.put, getElem_toArray, getElem_cons_zero, getElem_cons_succ, setIfInBounds_toArray, set_cons_zero, set_cons_succ]
  refine wpAnyH_take (i := 13) (v := ?_) rfl (by kernel_rfl) (by kernel_rfl) (by kernel_rfl) (fun _ _ _ h => h) (Or.inl ⟨by rfl, ?_⟩) (by assumption) ?_; rotate_left; · (intro wq hSq; have hq := HC.out wq hSq; go_split_ands; go_simp; (try with_reducible rfl))
  try simp only [Act.put, getElem_toArray, getElem_cons_zero, getElem_cons_succ, setIfInBounds_toArray, set_cons_zero, set_cons_succ]
  refine wpAnyH_take (i := 14) (v := ?_) rfl (by kernel_rfl) (by kernel_rfl) (by kernel_rfl) (fun _ _ _ h => h) (Or.inl ⟨by rfl, ?_⟩) (by assumption) ?_; rotate_left; · (intro wq hSq; have hq := HC.out wq hSq; go_split_ands; go_simp; (try with_reducible rfl))
  try simp only [Act.put, getElem_toArray, getElem_cons_zero, getElem_cons_succ, setIfInBounds_toArray, set_cons_zero, set_cons_succ]
  refine wpAnyH_take (i := 15) (v := ?_) rfl (by kernel_rfl) (by kernel_rfl) (by kernel_rfl) (fun _ _ _ h => h) (Or.inl ⟨by rfl, ?_⟩) (by assumption) ?_; rotate_left; · (intro wq hSq; have hq := HC.out wq hSq; go_split_ands; go_simp; (try with_reducible rfl))
  try simp only [Act.put, getElem_toArray, getElem_cons_zero, getElem_cons_succ, setIfInBounds_toArray, set_cons_zero, set_cons_succ]
  refine wpAnyH_take (i := 16) (v := ?_) rfl (by kernel_rfl) (by kernel_rfl) (by kernel_rfl) (fun _ _ _ h => h) (Or.inl ⟨by rfl, ?_⟩) (by assumption) ?_; rotate_left; · (intro wq hSq; have hq := HC.out wq hSq; go_split_ands; go_simp; (try with_reducible rfl))
  try simp only [Act.put, getElem_toArray, getElem_cons_zero, getElem_cons_succ, setIfInBounds_toArray, set_cons_zero, set_cons_succ]
  refine wpAnyH_take (i := 17) (v := ?_) rfl (by kernel_rfl) (by kernel_rfl) (by kernel_rfl) (fun _ _ _ h => h) (Or.inl ⟨by rfl, ?_⟩) (by assumption) ?_; rotate_left; · (intro wq hSq; have hq := HC.out wq hSq; go_split_ands; go_simp; (try with_reducible rfl))
  try simp only [Act.put, getElem_toArray, getElem_cons_zero, getElem_cons_succ, setIfInBounds_toArray, set_cons_zero, set_cons_succ]
  refine wpAnyH_done (by kernel_rfl) ?_ _
  have hbm : MapP w.drew bs[i] ((s.inS n).map fun t => (keyI t.no, tmV t)) := by
    have h1 := (H0.out.slot i hib).frm ((Frm.refl (fun _ => False) w).drew) (fun h => h)
    unfold Wh.inS
    rw [HI.out]
    exact h1
  have hlen : (s.inS n).length ≤ 1024 := Nat.le_trans (List.length_filter_le _ _) HS.out.len
  have HKY := Lib.hid (fun W => wkeys_any bs[i] W)
  obtain ⟨ks, hks⟩ : ∃ ks, ks = (s.inS n).map (·.no) := ⟨_, rfl⟩
  obtain ⟨kl, hkl⟩ : ∃ kl, kl = ks.length := ⟨_, rfl⟩
  have hkl2 : kl = (s.inS n).length := by rw [hkl, hks, List.length_map]
  have hst := wsorted_any w.drew bs[i] _ ks hbm (by rw [hks, List.map_map, List.map_map]; exact .refl _) (by rw [hks]; exact inS_sorted n HS.out.srt) (fun x hx => by
    rw [hks] at hx
    obtain ⟨t, ht, rfl⟩ := List.mem_map.1 hx
    have h1 := HS.out.lo t (List.mem_filter.1 ht).1
    have h2 := HS.out.last
    simp [Lit.wf, IntKind.min, IntKind.max, IntKind.signed, IntKind.bits]
    omega) (by rw [← hkl, hkl2]; exact hlen)
  have HST := Lib.hid hst
  have HBM := Lib.hid hbm
  have HKS := Lib.hid hks
  have HKL := Lib.hid hkl
  have HK2 := Lib.hid hkl2
  have hkl9 : kl ≤ 1024 := by omega
  clear hbm hst hks hkl hkl2 hlen
  go_wp2_with (first | (go_at_call 109; refine (HKY.out _).mono ?_; rintro e w' ⟨rfl, rfl⟩) | (go_at_call 108; refine HST.out.mono ?_; rintro e w2 ⟨vs, rfl, hrow2, hF2⟩; rw [← HKL.out] at hrow2; obtain ⟨A2, cap2, rfl, hcap2, hcap3, hcells⟩ := row_open hrow2; have HR2 := Lib.hid hrow2; have HF2 := Lib.hid hF2; have HCL := Lib.hid hcells; clear hrow2 hF2 hcells))
  try go_frame
  have hI0 : FireI p n bw bs s B v (.slice A2 kl cap2) told w w2 0 v w2 := by
    have hF : Frm (fun _ => False) w w2 := (Frm.refl _ w).drew.trans' HF2.out
    refine ⟨(H0.out.grow hF).perm (mid_zero s n).symm rfl rfl, hF.row HROW.out (fun _ _ h => h), ?_, hF.mono (fun _ _ h => h.elim), fun k hk => .inl hk, fun k hk => ?_, Nat.le_refl _, hF.size, HV.out⟩
    · unfold RowI
      rw [List.length_map, ← HK2.out, ← HKS.out]
      exact HR2.out
    · obtain ⟨h1, cur, h2⟩ := row_block HR2.out hk
      exact ⟨h1, lt_of_block h2⟩
  have HI0 := Lib.hid hI0
  clear hI0
  go_loopw [1, 30] (fun a b wr => ∃ k : Nat, b = .int .i64 k ∧ k ≤ kl ∧ FireI p n bw bs s B v (.slice A2 kl cap2) told w w2 k a wr) (fun _ b _ => kl - (Go.RowKit.intOf b).toNat)
  case atStart => exact ⟨0, rfl, Nat.zero_le _, HI0.out⟩
  case round =>
    obtain ⟨k, rfl, hk, hI⟩ := hrel
    have HIR := Lib.hid hI
    have hX0 := hI.row
    obtain ⟨X, hX⟩ : ∃ X, X = ((s.inS n).take k).foldl (tellT s.now) told := ⟨_, rfl⟩
    have hXl : X.length ≤ 65536 := by rw [hX]; exact tell_len _ _ _ htl
    rw [← hX] at hX0
    have HX := Lib.hid hX
    have HX0 := Lib.hid hX0
    obtain ⟨A1, cap1, rfl, hc1, hc2, _⟩ := row_open hX0
    clear hX hX0
    by_cases hlt : k < kl
    · have hks2 : k < (s.inS n).length := by rw [← HK2.out]; exact hlt
      obtain ⟨a1, a2, a3⟩ := mid_at s n hks2
      obtain ⟨t, ht⟩ : ∃ t, t = (s.inS n)[k] := ⟨_, rfl⟩
      rw [← ht] at a1 a2 a3
      have hsr := hI.srt
      unfold RowI at hsr
      rw [List.length_map, ← HK2.out] at hsr
      obtain ⟨A', cap', e, _, _, h3⟩ := row_open hsr
      simp only [Value.slice.injEq] at e
      obtain ⟨rfl, -, rfl⟩ := e
      obtain ⟨g2, rfl, _, _, _, hcell⟩ := h3 (by omega)
      have ks0 : wr.cell? ⟨g2, k, none⟩ = some (.int .i64 t.no) := by
        rw [hcell k (by omega), List.getElem?_map, List.getElem?_map, List.getElem?_eq_getElem hks2, ht]
        rfl
      have hdi : t.due % n = (i : Int) := by rw [a1]; exact HI.out
      have hlk := (hI.whl.slot i hib).hit (P := Try.prog) (k := 3) (t := 158) (n := t.no) (v := tmV t) Try.underlying3 Try.underlying158 (List.mem_map.2 ⟨t, List.mem_filter.2 ⟨a2, by simp [hdi]⟩, rfl⟩) false
      simp only [Bool.false_eq_true, if_false, tmV, tmC] at hlk
      have g3 : decide ((k : Int) < kl) = true := by simp; omega
      have HT := Lib.hid ht
      have HA := Lib.hid (And.intro hdi (And.intro a2 a3))
      clear hI h3 hcell hsr ht a1 a2 a3 hdi
      go_upto_region 6 with fail
      have hwb : Frm (fun _ => False) wr (wr.alloc (.cells #[.int .u64 t.due, .int .u64 t.per, .int .i64 t.what] 163 (0, 0))) := (Frm.refl _ _).alloc _
      have hbx : (wr.alloc (.cells #[.int .u64 t.due, .int .u64 t.per, .int .i64 t.what] 163 (0, 0))).heap[wr.heap.size]? = some (.cells #[.int .u64 t.due, .int .u64 t.per, .int .i64 t.what] 163 (0, 0)) := heap_new wr _
      obtain ⟨wb, hwbe⟩ : ∃ wb, wb = wr.alloc (.cells #[.int .u64 t.due, .int .u64 t.per, .int .i64 t.what] 163 (0, 0)) := ⟨_, rfl⟩
      rw [← hwbe] at hwb hbx ⊢
      obtain ⟨g3, cap3, O3⟩ := (HIR.out.whl.grow hwb).open_
      have j2 : wb.cell? ⟨p, 2, none⟩ = some (.int .u64 s.now) := cell_at O3.hp
      have HC6 := Lib.hid (fun W (h : Frm (fun _ => False) wb W) => (⟨h.cell j2 (fun h => h), h.cell (cell_at hbx : wb.cell? ⟨wr.heap.size, 0, none⟩ = some (.int .u64 t.due)) (fun h => h)⟩ : _ ∧ _))
      have HWB := Lib.hid hwb
      have HBX := Lib.hid hbx
      clear hwbe hwb hbx O3 j2 hlk ks0
      by_cases hdn : t.due = s.now
      · have g4 : (t.due != s.now) = false := by simp [hdn]
        have HDN := Lib.hid hdn
        clear hdn
        refine wp_region_held_drew (S := fun W => Frm (fun _ => False) wb W) (by kernel_rfl) ((Frm.refl _ _).drew) (fun hHeld => ?_)
        refine wpAnyH_take (i := 0) (v := ?_) rfl (by kernel_rfl) (by kernel_rfl) (by kernel_rfl) (fun _ _ _ h => h) (Or.inl ⟨by rfl, ?_⟩) (by assumption) ?_; rotate_left; · (intro wq hSq; have hq := HC6.out wq hSq; go_split_ands; go_simp; (try with_reducible rfl))
        try simp only [Act.put, getElem_toArray, getElem_cons_zero, getElem_cons_succ, setIfInBounds_toArray, set_cons_zero, set_cons_succ]
        refine wpAnyH_take (i := 1) (v := ?_) rfl (by kernel_rfl) (by kernel_rfl) (by kernel_rfl) (fun _ _ _ h => h) (Or.inl ⟨by rfl, ?_⟩) (by assumption) ?_; rotate_left; · (intro wq hSq; have hq := HC6.out wq hSq; go_split_ands; go_simp; (try with_reducible rfl))
        try simp only [Act.put, getElem_toArray, getElem_cons_zero, getElem_cons_succ, setIfInBounds_toArray, set_cons_zero, set_cons_succ]
        refine wpAnyH_take (i := 2) (v := ?_) rfl (by kernel_rfl) (by kernel_rfl) (by kernel_rfl) (fun _ _ _ h => h) (Or.inl ⟨by rfl, ?_⟩) (by assumption) ?_; rotate_left; · (intro wq hSq; have hq := HC6.out wq hSq; go_split_ands; go_simp; (try with_reducible rfl))
        try simp only [Act.put, getElem_toArray, getElem_cons_zero, getElem_cons_succ, setIfInBounds_toArray, set_cons_zero, set_cons_succ]
        refine wpAnyH_take (i := 3) (v := ?_) rfl (by kernel_rfl) (by kernel_rfl) (by kernel_rfl) (fun _ _ _ h => h) (Or.inl ⟨by rfl, ?_⟩) (by assumption) ?_; rotate_left; · (intro wq hSq; have hq := HC6.out wq hSq; go_split_ands; go_simp; (try with_reducible rfl))
        try simp only [Act.put, getElem_toArray, getElem_cons_zero, getElem_cons_succ, setIfInBounds_toArray, set_cons_zero, set_cons_succ]
        refine wpAnyH_take (i := 4) (v := ?_) rfl (by kernel_rfl) (by kernel_rfl) (by kernel_rfl) (fun _ _ _ h => h) (Or.inl ⟨by rfl, ?_⟩) (by assumption) ?_; rotate_left; · (intro wq hSq; have hq := HC6.out wq hSq; go_split_ands; go_simp; (try with_reducible rfl))
        try simp only [Act.put, getElem_toArray, getElem_cons_zero, getElem_cons_succ, setIfInBounds_toArray, set_cons_zero, set_cons_succ]
        refine wpAnyH_take (i := 5) (v := ?_) rfl (by kernel_rfl) (by kernel_rfl) (by kernel_rfl) (fun _ _ _ h => h) (Or.inl ⟨by rfl, ?_⟩) (by assumption) ?_; rotate_left; · (intro wq hSq; have hq := HC6.out wq hSq; go_split_ands; go_simp; (try with_reducible rfl))
        try simp only [Act.put, getElem_toArray, getElem_cons_zero, getElem_cons_succ, setIfInBounds_toArray, set_cons_zero, set_cons_succ]
        refine wpAnyH_take (i := 6) (v := ?_) rfl (by kernel_rfl) (by kernel_rfl) (by kernel_rfl) (fun _ _ _ h => h) (Or.inl ⟨by rfl, ?_⟩) (by assumption) ?_; rotate_left; · (intro wq hSq; have hq := HC6.out wq hSq; go_split_ands; go_simp; (try with_reducible rfl))
        try simp only [Act.put, getElem_toArray, getElem_cons_zero, getElem_cons_succ, setIfInBounds_toArray, set_cons_zero, set_cons_succ]
        refine wpAnyH_done (by kernel_rfl) ?_ _
        go_upto_if 46 with fail
        obtain ⟨bb, hbb⟩ : ∃ bb, bb = decide ((X.length : Int) < 65536) := ⟨_, rfl⟩
        rw [← hbb]
        have HBB := Lib.hid hbb
        clear hbb
        have m2 : wb.drew.cell? ⟨wr.heap.size, 2, none⟩ = some (.int .i64 t.what) := cell_at HBX.out
        have HXW : Hid (RowI wb B (.slice A1 X.length cap1) X) := HWB.out.row HX0.out (fun _ _ h => h)
        have HB2 := Lib.hid (Nat.le_trans hB (Nat.le_trans HIR.out.frm.size HWB.out.size))
        have HXL := Lib.hid hXl
        clear hXl
        go_cut [1] (fun a wx => ToldC B (.slice A1 X.length cap1) (tellT s.now X t) wb a wx)
        case first =>
          cases bb with
          | true =>
            have hxl : X.length < 65536 := by have := HBB.out; simp at this; omega
            have HTE : Hid (tellT s.now X t = X ++ [t.what]) := by unfold Hid tellT; rw [if_pos ⟨HDN.out, hxl⟩]
            clear hxl
            go_wp2_with (at_builtin; refine wpl_app rfl el_intW (.tmp 47) (.tmp 50) rfl rfl rfl (Frm.row (Frm.alloc (Frm.drew (Frm.refl (fun _ => False) wb)) _) HXW.out (fun _ _ h => h)) (heap_new_at (by simp)) rfl (fun u hu => by simp at hu; subst hu; rfl) (by decide) (by have := HXL.out; unfold maxLen; omega) (by have := HXL.out; omega) (by have := HB2.out; simp; omega) ?_; intro g5 cap5 w5 hown5 hF5 hat5 hlt5; have HO5 := Lib.hid hown5; have HF5 := Lib.hid hF5; have HA5 := Lib.hid hat5; clear hown5 hF5 hat5)
            go_meet
            refine ⟨?_, (((Frm.drew (Frm.refl (fun j => (Value.slice A1 X.length cap1).ownBlock = some j) wb)).alloc _).trans' HF5.out), fun j hj => ?_⟩
            · rw [HTE.out]
              unfold RowI
              rw [List.length_append, List.length_singleton, List.map_append]
              exact HO5.out
            · simp only [Value.ownBlock, Option.some.injEq] at hj
              subst hj
              refine HA5.out.imp id (fun h => ?_)
              simp at h
              omega
          | false =>
            have hxl : ¬ X.length < 65536 := by have := HBB.out; simp at this; omega
            have HTE : Hid (tellT s.now X t = X) := by unfold Hid tellT; rw [if_neg (fun h => hxl h.2)]
            clear hxl
            go_wp2_with fail
            go_meet
            refine ⟨?_, Frm.drew (Frm.refl _ _), fun j hj => .inl hj⟩
            rw [HTE.out]
            exact (Frm.drew (Frm.refl (fun _ => False) wb)).row HXW.out (fun _ _ h => h)
        case rest =>
          have HCT := Lib.hid hcut
          have hwc := (HIR.out.whl.grow HWB.out).told HXW.out HCT.out.frm
          have htb : ∀ j cs fz, wb.heap[j]? = some (.cells cs 163 fz) → ¬ (Value.slice A1 X.length cap1).ownBlock = some j := fun j cs fz hj e => by
            obtain ⟨cur, hcur⟩ := HXW.out.blk e
            rw [hj] at hcur
            cases hcur
          have hbc : wc.heap[wr.heap.size]? = some (.cells #[.int .u64 t.due, .int .u64 t.per, .int .i64 t.what] 163 (0, 0)) := HCT.out.frm.heap HBX.out (htb _ _ _ HBX.out)
          have HBC := Lib.hid hbc
          have HCP : Hid ((s.mid n k).Perm (t :: s.cut n k)) := by have := cut_perm s n hks2; rw [← HT.out] at this; exact this
          have HCN := Lib.hid (wcancel_hit wc p n bw bs ⟨s.mid n k, s.now, s.last⟩ t (s.cut n k) hwc HCP.out)
          have HWC := Lib.hid hwc
          have HM6 := Lib.hid (fun (w6 : World) (hF : Frm (WhM bw bs) wc w6) => hF.heap HBC.out (fun e => HWC.out.row_not HBC.out (by decide) (.inr e)))
          have HDT : Hid (((s.inS n)[k]).due = s.now) := by rw [← HT.out]; exact HDN.out
          unfold ptrW at HCN
          clear hcut hwc htb hbc
          by_cases hper : 0 < t.per
          · have g6 : decide (0 < t.per) = true := by simp [hper]
            have htp := HS.out.per t HA.out.2.2
            have HTP := Lib.hid htp
            have q6 : IntKind.u64.wrap (t.due + t.per) = t.due + t.per := IntWalk.u64_in _ (by have := HDN.out; have := HS.out.now; omega)
            have HNC : Hid (∀ x ∈ s.cut n k, x.no ≠ t.no) := fun x hx e => by
              have h1 := (HCP.out.map (·.no)).nodup_iff.1 (mid_nodup n HS.out.srt k)
              rw [List.map_cons, List.nodup_cons] at h1
              exact h1.1 (by rw [← e]; exact List.mem_map_of_mem (f := (·.no)) hx)
            have HPE : Hid (0 < ((s.inS n)[k]).per) := by rw [← HT.out]; exact hper
            clear hper htp
            go_upto_region 11 with (go_at_call 46; refine HCN.out.mono ?_; rintro e w6 ⟨rfl, hA6, hF6⟩; have hb6 := HM6.out w6 hF6; have n0 : w6.cell? ⟨wr.heap.size, 0, none⟩ = some (.int .u64 t.due) := cell_at hb6; have n1 : w6.cell? ⟨wr.heap.size, 1, none⟩ = some (.int .u64 t.per) := cell_at hb6; have n2 : w6.cell? ⟨wr.heap.size, 2, none⟩ = some (.int .i64 t.what) := cell_at hb6; have nf := frees hb6; have HA6 := Lib.hid hA6; have HF6 := Lib.hid hF6; have HB6 := Lib.hid hb6; clear hA6 hF6 hb6)
            have h7 : w6.heap.size = w6.heap.size := rfl
            go_upto_region 12 with fail
            have hb7 : (w6.setCell ⟨wr.heap.size, 0, none⟩ (.int .u64 (t.due + t.per))).heap[wr.heap.size]? = some (.cells #[.int .u64 (t.due + t.per), .int .u64 t.per, .int .i64 t.what] 163 (0, 0)) := heap_set_at HB6.out rfl
            have hF7 : Frm (One wr.heap.size) w6 (w6.setCell ⟨wr.heap.size, 0, none⟩ (.int .u64 (t.due + t.per))) := (Frm.refl _ _).set1 _
            obtain ⟨w7, hw7⟩ : ∃ w7, w7 = w6.setCell ⟨wr.heap.size, 0, none⟩ (.int .u64 (t.due + t.per)) := ⟨_, rfl⟩
            rw [← hw7] at hb7 hF7 ⊢
            have hA7 := HA6.out.frm hF7 (fun j hj e => by have e : j = wr.heap.size := e; subst e; exact HA6.out.row_not HB6.out (by decide) hj) (fun j cur hj e => by have e : j = wr.heap.size := e; subst e; rw [HB6.out] at hj; cases hj)
            have n70 : w7.cell? ⟨wr.heap.size, 0, none⟩ = some (.int .u64 (t.due + t.per)) := cell_at hb7
            have n71 : w7.cell? ⟨wr.heap.size, 1, none⟩ = some (.int .u64 t.per) := cell_at hb7
            have n72 : w7.cell? ⟨wr.heap.size, 2, none⟩ = some (.int .i64 t.what) := cell_at hb7
            have HPU := Lib.hid (wput_any w7 p n bw bs ⟨s.cut n k, s.now, s.last⟩ t.again hA7 (fun x hx => HNC.out x hx) (by have := HDN.out; have := HTP.out; show 0 ≤ t.due + t.per; omega) (by have := HDN.out; have := HTP.out; have := HS.out.now; show t.due + t.per ≤ _; omega))
            unfold ptrW tmV tmC Tm.again at HPU
            have HF7 := Lib.hid hF7
            clear hA7 hF7 hb7 hw7 n0 n1 n2 nf h7
            go_wp2_with (go_at_call 107; refine HPU.out.mono ?_; rintro e w8 ⟨rfl, hA8, hF8⟩; have HA8 := Lib.hid hA8; have HF8 := Lib.hid hF8; clear hA8 hF8)
            go_roundw
            case rel =>
              refine ⟨k + 1, by go_num, by omega, HIR.out.next HWB.out HXW.out hks2 (by rw [← HT.out]; exact HCT.out) HX.out (((HF6.out.mono (fun _ _ h => .inl h)).trans' (HF7.out.mono (fun _ _ h => .inr h))).trans' (HF8.out.mono (fun _ _ h => .inl h))) (fun cur e => by rw [HBC.out] at e; cases e) (HA8.out.perm ?_ rfl rfl) HWC.out⟩
              have h1 := mid_again s n hks2 HDT.out HPE.out
              rw [← HT.out] at h1
              exact h1
            case measure => simp [Go.RowKit.intOf]; omega
          · have g6 : decide (0 < t.per) = false := by simp [hper]
            have HPE : Hid (((s.inS n)[k]).per ≤ 0) := by rw [← HT.out]; exact Int.not_lt.1 hper
            clear hper
            go_wp2_with (go_at_call 46; refine HCN.out.mono ?_; rintro e w6 ⟨rfl, hA6, hF6⟩; have hb6 := HM6.out w6 hF6; have n1 : w6.cell? ⟨wr.heap.size, 1, none⟩ = some (.int .u64 t.per) := cell_at hb6; have HA6 := Lib.hid hA6; have HF6 := Lib.hid hF6; clear hA6 hF6 hb6)
            go_roundw
            case rel => exact ⟨k + 1, by go_num, by omega, HIR.out.next HWB.out HXW.out hks2 (by rw [← HT.out]; exact HCT.out) HX.out (HF6.out.mono (fun _ _ h => .inl h)) (fun cur e => by rw [HBC.out] at e; cases e) (by rw [mid_once s n hks2 HDT.out (Int.not_lt.2 HPE.out)]; exact HA6.out) HWC.out⟩
            case measure => simp [Go.RowKit.intOf]; omega
      · have g4 : (t.due != s.now) = true := by simp [hdn]
        have HDN : Hid (((s.inS n)[k]).due ≠ s.now) := by rw [← HT.out]; exact hdn
        clear hdn
        refine wp_region_held_drew (S := fun W => Frm (fun _ => False) wb W) (by kernel_rfl) ((Frm.refl _ _).drew) (fun hHeld => ?_)
        refine wpAnyH_take (i := 0) (v := ?_) rfl (by kernel_rfl) (by kernel_rfl) (by kernel_rfl) (fun _ _ _ h => h) (Or.inl ⟨by rfl, ?_⟩) (by assumption) ?_; rotate_left; · (intro wq hSq; have hq := HC6.out wq hSq; go_split_ands; go_simp; (try with_reducible rfl))
        try simp only [Act.put, getElem_toArray, getElem_cons_zero, getElem_cons_succ, setIfInBounds_toArray, set_cons_zero, set_cons_succ]
        refine wpAnyH_take (i := 1) (v := ?_) rfl (by kernel_rfl) (by kernel_rfl) (by kernel_rfl) (fun _ _ _ h => h) (Or.inl ⟨by rfl, ?_⟩) (by assumption) ?_; rotate_left; · (intro wq hSq; have hq := HC6.out wq hSq; go_split_ands; go_simp; (try with_reducible rfl))
        try simp only [Act.put, getElem_toArray, getElem_cons_zero, getElem_cons_succ, setIfInBounds_toArray, set_cons_zero, set_cons_succ]
        refine wpAnyH_take (i := 2) (v := ?_) rfl (by kernel_rfl) (by kernel_rfl) (by kernel_rfl) (fun _ _ _ h => h) (Or.inl ⟨by rfl, ?_⟩) (by assumption) ?_; rotate_left; · (intro wq hSq; have hq := HC6.out wq hSq; go_split_ands; go_simp; (try with_reducible rfl))
        try simp only [Act.put, getElem_toArray, getElem_cons_zero, getElem_cons_succ, setIfInBounds_toArray, set_cons_zero, set_cons_succ]
        refine wpAnyH_take (i := 3) (v := ?_) rfl (by kernel_rfl) (by kernel_rfl) (by kernel_rfl) (fun _ _ _ h => h) (Or.inl ⟨by rfl, ?_⟩) (by assumption) ?_; rotate_left; · (intro wq hSq; have hq := HC6.out wq hSq; go_split_ands; go_simp; (try with_reducible rfl))
        try simp only [Act.put, getElem_toArray, getElem_cons_zero, getElem_cons_succ, setIfInBounds_toArray, set_cons_zero, set_cons_succ]
        refine wpAnyH_take (i := 4) (v := ?_) rfl (by kernel_rfl) (by kernel_rfl) (by kernel_rfl) (fun _ _ _ h => h) (Or.inl ⟨by rfl, ?_⟩) (by assumption) ?_; rotate_left; · (intro wq hSq; have hq := HC6.out wq hSq; go_split_ands; go_simp; (try with_reducible rfl))
        try simp only [Act.put, getElem_toArray, getElem_cons_zero, getElem_cons_succ, setIfInBounds_toArray, set_cons_zero, set_cons_succ]
        refine wpAnyH_take (i := 5) (v := ?_) rfl (by kernel_rfl) (by kernel_rfl) (by kernel_rfl) (fun _ _ _ h => h) (Or.inl ⟨by rfl, ?_⟩) (by assumption) ?_; rotate_left; · (intro wq hSq; have hq := HC6.out wq hSq; go_split_ands; go_simp; (try with_reducible rfl))
        try simp only [Act.put, getElem_toArray, getElem_cons_zero, getElem_cons_succ, setIfInBounds_toArray, set_cons_zero, set_cons_succ]
        refine wpAnyH_take (i := 6) (v := ?_) rfl (by kernel_rfl) (by kernel_rfl) (by kernel_rfl) (fun _ _ _ h => h) (Or.inl ⟨by rfl, ?_⟩) (by assumption) ?_; rotate_left; · (intro wq hSq; have hq := HC6.out wq hSq; go_split_ands; go_simp; (try with_reducible rfl))
        try simp only [Act.put, getElem_toArray, getElem_cons_zero, getElem_cons_succ, setIfInBounds_toArray, set_cons_zero, set_cons_succ]
        refine wpAnyH_done (by kernel_rfl) ?_ _
        go_wp2_with fail
        go_roundw
        case rel => exact ⟨k + 1, by go_num, by omega, HIR.out.same hks2 HDN.out (HWB.out.trans' hHeld)⟩
        case measure => simp [Go.RowKit.intOf]; omega
    · obtain rfl : k = kl := by omega
      have g3 : decide ((k : Int) < k) = false := by simp
      go_wp2_with fail
      go_ret
      refine ⟨_, rfl, HIR.out.whl.perm (mid_end s n HK2.out told) rfl rfl, ?_, HIR.out.frm, fun j hj => (HIR.out.blk j hj).imp id (fun h => Nat.le_trans HIR.out.wsz h)⟩
      rw [← told_end s n told]
      have h1 := HIR.out.row
      rw [HK2.out, List.take_length] at h1
      rw [HX.out, HK2.out, List.take_length]
      rw [HX.out, HK2.out, List.take_length] at *
      exact h1
end Go.Proofs.Ytmkkeglcjbogcaa
