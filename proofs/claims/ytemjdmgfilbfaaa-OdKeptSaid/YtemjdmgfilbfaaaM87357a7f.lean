/-
  Plain: what Load does. The program's Reset. Plain: what is written, or set, to one entry leaves all others. Plain: the document's May and Write are the code's, for the entries of a dictionary. A dictionary by the program and by the document, side by side. A call by the program and by the document: what all kinds share.
-/
import Derived.Test.YtemjdmgfilbfaaaM6bbef041
import Derived.Test.YtemjdmgfilbfaaaM1d64679b
import Derived.Test.YtemjdmgfilbfaaaM4c8e25fb
set_option linter.unusedVariables false
set_option linter.unusedSimpArgs false
namespace Go.Proofs.Ytemjdmgfilbfaaa
set_option linter.unusedVariables false
set_option linter.unusedSimpArgs false

/-- Saved values, looked up one behind the other: the code, and the entries' places with their values. -/
def gotD (d : List Im) : List It → Int × List (Nat × Va)
  | [] => (0, [])
  | x :: r => match findD d x.1 x.2.1 with
    | none => (4, [])
    | some k => match d[k]? with
      | none => (4, [])
      | some y => if y.1.acc ≠ 2 then (4, []) else if (decV y.1.df.ty x.2.2).2 ≠ 0 then (8, []) else ((gotD d r).1, (k, (decV y.1.df.ty x.2.2).1) :: (gotD d r).2)
def putD (d : List Im) (p : Nat × Va) : List Im := match d[p.1]? with | none => d | some y => d.set p.1 (y.1, p.2)
def putAll (d : List Im) (ps : List (Nat × Va)) : List Im := ps.foldl putD d
def loadD (d : List Im) (b : List UInt8) : List Im × Int := match partsD b with
  | none => (d, 8)
  | some l => if (gotD d l).1 ≠ 0 then (d, (gotD d l).1) else (putAll d (gotD d l).2, 0)
/-- What the next saved value does. -/
theorem gotD_next {d : List Im} {x : It} {r : List It} {k : Nat} {y : Im} (hf : findD d x.1 x.2.1 = some k) (hk : d[k]? = some y) (h1 : y.1.acc = 2) (h2 : (decV y.1.df.ty x.2.2).2 = 0) : gotD d (x :: r) = ((gotD d r).1, (k, (decV y.1.df.ty x.2.2).1) :: (gotD d r).2) := by
  conv => lhs; unfold gotD
  rw [hf]
  simp only [hk]
  rw [if_neg (by simp [h1]), if_neg (by simp [h2])]
theorem gotD_none {d : List Im} {x : It} {r : List It} (hf : findD d x.1 x.2.1 = none) : gotD d (x :: r) = (4, []) := by
  unfold gotD
  rw [hf]
theorem gotD_out {d : List Im} {x : It} {r : List It} {k : Nat} (hf : findD d x.1 x.2.1 = some k) (hk : d[k]? = none) : gotD d (x :: r) = (4, []) := by
  unfold gotD
  rw [hf]
  simp only [hk]
theorem gotD_acc {d : List Im} {x : It} {r : List It} {k : Nat} {y : Im} (hf : findD d x.1 x.2.1 = some k) (hk : d[k]? = some y) (h1 : y.1.acc ≠ 2) : gotD d (x :: r) = (4, []) := by
  unfold gotD
  rw [hf]
  simp only [hk]
  rw [if_pos h1]
theorem gotD_dec {d : List Im} {x : It} {r : List It} {k : Nat} {y : Im} (hf : findD d x.1 x.2.1 = some k) (hk : d[k]? = some y) (h1 : y.1.acc = 2) (h2 : (decV y.1.df.ty x.2.2).2 ≠ 0) : gotD d (x :: r) = (8, []) := by
  unfold gotD
  rw [hf]
  simp only [hk]
  rw [if_neg (by simp [h1]), if_pos h2]
theorem gotD_join (d : List Im) (a b : List It) : gotD d (a ++ b) = if (gotD d a).1 ≠ 0 then gotD d a else ((gotD d b).1, (gotD d a).2 ++ (gotD d b).2) := by
  induction a with
  | nil => simp [gotD]
  | cons x r ih =>
    rw [List.cons_append]
    cases hf : findD d x.1 x.2.1 with
    | none => rw [gotD_none hf, gotD_none hf]; simp
    | some k =>
      cases hk : d[k]? with
      | none => rw [gotD_out hf hk, gotD_out hf hk]; simp
      | some y =>
        by_cases h1 : y.1.acc = 2
        · by_cases h2 : (decV y.1.df.ty x.2.2).2 = 0
          · rw [gotD_next hf hk h1 h2, gotD_next hf hk h1 h2, ih]
            by_cases h3 : (gotD d r).1 = 0 <;> simp [h3]
          · rw [gotD_dec hf hk h1 h2, gotD_dec hf hk h1 h2]; simp
        · rw [gotD_acc hf hk h1, gotD_acc hf hk h1]; simp
theorem prtF_sorted (f : Nat) (last : Int) (b : List UInt8) (l : List It) (h : prtF f last b = some l) : (l.map plP).Pairwise (· < ·) ∧ ∀ x ∈ l, last < plP x := by
  induction f generalizing last b l with
  | zero =>
    unfold prtF at h
    split at h
    · cases h; simp
    · cases h
  | succ f ih =>
    unfold prtF at h
    split at h
    · cases h; simp
    · split at h
      · cases h
      · split at h
        · cases h
        · rename_i h3
          obtain ⟨r, hr, rfl⟩ := Option.map_eq_some_iff.1 h
          obtain ⟨i1, i2⟩ := ih _ _ _ hr
          have hlt : last < plP (headP b) := by omega
          refine ⟨?_, fun x hx => ?_⟩
          · rw [List.map_cons, List.pairwise_cons]
            refine ⟨fun z hz => ?_, i1⟩
            obtain ⟨x, hx, rfl⟩ := List.mem_map.1 hz
            exact i2 x hx
          · rcases List.mem_cons.1 hx with rfl | hx
            · exact hlt
            · have := i2 x hx; omega
theorem parts_sorted {b : List UInt8} {l : List It} (h : partsD b = some l) : (l.map plP).Pairwise (· < ·) := (prtF_sorted _ _ _ _ h).1
/-- Each of the entries is found at its own place. -/
theorem got_places (d : List Im) (l : List It) (h : (gotD d l).1 = 0) : (gotD d l).2.length = l.length ∧ ∀ (j : Nat) (hj : j < l.length) (hj2 : j < (gotD d l).2.length), findD d l[j].1 l[j].2.1 = some (gotD d l).2[j].1 := by
  induction l with
  | nil => exact ⟨rfl, fun j hj => absurd hj (Nat.not_lt_zero _)⟩
  | cons x r ih =>
    cases hf : findD d x.1 x.2.1 with
    | none => unfold gotD at h; rw [hf] at h; simp at h
    | some k =>
      cases hk : d[k]? with
      | none => unfold gotD at h; rw [hf] at h; simp [hk] at h
      | some y =>
        by_cases h1 : y.1.acc = 2
        · by_cases h2 : (decV y.1.df.ty x.2.2).2 = 0
          · have e := gotD_next (r := r) hf hk h1 h2
            rw [e] at h
            obtain ⟨i1, i2⟩ := ih h
            rw [e]
            refine ⟨by simp [i1], fun j hj hj2 => ?_⟩
            cases j with
            | zero => simpa using hf
            | succ j =>
              have := i2 j (by simpa using hj) (by simpa using hj2)
              simpa using this
          · unfold gotD at h; rw [hf] at h; simp only [hk] at h; rw [if_neg (by simp [h1]), if_pos h2] at h; exact absurd h (by decide)
        · unfold gotD at h; rw [hf] at h; simp only [hk] at h; rw [if_pos h1] at h; exact absurd h (by decide)
theorem find_is {d : List Im} {i s : Int} {k : Nat} (h : findD d i s = some k) : ∃ hk : k < d.length, d[k].1.idx = i ∧ d[k].1.sub = s := by
  unfold findD at h
  obtain ⟨hk, h1, _⟩ := List.findIdx?_eq_some_iff_getElem.1 h
  unfold isAt at h1
  simp at h1
  exact ⟨hk, h1.1, h1.2⟩
theorem got_nodup {d : List Im} {l : List It} (hs : (l.map plP).Pairwise (· < ·)) (h : (gotD d l).1 = 0) : ((gotD d l).2.map (·.1)).Nodup := by
  obtain ⟨h1, h2⟩ := got_places d l h
  unfold List.Nodup
  rw [List.pairwise_iff_getElem]
  intro i j hi hj hij e
  simp only [List.length_map] at hi hj
  simp only [List.getElem_map] at e
  have f1 := h2 i (by omega) hi
  have f2 := h2 j (by omega) hj
  rw [e] at f1
  obtain ⟨_, a1, a2⟩ := find_is f1
  obtain ⟨_, b1, b2⟩ := find_is f2
  have hlt := List.pairwise_iff_getElem.1 hs i j (by simp; omega) (by simp; omega) hij
  simp only [List.getElem_map] at hlt
  unfold plP at hlt
  rw [a1] at b1
  rw [a2] at b2
  omega
theorem putD_len (d : List Im) (p : Nat × Va) : (putD d p).length = d.length := by
  unfold putD
  split <;> simp
theorem putAll_len (d : List Im) (ps : List (Nat × Va)) : (putAll d ps).length = d.length := by
  unfold putAll
  induction ps generalizing d with
  | nil => rfl
  | cons p r ih => rw [List.foldl_cons, ih, putD_len]
theorem putD_same {d : List Im} {k : Nat} {v : Va} (hk : k < d.length) : (putD d (k, v))[k]? = some (d[k].1, v) := by
  unfold putD
  simp only [List.getElem?_eq_getElem hk]
  rw [List.getElem?_set_self (by simpa using hk)]
theorem putD_other {d : List Im} {p : Nat × Va} {k : Nat} (h : p.1 ≠ k) : (putD d p)[k]? = d[k]? := by
  unfold putD
  split
  · rfl
  · rw [List.getElem?_set_ne h]
theorem putAll_other {d : List Im} {ps : List (Nat × Va)} {k : Nat} (h : ∀ p ∈ ps, p.1 ≠ k) : (putAll d ps)[k]? = d[k]? := by
  unfold putAll
  induction ps generalizing d with
  | nil => rfl
  | cons p r ih =>
    rw [List.foldl_cons, ih (fun q hq => h q (List.mem_cons_of_mem _ hq)), putD_other (h p (List.mem_cons_self ..))]
theorem putAll_get {d : List Im} {ps : List (Nat × Va)} (hn : (ps.map (·.1)).Nodup) {k : Nat} {v : Va} (h : (k, v) ∈ ps) (hk : k < d.length) : (putAll d ps)[k]? = some (d[k].1, v) := by
  induction ps generalizing d with
  | nil => cases h
  | cons p r ih =>
    rw [List.map_cons, List.nodup_cons] at hn
    rcases List.mem_cons.1 h with rfl | h
    · have ho : ∀ q ∈ r, q.1 ≠ k := fun q hq e => hn.1 (List.mem_map.2 ⟨q, hq, e⟩)
      have := putAll_other (d := putD d (k, v)) ho
      show (putAll (putD d (k, v)) r)[k]? = _
      rw [this, putD_same hk]
    · have hpk : p.1 ≠ k := fun e => hn.1 (List.mem_map.2 ⟨(k, v), h, e.symm⟩)
      have hk' : k < (putD d p).length := by rw [putD_len]; exact hk
      show (putAll (putD d p) r)[k]? = _
      rw [ih hn.2 h hk']
      have e := putD_other (d := d) hpk
      rw [List.getElem?_eq_getElem hk', List.getElem?_eq_getElem hk] at e
      rw [Option.some.inj e]
/-- What has each entry's value is the dictionary that was loaded. -/
theorem putAll_uniq {d d' : List Im} {ps : List (Nat × Va)} (hn : (ps.map (·.1)).Nodup) (hl : d'.length = d.length) (h1 : ∀ p ∈ ps, ∀ hk : p.1 < d.length, d'[p.1]? = some (d[p.1].1, p.2)) (h2 : ∀ k, (∀ p ∈ ps, p.1 ≠ k) → d'[k]? = d[k]?) : d' = putAll d ps := by
  apply List.ext_getElem?
  intro k
  by_cases hk : k < d.length
  · by_cases hm : ∃ p ∈ ps, p.1 = k
    · obtain ⟨p, hp, rfl⟩ := hm
      rw [h1 p hp hk, putAll_get hn (v := p.2) hp hk]
    · have ho : ∀ p ∈ ps, p.1 ≠ k := fun p hp e => hm ⟨p, hp, e⟩
      rw [h2 k ho, putAll_other ho]
  · rw [List.getElem?_eq_none (by omega), List.getElem?_eq_none (by rw [putAll_len]; omega)]
theorem gotD_bad {d : List Im} {ls : List It} {k : Nat} {c : Int} (hk : k < ls.length) (h0 : (gotD d (ls.take k)).1 = 0) (hx : ∀ r, (gotD d (ls[k] :: r)).1 = c) : (gotD d ls).1 = c := by
  have e : ls = ls.take k ++ ls[k] :: ls.drop (k + 1) := by rw [← List.drop_eq_getElem_cons hk, List.take_append_drop]
  conv => lhs; rw [e]
  rw [gotD_join, if_neg (by simp [h0])]
  exact hx _
theorem gotD_good {d : List Im} {ls : List It} {k : Nat} {p : Nat × Va} (hk : k < ls.length) (h0 : (gotD d (ls.take k)).1 = 0) (hx : ∀ r, gotD d (ls[k] :: r) = ((gotD d r).1, p :: (gotD d r).2)) : gotD d (ls.take (k + 1)) = (0, (gotD d (ls.take k)).2 ++ [p]) := by
  rw [List.take_succ_eq_append_getElem hk, gotD_join, if_neg (by simp [h0]), hx]
  simp [gotD]
theorem prtF_len (f : Nat) (last : Int) (b : List UInt8) (l : List It) (h : prtF f last b = some l) : ∀ x ∈ l, x.2.2.length ≤ b.length := by
  induction f generalizing last b l with
  | zero =>
    unfold prtF at h
    split at h
    · cases h; simp
    · cases h
  | succ f ih =>
    unfold prtF at h
    split at h
    · cases h; simp
    · split at h
      · cases h
      · split at h
        · cases h
        · obtain ⟨r, hr, rfl⟩ := Option.map_eq_some_iff.1 h
          intro x hx
          rcases List.mem_cons.1 hx with rfl | hx
          · unfold headP
            simp
            omega
          · have := ih _ _ _ hr x hx
            simp at this
            omega
theorem parts_len {b : List UInt8} {l : List It} (h : partsD b = some l) : ∀ x ∈ l, x.2.2.length ≤ b.length := prtF_len _ _ _ _ h
end Go.Proofs.Ytemjdmgfilbfaaa
namespace Go.Proofs.Ytemjdmgfilbfaaa
open Go.RowKit
set_option linter.unusedVariables false
set_option linter.unusedSimpArgs false

def resetN (k : Nat) (d : List Im) : List Im := (d.take k).map (fun x => (x.1, x.1.df)) ++ d.drop k
theorem resetN_len (k : Nat) (d : List Im) : (resetN k d).length = d.length := by
  unfold resetN
  rw [List.length_append, List.length_map, List.length_take, List.length_drop]
  omega
theorem resetN_at {k : Nat} {d : List Im} (hk : k < d.length) : (resetN k d)[k]? = some d[k] := by
  unfold resetN
  rw [List.getElem?_append_right (by simp; omega)]
  simp only [List.length_map, List.length_take, Nat.min_eq_left (Nat.le_of_lt hk), Nat.sub_self, List.getElem?_drop, Nat.add_zero]
  exact List.getElem?_eq_getElem hk
theorem resetN_succ {k : Nat} {d : List Im} (hk : k < d.length) : (resetN k d).set k (d[k].1, d[k].1.df) = resetN (k + 1) d := by
  unfold resetN
  rw [List.take_succ_eq_append_getElem hk, List.map_append, List.drop_eq_getElem_cons hk, List.set_append_right _ _ (by simp; omega)]
  simp only [List.length_map, List.length_take, Nat.min_eq_left (Nat.le_of_lt hk), Nat.sub_self, List.set_cons_zero, List.append_assoc, List.map_cons, List.map_nil, List.singleton_append]
theorem resetN_all (d : List Im) : resetN d.length d = resetD d := by
  unfold resetN resetD
  rw [List.take_length, List.drop_length, List.append_nil]
theorem resetD_ok {d : List Im} (h : DOk d) : DOk (resetD d) := by
  unfold resetD
  refine ⟨?_, fun x hx => ?_, by simpa using h.len⟩
  · rw [List.pairwise_map]
    exact h.srt
  · obtain ⟨y, hy, rfl⟩ := List.mem_map.1 hx
    have := (h.ok y hy).1
    exact ⟨this, this.2.2.2.2.2.2⟩

def ResetP (b : Nat) (l : List (Nat × Im)) (w : World) (e : Ending) (w' : World) : Prop :=
  e = .returned (.tuple #[]) ∧ ∃ l', DAt w' b l' ∧ im l' = resetD (im l) ∧ l'.map (·.1) = l.map (·.1) ∧ Frm (fun j => ∃ q ∈ l, j = q.1) w w'

set_option maxRecDepth 100000 in
set_option maxHeartbeats 2000000 in
theorem odReset_any (b : Nat) (l : List (Nat × Im)) (w : World) (h : DAt w b l) (hlen : l.length ≤ 1024) : Calls Try.prog 59 #[ptr b] w (ResetP b l w) := by
  obtain ⟨v, hO, hr⟩ := h.row
  have HD := Lib.hid h
  obtain ⟨A, cap, rfl, h1, h2, h3⟩ := row_open hr
  have c0 : w.cell? ⟨b, 0, none⟩ = some (.slice A l.length cap) := cell_at hO
  have HO := Lib.hid hO
  have HS0 : Hid (∀ j, (∃ q ∈ l, j = q.1) → j ≠ b ∧ j < w.heap.size) := fun j ⟨q, hq, e⟩ => by
    subst e
    exact ⟨block_ne (h.el q hq) hO (by decide), h.lt q hq⟩
  have hm : l.length ≤ 9223372036854775807 := by omega
  obtain ⟨d, hd⟩ : ∃ d, d = im l := ⟨_, rfl⟩
  have HDE := Lib.hid hd
  have HDL : Hid (d.length = l.length) := by unfold Hid; rw [hd]; simp
  unfold ptr ResetP
  rw [← hd]
  clear h hO hr h1 h2 h3 hd
  go_enter Try.func59, Try.ntmps59
  go_wp2_with fail
  clear c0
  go_loopw [9] (fun i wr => ∃ (k : Nat) (l' : List (Nat × Im)), k ≤ l.length ∧ i = .int .i64 k ∧ DAt wr b l' ∧ im l' = resetN k d ∧ l'.map (·.1) = l.map (·.1) ∧ Frm (fun j => ∃ q ∈ l, j = q.1) w wr) (fun i _ => l.length - (intOf i).toNat)
  case atStart => exact ⟨0, l, Nat.zero_le _, rfl, HD.out, by rw [← HDE.out]; simp [resetN], rfl, Frm.refl _ _⟩
  case round =>
    obtain ⟨k, l', hk, rfl, hDr, hil, hfst, hF⟩ := hrel
    have hll : l'.length = l.length := by have := congrArg List.length hfst; simpa using this
    by_cases hlt : k < l.length
    · have HKL : Hid (k + 1 ≤ l.length) := hlt
      have hk' : k < l'.length := by rw [hll]; exact hlt
      have hkd : k < d.length := by rw [HDL.out]; exact hlt
      obtain ⟨v', hO', hr'⟩ := hDr.row
      have hO2 := hF.heap HO.out (fun h => (HS0.out b h).1 rfl)
      rw [hO2] at hO'
      simp only [Option.some.injEq, Obj.cells.injEq, Array.mk.injEq, List.cons.injEq, and_true] at hO'
      subst hO'
      obtain ⟨A', cap', eA, _, _, q3⟩ := row_open hr'
      simp only [Value.slice.injEq] at eA
      obtain ⟨rfl, -, rfl⟩ := eA
      obtain ⟨g, rfl, _, ⟨cur, hcu⟩, _, hcc⟩ := q3 (by omega)
      have cg : wr.cell? ⟨g, k, none⟩ = some (ptr l'[k].1) := by rw [hcc k (by omega)]; simp [hk']
      have hgl := lt_of_block hcu
      have hi := hDr.el _ (List.getElem_mem hk')
      have hx : l'[k].2 = d[k] := by
        have h9 := resetN_at hkd
        rw [← hil] at h9
        simpa [hk'] using h9
      have HSUC := Lib.hid (resetN_succ hkd)
      have HUPD := Lib.hid (fun W x' hF hp => hDr.upd hk' x' (w' := W) hF hp)
      have HIS : Hid (∀ x', im (l'.set k (l'[k].1, x')) = (im l').set k x' ∧ (l'.set k (l'[k].1, x')).map (·.1) = l'.map (·.1)) := fun x' => by
        refine ⟨by simp [List.map_set], ?_⟩
        rw [List.map_set]
        have h9 : (l'.map (·.1))[k]'(by simpa using hk') = l'[k].1 := by simp
        conv => lhs; rw [← h9]
        exact List.set_getElem_self _
      have HMEM : Hid (∃ q ∈ l, l'[k].1 = q.1) := by
        have : l'[k].1 ∈ l.map (·.1) := by rw [← hfst]; exact List.mem_map_of_mem (List.getElem_mem hk')
        obtain ⟨q', hq', e'⟩ := List.mem_map.1 this
        exact ⟨q', hq', e'.symm⟩
      rw [hx] at hi
      generalize l'[k].1 = p at *
      generalize d[k] = x at *
      have i11 : wr.cell? ⟨p, 11, none⟩ = some (.int .i64 x.1.df.ty) := cell_at hi
      have i12 : wr.cell? ⟨p, 12, none⟩ = some (.int .u64 x.1.df.n) := cell_at hi
      have i13 : wr.cell? ⟨p, 13, none⟩ = some (.string (strB2 x.1.df.b)) := cell_at hi
      have i14 : wr.cell? ⟨p, 14, none⟩ = some (.int .i64 x.2.ty) := cell_at hi
      have i15 : wr.cell? ⟨p, 15, none⟩ = some (.int .u64 x.2.n) := cell_at hi
      have i16 : wr.cell? ⟨p, 16, none⟩ = some (.string (strB2 x.2.b)) := cell_at hi
      have hfz := frees hi
      have hpl := lt_of_block hi
      have HI := Lib.hid hi
      have HF := Lib.hid hF
      have HIL := Lib.hid hil
      have HFST := Lib.hid hfst
      unfold ptr at cg
      clear hi hF hil hfst hDr hO2 hr' q3 hcc hcu hx hk' hll
      go_wp2_with fail
      go_roundw
      case rel =>
        refine ⟨k + 1, _, HKL.out, by go_num, HUPD.out _ (x.1, x.1.df) ?_ (store17 x.1.df HI.out), ?_, ?_, ?_⟩
        · exact (((Frm.refl _ _).set1 _).set1 _).set1 _
        · rw [(HIS.out _).1, HIL.out]; exact HSUC.out
        · rw [(HIS.out _).2]; exact HFST.out
        · exact HF.out.trans (T := One p) ((((Frm.refl _ _).set1 _).set1 _).set1 _) (fun i hi e => by cases e; exact HMEM.out)
      case measure => have := HKL.out; simp [intOf]; omega
    · have hkn : k = l.length := by omega
      subst hkn
      rw [← HDL.out, resetN_all] at hil
      have HDR := Lib.hid hDr
      have HF := Lib.hid hF
      have HIL := Lib.hid hil
      have HFST := Lib.hid hfst
      clear hDr hF hil hfst hll
      go_wp2_with fail
      refine bodyPost_end (v := .tuple #[]) (by simp [results, Try.results59, go_sem]) rfl ⟨rfl, l', HDR.out, HIL.out, HFST.out, ?_⟩
      first | exact HF.out | exact HF.out.mono (fun _ _ ⟨q, hq, e⟩ => ⟨q.2.1, q.2.2, by subst e; exact hq⟩)
end Go.Proofs.Ytemjdmgfilbfaaa
namespace Go.Proofs.Ytemjdmgfilbfaaa
set_option linter.unusedVariables false

/-- The dictionary as it was, or with another value of one entry. -/
def Upd (d d' : List Im) (i s : Int) : Prop := d' = d ∨ ∃ (k : Nat) (hk : k < d.length) (v : Va), v.ok ∧ findD d i s = some k ∧ d' = d.set k (d[k].1, v)
theorem upd_write {d : List Im} (i s : Int) (b : List UInt8) : Upd d (writeD d i s b) i s := by
  unfold writeD
  cases hf : findD d i s with
  | none => exact .inl rfl
  | some k =>
    have hk : k < d.length := by
      unfold findD at hf
      obtain ⟨h, _⟩ := List.findIdx?_eq_some_iff_getElem.1 hf
      exact h
    simp only [List.getElem?_eq_getElem hk]
    split
    · refine .inr ⟨k, hk, _, ?_, hf, rfl⟩
      unfold takeE
      split
      · exact ⟨by simp [Va.zero], by simp [Va.zero, two64], by simp [Va.zero]⟩
      · split
        · exact decV_ok _ _
        · split
          · exact decV_ok _ _
          · split
            · exact decV_ok _ _
            · split <;> exact decV_ok _ _
    · exact .inl rfl
theorem upd_set {d : List Im} (i s : Int) (v : Va) (hv : v.ok) : Upd d (setD d i s v).1 i s := by
  unfold setD
  cases hf : findD d i s with
  | none => exact .inl rfl
  | some k =>
    have hk : k < d.length := by
      unfold findD at hf
      obtain ⟨h, _⟩ := List.findIdx?_eq_some_iff_getElem.1 hf
      exact h
    simp only [List.getElem?_eq_getElem hk]
    split
    · exact .inl rfl
    · exact .inr ⟨k, hk, _, plainV_ok hv, hf, rfl⟩
theorem find_fst (d : List Im) (i s : Int) : findD d i s = (d.map (·.1)).findIdx? (fun x => x.idx == i && x.sub == s) := by
  unfold findD
  rw [List.findIdx?_map]
  rfl
theorem set_fst (d : List Im) (k : Nat) (hk : k < d.length) (v : Va) : (d.set k (d[k].1, v)).map (·.1) = d.map (·.1) := by
  rw [List.map_set]
  have : (d.map (·.1))[k]'(by simpa using hk) = d[k].1 := by simp
  conv => lhs; rw [← this]
  exact List.set_getElem_self _
theorem upd_ok {d d' : List Im} {i s : Int} (h : Upd d d' i s) (hd : DOk d) : DOk d' := by
  rcases h with rfl | ⟨k, hk, v, hv, _, rfl⟩
  · exact hd
  · exact hd.upd hk v hv
theorem apart_facts {xs : List En} {d d' : List Im} {i s : Int} (h : LInv xs d) (hx : ∀ x ∈ xs, x.ok) (hU : Upd d d' i s) {x : En} (hm : x ∈ xs) :
    ∃ v v' : Va, getD2 d x.idx x.sub = (v, 0) ∧ getD2 d' x.idx x.sub = (v', 0) ∧ (v' = v ∨ (x.idx = i ∧ x.sub = s)) := by
  obtain ⟨v, hv, _⟩ := get_there h hx hm
  rcases hU with rfl | ⟨k, hk, u, _, hf, rfl⟩
  · exact ⟨v, v, hv, hv, .inl rfl⟩
  · have hfe : findD (d.set k (d[k].1, u)) x.idx x.sub = findD d x.idx x.sub := by rw [find_fst, find_fst, set_fst d k hk u]
    cases hfx : findD d x.idx x.sub with
    | none =>
      unfold getD2 at hv
      rw [hfx] at hv
      simp at hv
    | some j =>
      have hj : j < d.length := by
        unfold findD at hfx
        obtain ⟨h, _⟩ := List.findIdx?_eq_some_iff_getElem.1 hfx
        exact h
      have e1 : getD2 d x.idx x.sub = (d[j].2, 0) := by unfold getD2; rw [hfx]; simp [hj]
      have e2 : getD2 (d.set k (d[k].1, u)) x.idx x.sub = (((d.set k (d[k].1, u))[j]'(by simpa using hj)).2, 0) := by unfold getD2; rw [hfe, hfx]; simp [hj]
      rw [e1] at hv
      refine ⟨d[j].2, _, e1, e2, ?_⟩
      by_cases hkj : k = j
      · subst hkj
        refine .inr ?_
        unfold findD at hf hfx
        obtain ⟨_, p1, _⟩ := List.findIdx?_eq_some_iff_getElem.1 hf
        obtain ⟨_, p2, _⟩ := List.findIdx?_eq_some_iff_getElem.1 hfx
        unfold isAt at p1 p2
        simp at p1 p2
        omega
      · refine .inl ?_
        rw [List.getElem_set_ne hkj]
end Go.Proofs.Ytemjdmgfilbfaaa
namespace Go.Proofs.Ytemjdmgfilbfaaa
set_option linter.unusedVariables false
set_option linter.unusedSimpArgs false

theorem plainV_ty (v : Va) : (plainV v).ty = v.ty := by
  unfold plainV
  split
  · rfl
  · split <;> rfl
theorem takeR_plain (x : En) (b : List UInt8) : takeR (plainE x) b = takeR x b := by
  unfold takeR
  have e : (plainE x).df.ty = x.df.ty := plainV_ty _
  rw [e]
  rfl
theorem takeE_plain (x : En) (b : List UInt8) : takeE (plainE x) b = takeE x b := by
  unfold takeE
  have e : (plainE x).df.ty = x.df.ty := plainV_ty _
  rw [e]
  rfl
/-- The entries of a dictionary that New has made. -/
def PlD (d : List Im) : Prop := ∀ x ∈ d, ∃ y : En, entryE y = 0 ∧ x.1 = plainE y
theorem PlD.new {xs : List En} (h : checkE xs = 0) : PlD (newD xs) := by
  intro x hx
  have := (newD_perm xs).mem_iff.1 hx
  obtain ⟨y, hy, rfl⟩ := List.mem_map.1 this
  exact ⟨y, (check_facts h).2.1 y hy, rfl⟩
theorem PlD.of_fst {d d' : List Im} (h : PlD d) (e : d'.map (·.1) = d.map (·.1)) : PlD d' := by
  intro x hx
  have : x.1 ∈ d.map (·.1) := by rw [← e]; exact List.mem_map_of_mem hx
  obtain ⟨z, hz, hzx⟩ := List.mem_map.1 this
  obtain ⟨y, hy, e2⟩ := h z hz
  exact ⟨y, hy, by rw [← hzx]; exact e2⟩
theorem take_same {d : List Im} (h : PlD d) {x : Im} (hx : x ∈ d) (b : List UInt8) : takeR x.1 b = (takeE x.1 b).1 := by
  obtain ⟨y, hy, e⟩ := h x hx
  rw [e, takeR_plain, takeE_plain]
  exact takeR_eq hy b
theorem takeE_val {x : En} {b : List UInt8} (h : (takeE x b).1 = 0) : (takeE x b).2 = (decV x.df.ty b).1 := by
  unfold takeE at h ⊢
  by_cases h1 : x.acc ≠ 1 ∧ x.acc ≠ 2
  · rw [if_pos h1] at h; exact absurd h (by decide)
  · rw [if_neg h1] at h ⊢
    by_cases h2 : (decV x.df.ty b).2 = 3
    · rw [if_pos h2]
    · rw [if_neg h2]
      by_cases h3 : (decV x.df.ty b).2 = 2
      · rw [if_pos h3]
      · rw [if_neg h3]
        by_cases h4 : (decV x.df.ty b).2 ≠ 0
        · rw [if_pos h4]
        · rw [if_neg h4]
          by_cases h5 : x.lim = true
          · rw [if_pos h5]
          · rw [if_neg h5]
theorem mayR_eq {d : List Im} (h : PlD d) (i s : Int) (b : List UInt8) : mayR d i s b = mayD d i s b := by
  unfold mayR mayD
  cases hf : findD d i s with
  | none => rfl
  | some k =>
    cases hk : d[k]? with
    | none => simp only [hk]
    | some x =>
      simp only [hk]
      exact take_same h (List.mem_of_getElem? hk) b
theorem writeR_eq {d : List Im} (h : PlD d) (i s : Int) (b : List UInt8) : writeR d i s b = writeD d i s b := by
  unfold writeR writeD
  cases hf : findD d i s with
  | none => rfl
  | some k =>
    cases hk : d[k]? with
    | none => simp only [hk]
    | some x =>
      simp only [hk]
      have e := take_same h (List.mem_of_getElem? hk) b
      rw [e]
      by_cases h0 : (takeE x.1 b).1 = 0
      · rw [if_pos h0, if_pos h0, takeE_val h0]
      · rw [if_neg h0, if_neg h0]
theorem upd_entries {d d' : List Im} {i s : Int} (h : Upd d d' i s) : d'.map (·.1) = d.map (·.1) := by
  rcases h with rfl | ⟨k, hk, v, _, _, rfl⟩
  · rfl
  · exact set_fst d k hk v
theorem reset_fst (d : List Im) : (resetD d).map (·.1) = d.map (·.1) := by
  unfold resetD
  rw [List.map_map]
  rfl
theorem putAll_fst (d : List Im) (ps : List (Nat × Va)) : (putAll d ps).map (·.1) = d.map (·.1) := by
  unfold putAll
  induction ps generalizing d with
  | nil => rfl
  | cons p r ih =>
    rw [List.foldl_cons, ih]
    unfold putD
    cases hk : d[p.1]? with
    | none => rfl
    | some y =>
      obtain ⟨hl, rfl⟩ := List.getElem?_eq_some_iff.1 hk
      exact set_fst d p.1 hl p.2
theorem load_fst (d : List Im) (b : List UInt8) : (loadD d b).1.map (·.1) = d.map (·.1) := by
  unfold loadD
  split
  · rfl
  · split
    · rfl
    · exact putAll_fst _ _
theorem got_ok (d : List Im) (l : List It) : ∀ p ∈ (gotD d l).2, p.2.ok := by
  induction l with
  | nil => intro p hp; cases hp
  | cons x r ih =>
    intro p hp
    cases hf : findD d x.1 x.2.1 with
    | none => rw [gotD_none hf] at hp; cases hp
    | some k =>
      cases hk : d[k]? with
      | none => rw [gotD_out hf hk] at hp; cases hp
      | some y =>
        by_cases h1 : y.1.acc = 2
        · by_cases h2 : (decV y.1.df.ty x.2.2).2 = 0
          · rw [gotD_next hf hk h1 h2] at hp
            rcases List.mem_cons.1 hp with rfl | hp
            · exact decV_ok _ _
            · exact ih p hp
          · rw [gotD_dec hf hk h1 h2] at hp; cases hp
        · rw [gotD_acc hf hk h1] at hp; cases hp
theorem putAll_ok {d : List Im} (h : DOk d) (ps : List (Nat × Va)) (hp : ∀ p ∈ ps, p.2.ok) : DOk (putAll d ps) := by
  unfold putAll
  induction ps generalizing d with
  | nil => exact h
  | cons p r ih =>
    rw [List.foldl_cons]
    refine ih ?_ (fun q hq => hp q (List.mem_cons_of_mem _ hq))
    unfold putD
    cases hk : d[p.1]? with
    | none => exact h
    | some y =>
      obtain ⟨hl, rfl⟩ := List.getElem?_eq_some_iff.1 hk
      exact h.upd hl p.2 (hp p (List.mem_cons_self ..))
theorem load_ok {d : List Im} (h : DOk d) (b : List UInt8) : DOk (loadD d b).1 := by
  unfold loadD
  split
  · exact h
  · split
    · exact h
    · exact putAll_ok h _ (got_ok _ _)
end Go.Proofs.Ytemjdmgfilbfaaa
namespace Go.Proofs.Ytemjdmgfilbfaaa
open Go.RowKit
set_option linter.unusedVariables false

/-- The pair: the program's dictionary below B, the document's from B on. -/
structure Pr (w : World) (a b p B : Nat) (l : List (Nat × Im)) (d : List Im) : Prop where
  hp : w.heap[a]? = some (.cells #[ptr b, ptr p] 52 (0, 0))
  d1 : DAt w b l
  r : DR w p B d
  bB : b < B
  lB : ∀ q ∈ l, q.1 < B
  pB : B ≤ p
/-- What a call may write. -/
def Sx (l : List (Nat × Im)) (p : Nat) : Nat → Prop := fun k => k = p ∨ ∃ q ∈ l, k = q.1
theorem DR.heap {w : World} {p B : Nat} {d : List Im} (h : DR w p B d) : ∃ sL sV, w.heap[p]? = some (.cells #[sL, sV] 108 (0, 0)) := by
  obtain ⟨sL, sV, h1, _⟩ := h.ex
  exact ⟨sL, sV, h1⟩
theorem DR.lt {w : World} {p B : Nat} {d : List Im} (h : DR w p B d) : p < w.heap.size := by
  obtain ⟨sL, sV, h1⟩ := h.heap
  exact lt_of_block h1
theorem Pr.grow {w w' : World} {a b p B : Nat} {l : List (Nat × Im)} {d : List Im} (h : Pr w a b p B l d) (hF : Frm (fun _ => False) w w') : Pr w' a b p B l d :=
  ⟨hF.heap h.hp (fun h => h), h.d1.grow hF, h.r.grow hF, h.bB, h.lB, h.pB⟩
theorem DR.frm {S : Nat → Prop} {w w' : World} {p B : Nat} {d : List Im} (h : DR w p B d) (hp : B ≤ p) (hF : Frm S w w') (hS : ∀ k, S k → k < B) : DR w' p B d := by
  obtain ⟨sL, sV, h1, h2, h3⟩ := h.ex
  refine ⟨sL, sV, hF.heap h1 (fun e => absurd (hS _ e) (by omega)), hF.row h2 (fun k hk e => ?_), hF.row h3 (fun k hk e => ?_)⟩
  · have := (row_block h2 hk).1; have := hS _ e; omega
  · have := (row_block h3 hk).1; have := hS _ e; omega
/-- The program's is written to. -/
theorem Pr.prog {w w' : World} {a b p B : Nat} {l l' : List (Nat × Im)} {d : List Im} (h : Pr w a b p B l d) (hF : Frm (fun j => ∃ q ∈ l, j = q.1) w w') (hd : DAt w' b l') (hf : l'.map (·.1) = l.map (·.1)) : Pr w' a b p B l' d := by
  refine ⟨hF.heap h.hp ?_, hd, h.r.frm h.pB hF ?_, h.bB, fun q hq => ?_, h.pB⟩
  · rintro ⟨q, hq, rfl⟩
    exact block_ne (h.d1.el q hq) h.hp (by decide) rfl
  · rintro k ⟨q, hq, rfl⟩
    exact h.lB q hq
  · have : q.1 ∈ l.map (·.1) := by rw [← hf]; exact List.mem_map_of_mem hq
    obtain ⟨q', hq', e⟩ := List.mem_map.1 this
    rw [← e]
    exact h.lB q' hq'
/-- The document's is written to. -/
theorem Pr.doc {w w' : World} {a b p B : Nat} {l : List (Nat × Im)} {d d' : List Im} (h : Pr w a b p B l d) (hF : Frm (One p) w w') (hd : DR w' p B d') : Pr w' a b p B l d' := by
  obtain ⟨sL, sV, hP⟩ := h.r.heap
  refine ⟨hF.heap h.hp ?_, h.d1.frm hF ?_ (fun q hq => ?_) ?_, hd, h.bB, h.lB, h.pB⟩
  · intro e
    have e : a = p := e
    subst e
    exact block_ne h.hp hP (by decide) rfl
  · intro e
    have e : b = p := e
    have := h.bB; have := h.pB; omega
  · intro e
    have e : q.1 = p := e
    have := h.lB q hq; have := h.pB; omega
  · rintro k cur e hk
    have e : k = p := e
    subst e
    exact block_ne hk hP (by decide) rfl
theorem Sx.p {l : List (Nat × Im)} {p : Nat} {w w' : World} (h : Frm (One p) w w') : Frm (Sx l p) w w' := h.mono (fun _ _ e => .inl e)
theorem Sx.l {l : List (Nat × Im)} {p : Nat} {w w' : World} (h : Frm (fun j => ∃ q ∈ l, j = q.1) w w') : Frm (Sx l p) w w' := h.mono (fun _ _ e => .inr e)
theorem Sx.no {l : List (Nat × Im)} {p : Nat} {w w' : World} (h : Frm (fun _ => False) w w') : Frm (Sx l p) w w' := h.mono (fun _ _ e => e.elim)
theorem Sx.fst {l l' : List (Nat × Im)} {p k : Nat} (hf : l'.map (·.1) = l.map (·.1)) (h : Sx l' p k) : Sx l p k := by
  rcases h with h | ⟨q, hq, e⟩
  · exact .inl h
  · have : q.1 ∈ l.map (·.1) := by rw [← hf]; exact List.mem_map_of_mem hq
    obtain ⟨q', hq', e'⟩ := List.mem_map.1 this
    exact .inr ⟨q', hq', by rw [e, e']⟩
theorem Pr.lt {w : World} {a b p B : Nat} {l : List (Nat × Im)} {d : List Im} (h : Pr w a b p B l d) {k : Nat} (hk : Sx l p k) : k < w.heap.size := by
  rcases hk with rfl | ⟨q, hq, rfl⟩
  · exact h.r.lt
  · exact h.d1.lt q hq
theorem Pr.ge {w : World} {a b p B : Nat} {l : List (Nat × Im)} {d : List Im} (h : Pr w a b p B l d) {k : Nat} (hk : Sx l p k) : b ≤ k := by
  rcases hk with rfl | ⟨q, hq, rfl⟩
  · have := h.bB; have := h.pB; omega
  · exact h.d1.lo q hq
theorem Pr.na {w : World} {a b p B : Nat} {l : List (Nat × Im)} {d : List Im} (h : Pr w a b p B l d) : ¬ Sx l p a := by
  rintro (rfl | ⟨q, hq, rfl⟩)
  · obtain ⟨sL, sV, hP⟩ := h.r.heap
    exact block_ne h.hp hP (by decide) rfl
  · exact block_ne (h.d1.el q hq) h.hp (by decide) rfl
/-- A dictionary as it stands between two calls. -/
structure Fit (d : List Im) : Prop where
  ok : DOk d
  pl : PlD d
theorem Fit.of {d d' : List Im} (h : Fit d) (hok : DOk d') (hf : d'.map (·.1) = d.map (·.1)) : Fit d' := ⟨hok, h.pl.of_fst hf⟩
theorem Fit.len {d : List Im} (h : Fit d) : d.length ≤ 1024 := h.ok.len
/-- What a call comes to. -/
def doD (d : List Im) (k i s : Int) (bs : List UInt8) (v : Va) (n : Int) : List Im :=
  if k = 1 then writeD d i s bs else if k = 3 then (setD d i s v).1 else if k = 4 then resetD d else if k = 5 then (loadD d bs).1
  else if k = 6 then (loadD d ((saveD d).take ((saveD d).length - (n % (((saveD d).length : Int) + 1)).toNat))).1 else d
def DoesP (a b p B : Nat) (l : List (Nat × Im)) (d' : List Im) (w : World) (e : Ending) (w' : World) : Prop :=
  e = .returned (.bool true) ∧ ∃ l', Pr w' a b p B l' d' ∧ im l' = d' ∧ l'.map (·.1) = l.map (·.1) ∧ Frm (Sx l p) w w'
end Go.Proofs.Ytemjdmgfilbfaaa
namespace Go.Proofs.Ytemjdmgfilbfaaa
open Go.RowKit
set_option linter.unusedVariables false

/-- The arguments of a call. -/
structure Arg (w : World) (l : List (Nat × Im)) (p : Nat) (i s : Int) (bv : Value) (bs : List UInt8) (v : Va) (n : Int) : Prop where
  i : 0 ≤ i ∧ i ≤ 65535
  s : 0 ≤ s ∧ s ≤ 255
  len : bs.length ≤ 140737488351232
  v : v.ok
  n : 0 ≤ n ∧ n ≤ 65535
  no : ∀ W', Frm (Sx l p) w W' → BytesAt W' bv bs
theorem does_app {w w5 : World} {A5 : Option Addr} {c5 : Nat} {bs : List UInt8} {cs : Array Value} {t : TypeId} (hown : w5.ownsRow (w.heap.size + 1) 5 1 (.slice A5 (0 + bs.length) c5) (0 + bs.length) ([] ++ bs.map encB))
    (hfr : Frm (fun k => (Value.slice (some ⟨w.heap.size + 1, 0, none⟩) 0 0).ownBlock = some k) ((w.alloc (.cells cs t)).alloc (.cells #[] 5)) w5) :
    Frm (fun _ => False) w w5 ∧ w5.heap[w.heap.size]? = some (.cells cs t (0, 0)) ∧ Fresh8 (w.heap.size + 1) w5 (.slice A5 bs.length c5) bs := by
  rw [Nat.zero_add, List.nil_append] at hown
  refine ⟨Frm.trans (b := _) (by (repeat' (first | (with_reducible exact Frm.refl _ _) | (with_reducible assumption) | (with_reducible refine Frm.alloc ?_ _) | (with_reducible refine Frm.drew ?_) | (with_reducible refine Frm.drewN ?_ _) | (with_reducible refine Frm.set1 ?_ _) | (with_reducible refine Frm.setCell ?_ ?_ _) | (exact fun h => absurd h (Nat.lt_irrefl _)) | (intro hlt; simp [World.size_alloc, One] at hlt ⊢; omega)))) hfr (fun k hk e => by cases e; exact absurd hk (by simp)), hfr.heap (heap_alloc_old (heap_new w _)) (fun e => ?_), BytesAt.of_row hown, fun k hk => (row_block hown hk).1⟩
  have e : some (w.heap.size + 1) = some w.heap.size := e
  simp at e
theorem does_cells {w5 : World} {a b p B T : Nat} {l : List (Nat × Im)} {d : List Im} {c0 c1 c2 c3 c4 c5 c6 c7 : Value} (h : Pr w5 a b p B l d) (hT : w5.heap[T]? = some (.cells #[c0, c1, c2, c3, c4, c5, c6, c7] 38 (0, 0))) :
    ∀ Wx, Frm (Sx l p) w5 Wx → Wx.cell? ⟨a, 0, none⟩ = some (.pointer (some ⟨b, 0, none⟩)) ∧ Wx.cell? ⟨a, 1, none⟩ = some (.pointer (some ⟨p, 0, none⟩)) ∧ Wx.cell? ⟨T, 1, none⟩ = some c1 ∧ Wx.cell? ⟨T, 2, none⟩ = some c2 ∧ Wx.cell? ⟨T, 3, none⟩ = some c3 ∧ Wx.cell? ⟨T, 4, none⟩ = some c4 ∧ Wx.cell? ⟨T, 5, none⟩ = some c5 ∧ Wx.cell? ⟨T, 6, none⟩ = some c6 ∧ Wx.cell? ⟨T, 7, none⟩ = some c7 := by
  intro Wx hF
  have ha := hF.heap h.hp h.na
  have ht := hF.heap hT (by
    rintro (rfl | ⟨q, hq, rfl⟩)
    · obtain ⟨sL, sV, hP⟩ := h.r.heap
      exact block_ne hT hP (by decide) rfl
    · exact block_ne (h.d1.el q hq) hT (by decide) rfl)
  exact ⟨cell_at ha, cell_at ha, cell_at ht, cell_at ht, cell_at ht, cell_at ht, cell_at ht, cell_at ht, cell_at ht⟩
theorem does_args {w5 : World} {a b p B N : Nat} {l : List (Nat × Im)} {d : List Im} {v : Value} {bs : List UInt8} (h : Pr w5 a b p B l d) (hlt : ∀ {k}, Sx l p k → k < N) (hv : Fresh8 (N + 1) w5 v bs) : ∀ Wx, Frm (Sx l p) w5 Wx → BytesAt Wx v bs := by
  intro Wx hF
  refine hv.1.frm hF fun k hk e => ?_
  have := hv.2 k hk
  have := hlt e
  omega
end Go.Proofs.Ytemjdmgfilbfaaa
