/-
  OdActs: the law. From a walk to a law's row: the arguments, opened; the row, closed. The arguments of a law, opened: what lies in memory where the form reads a datum. Slices of structs, opened. Slices of structs that hold slices, opened, with the form's own reach. What the row's arguments read as: strings, values, entries, calls. Plain: what is saved, and loaded into a dictionary of the same entries, gives these the same values.
-/
import Derived.Test.YtemjdmgfilbfaaaRows
import Derived.HandedShaped
import Derived.Deep.CondSized
import Derived.JoinedCond
import Derived.Deep.Slices
import Derived.Test.YtemjdmgfilbfaaaM5cb40e7d
import Derived.Test.YtemjdmgfilbfaaaM646a0aee
import Derived.Test.YtemjdmgfilbfaaaMcc0c86f2
import Derived.Test.YtemjdmgfilbfaaaM1d64679b
set_option linter.unusedVariables false
set_option linter.unusedSimpArgs false
namespace Go.Proofs.Ytemjdmgfilbfaaa
open Go.RowKit
set_option linter.unusedVariables false
set_option linter.unusedSimpArgs false

/-- A call's arguments are as at the beginning, wherever the dictionaries stand. -/
theorem arg_of {W w : World} {a b p B : Nat} {l : List (Nat × Im)} {d : List Im} {act : ActO} (h : Pr w a b p B l d) (hb : W.heap.size ≤ b) (hF : Frm (fun _ => False) W w) (hg : act.good W) : Arg w l p act.idx act.sub act.bv act.bs act.v act.n := by
  obtain ⟨i0, i1, s0, s1, hbs, hbl, hv, n0, n1⟩ := hg
  exact ⟨⟨i0, i1⟩, ⟨s0, s1⟩, hbl, hv, ⟨n0, n1⟩, fun W' h' => hbs.grow (hF.trans h' (fun i hi hs => absurd hi (Nat.not_lt.2 (Nat.le_trans hb (h.ge hs)))))⟩

set_option maxRecDepth 100000 in
set_option maxHeartbeats 4000000 in
theorem acts_any (v0 v1 : Value) (xs : List En) (acs : List ActO) (W : World) (h0 : SlAt cellsE 14 W v0 xs) (hx : ∀ x ∈ xs, x.ok) (hby : xs.length * 120 ≤ 140737488351232) (h1 : SlAt encO 8 W v1 acs) (hg : ∀ a ∈ acs, a.good W) :
    Calls Try.prog 7 #[v0, v1] W fun e w' => e = .returned (.bool true) ∧ Frm (fun _ => False) W w' := by
  have HX := Lib.hid hx
  have HBEG := Lib.hid (begins_any v0 xs W h0 hx hby)
  obtain ⟨A, cap, rfl, hc1, hc2, hA⟩ := h0
  have HLV := Lib.hid (fun W => livesO_any W)
  obtain ⟨A1, cap1, rfl, b1, b2, hA1⟩ := h1
  have HA1 := Lib.hid hA1
  have HG := Lib.hid hg
  unfold BeginP at HBEG
  have ha63 : acs.length ≤ 9223372036854775807 := Nat.le_trans b1 b2
  clear hby hg hA hA1 hc1 hc2 b1 b2 hx
  by_cases hz : checkE xs = 0
  case neg =>
    have HZ := Lib.hid hz
    clear hz
    go_enter Try.func7, Try.ntmps7
    go_wp2_with (first | (go_at_call 19; refine HBEG.out.mono ?_; rintro e w2 ⟨hF2, ⟨hne, rfl⟩ | h⟩; rotate_left; exact absurd h.1 HZ.out; have HF2 := Lib.hid hF2) | (go_at_call 14; refine (HLV.out _).mono ?_; rintro e w4 ⟨rfl, hF4⟩))
    go_ret
    exact ⟨rfl, HF2.out.trans' hF4⟩
  case pos =>
    have HFN := Lib.hid (Fit.new hz HX.out)
    have HZ := Lib.hid hz
    clear hz
    go_enter Try.func7, Try.ntmps7
    go_upto_region 6 with (go_at_call 19; refine HBEG.out.mono ?_; rintro e w2 ⟨hF2, h | ⟨-, a, b, p, l, N, rfl, hPa, hD, hl, hDR, hb0, hbN, hlN, hpN, haN⟩⟩; exact absurd HZ.out h.1; have HF2 := Lib.hid hF2; have HL := Lib.hid hl; have HB0 := Lib.hid hb0; have HPR0 : Hid (Pr w2 a b p N l (newD xs)) := ⟨hPa, hD, hDR, hbN, hlN, hpN⟩; unfold ptr)
    have HNB : Hid (N ≤ w2.heap.size) := Nat.le_trans HPR0.out.pB (Nat.le_of_lt HPR0.out.r.lt)
    clear hF2 hPa hD hl hb0 hbN hlN hDR hpN haN HBEG
    go_wp2_with fail
    go_loopw [7] (fun i wr => ∃ (k : Nat) (l1 : List (Nat × Im)) (d : List Im), k ≤ acs.length ∧ i = .int .i64 k ∧ Pr wr a b p N l1 d ∧ im l1 = d ∧ Fit d ∧ Frm (fun _ => False) W wr ∧ N ≤ wr.heap.size) (fun i _ => acs.length - (intOf i).toNat)
    case atStart => exact ⟨0, l, newD xs, Nat.zero_le _, rfl, HPR0.out, HL.out, HFN.out, HF2.out, HNB.out⟩
    case round =>
      obtain ⟨k, l1, d, hk, rfl, hP, hI, hfit, hF, hN⟩ := hrel
      have HP := Lib.hid hP
      have HI := Lib.hid hI
      have HFIT := Lib.hid hfit
      have HFR := Lib.hid hF
      have HN := Lib.hid hN
      by_cases hlt : k < acs.length
      · obtain ⟨g, off, rfl, hgl, hcell⟩ := HA1.out (by omega)
        have HKL : Hid (k + 1 ≤ acs.length) := hlt
        have hga := HG.out _ (List.getElem_mem hlt)
        have q := fun j hj => hF.cell ((hcell k hlt j hj).trans (List.getElem?_eq_getElem (by rw [encO_len]; exact hj))) (fun h => h)
        generalize acs[k] = act at *
        have q0 := q 0 (by decide)
        have q1 := q 1 (by decide)
        have q2 := q 2 (by decide)
        have q3 := q 3 (by decide)
        have q4 := q 4 (by decide)
        have q5 := q 5 (by decide)
        have q6 := q 6 (by decide)
        have q7 := q 7 (by decide)
        simp only [encO, List.getElem_cons_succ, List.getElem_cons_zero, Nat.add_zero] at q0 q1 q2 q3 q4 q5 q6 q7
        have hgl2 := Nat.lt_of_lt_of_le hgl hF.size
        have hgv := hga.2.2.2.2.2.2.1
        have HDO := Lib.hid (does_any act.kind a b p N l1 d act.idx act.sub act.bv act.bs act.v act.n wr hP hI hfit hN (arg_of hP HB0.out hF hga))
        have HFD := Lib.hid (hfit.does act.kind act.idx act.sub act.bs act.v act.n hgv)
        have hsx : ∀ w2, Frm (Sx l1 p) wr w2 → Frm (fun _ => False) W w2 := fun w2 h => hF.trans h (fun i hi hs => absurd hi (Nat.not_lt.2 (Nat.le_trans HB0.out (hP.ge hs))))
        have HSX := Lib.hid hsx
        generalize doD d act.kind act.idx act.sub act.bs act.v act.n = d2 at *
        obtain ⟨A3, c3, e3, _, _, _⟩ := hga.2.2.2.2.1.open_
        rw [e3] at q3 HDO
        have HTE := Lib.hid (fun l2 W (h : Pr W a b p N l2 d2) (hi : im l2 = d2) => tells_any a b p N l2 d2 W h hi HFD.out)
        unfold DoesP at HDO
        unfold ptr at HDO HTE
        clear hP hI hfit hF hN hga hgv hcell q e3 hsx
        go_wp2_with (first | (go_at_call 23; refine HDO.out.mono ?_; rintro e w5 ⟨rfl, l5, hP5, hi5, hf5, hF5⟩; clear q0 q1 q2 q3 q4 q5 q6 q7; have HP5 := Lib.hid hP5; have HI5 := Lib.hid hi5; have HF5 := Lib.hid (HSX.out _ hF5); have HS5 := Lib.hid hF5.size; clear hP5 hi5 hf5 hF5) | (go_at_call 25; refine (HTE.out _ _ HP5.out HI5.out).mono ?_; rintro e w6 ⟨rfl, hF6⟩; have HP6 := Lib.hid (HP5.out.grow hF6); have HF6 := Lib.hid (HF5.out.trans' hF6); have HN6 : Hid (N ≤ w6.heap.size) := Nat.le_trans HN.out (Nat.le_trans HS5.out hF6.size); clear hF6))
        go_roundw
        case rel => exact ⟨k + 1, l5, d2, HKL.out, by go_num, HP6.out, HI5.out, HFD.out, HF6.out, HN6.out⟩
        case measure => have := HKL.out; simp [intOf]; omega
      · have HTE := Lib.hid (tells_any a b p N l1 d wr hP hI hfit)
        unfold ptr at HTE
        clear hP hI hfit hF hN
        go_wp2_with (first | (go_at_call 25; refine HTE.out.mono ?_; rintro e w6 ⟨rfl, hF6⟩; have HF6 := Lib.hid (HFR.out.trans' hF6); clear hF6) | (go_at_call 14; refine (HLV.out _).mono ?_; rintro e w9 ⟨rfl, hF9⟩))
        go_ret
        exact ⟨rfl, HF6.out.trans' hF9⟩
end Go.Proofs.Ytemjdmgfilbfaaa
namespace Go.Proofs.Ytemjdmgfilbfaaa
open Go.ChangeShapes Go.WideShapes Go.ChangeAt Go.RowKit
set_option linter.unusedVariables false

theorem own : ownKnob Try.prog.godebug = none := by kernel_rfl
theorem laid : laidOutB Try.prog = true := by kernel_rfl

/-- What a law's walk shows: it returns true, and below the heap's size nothing has turned. -/
def LawPost (w : World) (e : Ending) (w' : World) : Prop := e = .returned (.bool true) ∧ Below w.heap.size w w'

section
variable {H : Type} {enc : TypeId × Value → H}

theorem trodAll_below {W W' : World} (hb : Below W.heap.size W W') (sp : Nat → Bool) : ∀ {ts : List TypeId} {vs : List Value} {ds : List (DataW H)} {ps : List MemPlace},
    (∀ t ∈ ts, Try.prog.readableRec t = true ∧ t < Try.prog.types.size) → DataW.TrodAll enc Try.prog W 0 (fun _ => true) true ts vs ds ps → (∀ x ∈ ps, x.block < W.heap.size) → (∀ x ∈ ps, sp x.block = true) → DataW.TrodAll enc Try.prog W' 0 sp true ts vs ds ps := by
  intro ts
  induction ts with
  | nil =>
    intro vs ds ps _ h _ _
    cases vs <;> cases ds <;> simp [DataW.TrodAll] at h ⊢
    exact h
  | cons t ts ih =>
    intro vs ds ps ht h hlt hsp
    cases vs <;> cases ds <;> simp [DataW.TrodAll] at h ⊢
    obtain ⟨p, hp, q, hq, rfl⟩ := h
    have h1 := ht t (by simp)
    refine ⟨p, WideElems.Trod_stays laid h1.1 h1.2 hp (fun x hx => hb.same (hlt x (by simp [hx]))) (fun x hx => hsp x (by simp [hx])), q, ih (fun t' ht' => ht t' (by simp [ht'])) hq (fun x hx => hlt x (by simp [hx])) (fun x hx => hsp x (by simp [hx])), rfl⟩

set_option maxRecDepth 100000 in
theorem law_post {fn : Func} {s : ChangeSpec} {W W' : World} {args : Array Value} {ds gs : List (DataW H)} {before : List MemPlace} {tb : TypeId}
    (hW : DataW.Whole enc Try.prog fn.params.toList s.vars false W args.toList ds gs before) (hp : ∀ t ∈ fn.params.toList, Try.prog.readableRec t = true ∧ t < Try.prog.types.size)
    (hr : fn.resultTypes = #[tb]) (htb : Try.prog.underlying tb = some .bool) (hs0 : s.vars = [])
    (hs1 : (s.fn H (ds ++ gs)).results = [.lit (.bool true)]) (hs2 : (s.fn H (ds ++ gs)).args = ds) (hs3 : (s.fn H (ds ++ gs)).vars = []) (hb : Below W.heap.size W W') :
    s.post enc Try.prog fn false true false false W args (.bool true) W' := by
  have hlt : ∀ p ∈ before, p.block < W.heap.size := fun p hp => hW.lt p hp
  have hW' := hW
  obtain ⟨p, q, hA, hV, rfl, hz, hn⟩ := hW
  rw [hs0] at hV
  obtain ⟨rfl, rfl⟩ := trodVars_none hV
  have hargs : ∀ sp : Nat → Bool, (∀ x ∈ p ++ [], sp x.block = true) → DataW.TrodAll enc Try.prog W' 0 sp true fn.params.toList args.toList (s.fn H (ds ++ [])).args p := fun sp hsp => by
    rw [hs2]; exact trodAll_below hb sp hp hA (fun x hx => hlt x (by simpa using hx)) (fun x hx => hsp x (by simpa using hx))
  have hres : ∀ (b : Nat) (sp : Nat → Bool) (hd : Bool), DataW.TrodAll enc Try.prog W' b sp hd fn.resultTypes.toList ((Value.bool true).resultList fn.resultTypes.size) (s.fn H (ds ++ [])).results [] := fun b sp hd => by
    rw [hs1, hr]; exact trodAll_mk1 (shut_bool htb _)
  have hvars : ∀ sp : Nat → Bool, DataW.TrodVars enc Try.prog W' sp s.vars (s.fn H (ds ++ [])).vars [] := fun sp => by rw [hs0, hs3]; rfl
  have hold : ∀ x ∈ p ++ [], (fun b => decide (b < W.heap.size)) x.block = true := fun x hx => by simpa using hlt x hx
  refine ⟨ds, [], p ++ [], [], p, [], hW', hres _ _ _, hargs _ hold, hvars _, World.keptBut_mono (fun x hx => ⟨hx, ?_⟩) (hb.frame (· ∈ p ++ [])), fun _ => ?_⟩
  · exact Or.inr (List.mem_append.1 hx)
  · refine ⟨ok_one hr rfl (okWide_bool_mk htb _), _, _, ([] ++ p) ++ [], ⟨[] ++ p, [], trodAll_append (hargs _ (fun _ _ => rfl)) (hres _ _ _), hvars _, rfl, ?_, ?_⟩, ?_⟩
    · intro b off hx
      have hin : MemPlace.cell b off ∈ p ++ [] := by simpa using hx
      rw [hb.frozen (hlt _ hin)]
      exact hz b off hin
    · intro ha; cases ha
    · intro x hx _
      simpa using hx

set_option maxRecDepth 100000 in
/-- A walk, for every argument that reads as data, is the row's step. -/
theorem law_lift {f : FuncId} {fn : Func} {s : ChangeSpec} {conds : List PathCond} (os : Os) (started : os.Started) (noInit : Try.prog.inits.idxOf? f = none) (hfn : Try.prog.funcs[f]? = some fn) {tb : TypeId}
    (hp : ∀ t ∈ fn.params.toList, Try.prog.readableRec t = true ∧ t < Try.prog.types.size) (hr : fn.resultTypes = #[tb]) (htb : Try.prog.underlying tb = some .bool) (hs0 : s.vars = [])
    (hs : ∀ ds : List (DataW H), ds.length = fn.params.toList.length → (s.fn H ds).results = [.lit (.bool true)] ∧ (s.fn H ds).args = ds ∧ (s.fn H ds).vars = [])
    (witness : ∃ (w : World) (tape : Tape) (i : Input), w.os = os ∧ (w.forCall tape i).Shaped Try.prog ∧ i.vars = [] ∧ Input.okWide Try.prog (w.forCall tape i) .any w.heap.size f i ∧
      s.pre6 enc Try.prog fn conds false (w.forCall tape i).memory i.args ∧ ({} : Assume).holds Try.prog (lone (Frame.enter Try.prog f i.args .normal) [] (w.forCall tape i)))
    (walk : ∀ (W : World) (base : Nat) (vs : List Value) (ds : List (DataW H)) (ps : List MemPlace), (∀ (j : Nat) t v, fn.params[j]? = some t → vs[j]? = some v → Value.okWide Try.prog W .any base t v) → DataW.TrodAll enc Try.prog W 0 (fun _ => true) true fn.params.toList vs ds ps → (∀ x ∈ ps, x.block < W.heap.size) →
      (DataW.weightsEach Try.prog fn.params.toList ds).all (· ≤ reachBytes) = true → Calls Try.prog f vs.toArray W (LawPost W)) :
    ReturnsInHanded {} Try.checked os f .any (s.pre6 enc Try.prog fn conds false) (s.post enc Try.prog fn false true false false) := by
  refine returnsInHanded_of_change_shaped (C := Try.checked) own started noInit hfn witness ?_
  intro W base args ds gs before hval hW hcnd hwt hsh hh
  have hlt : ∀ p ∈ before, p.block < W.heap.size := fun p hp => DataW.Whole.lt hW p hp
  have hW' := hW
  obtain ⟨p, q, hA, hV, rfl, hz, hn⟩ := hW
  rw [hs0] at hV
  obtain ⟨rfl, rfl⟩ := trodVars_none hV
  have hlen : ∀ {ts : List TypeId} {vs : List Value} {ds : List (DataW H)} {ps : List MemPlace}, DataW.TrodAll enc Try.prog W 0 (fun _ => true) true ts vs ds ps → ds.length = ts.length := by
    intro ts
    induction ts with
    | nil => intro vs ds ps h; cases vs <;> cases ds <;> simp [DataW.TrodAll] at h ⊢
    | cons t ts ih =>
      intro vs ds ps h
      cases vs <;> cases ds <;> simp [DataW.TrodAll] at h ⊢
      obtain ⟨_, _, _, hq, _⟩ := h
      exact ih hq
  have hl := hlen hA
  have hvt : DataSpec.varTypes Try.checked.prog s.plain = [] := by
    have : s.plain.vars = [] := hs0
    simp [DataSpec.varTypes, this]
  refine (walk W base args.toList ds p (fun j t v h1 h2 => hval j t v h1 (by simpa using h2)) hA (fun x hx => hlt x (by simpa using hx)) (by rw [hvt, List.append_nil, List.append_nil] at hwt; exact hwt)).mono ?_
  rintro e W' ⟨rfl, hb⟩
  obtain ⟨s1, s2, s3⟩ := hs (ds ++ []) (by simpa using hl)
  exact ⟨_, rfl, law_post hW' hp hr htb hs0 s1 (by simpa using s2) s3 hb⟩
end
end Go.Proofs.Ytemjdmgfilbfaaa
namespace Go.Proofs.Ytemjdmgfilbfaaa
open Go.ChangeShapes Go.WideShapes Go.ChangeAt Go.RowKit Go.Deep
set_option linter.unusedVariables false

section
variable {H : Type} {enc : TypeId × Value → H}

/-- The cells cs read as the datum d of type t. -/
def Rd (enc : TypeId × Value → H) (W : World) (t : TypeId) (cs : List Value) (d : DataW H) : Prop := ∃ fuel ps, DataW.trod enc Try.prog W 0 (fun _ => true) true fuel t cs = some (d, ps)

theorem rd_int {W : World} {t : TypeId} {k : IntKind} {cs : List Value} {d : DataW H} (ht : Try.prog.underlying t = some (.int k)) (h : Rd enc W t cs d) : ∃ n, cs = [.int k n] ∧ (Lit.int k n).wf = true := by
  obtain ⟨fuel, ps, h⟩ := h
  obtain ⟨n, h1, _, h3⟩ := DataW.trod_int ht h
  exact ⟨n, h1, h3⟩

theorem rd_bool {W : World} {t : TypeId} {cs : List Value} {d : DataW H} (ht : Try.prog.underlying t = some .bool) (h : Rd enc W t cs d) : ∃ b, cs = [.bool b] := by
  obtain ⟨fuel, ps, h⟩ := h
  obtain ⟨n, h1, _⟩ := DataW.trod_bool ht h
  exact ⟨n, h1⟩

theorem rd_slice {W : World} {t e : TypeId} {sz : Nat} {cs : List Value} {d : DataW H} (ht : Try.prog.underlying t = some (.slice e)) (hz : Try.prog.cellsOf e = sz) (hz0 : 0 < sz) (h : Rd enc W t cs d) :
    ∃ (A : Option Addr) (n cap : Nat) (D : Nat → DataW H), cs = [.slice A n cap] ∧ n ≤ cap ∧ cap ≤ maxLen ∧ ((n = 0 ∧ cap = 0 ∧ d = .nil) ∨ ∃ sp, d = .slice ((List.range n).map D) sp ∧ sp.length = cap - n) ∧
      (0 < n → ∃ g off, A = some ⟨g, off, none⟩ ∧ g < W.heap.size ∧ ∀ i, i < n → ∃ cs', cs'.length = sz ∧ (∀ j, j < sz → W.cell? ⟨g, off + i * sz + j, none⟩ = cs'[j]?) ∧ Rd enc W e cs' (D i)) := by
  obtain ⟨fuel, ps, h⟩ := h
  rcases open_slice ht h with ⟨rfl, hx⟩ | ⟨a, len, cap, m, n, D, Pl, rfl, hb, hl, hm, hmm, hx, hel⟩
  · simp only [Prod.mk.injEq] at hx
    exact ⟨none, 0, 0, fun _ => .nil, rfl, Nat.le_refl _, Nat.zero_le _, .inl ⟨rfl, rfl, hx.1⟩, fun h => absurd h (by omega)⟩
  · simp only [if_true] at hmm
    subst hmm
    simp only [Prod.mk.injEq] at hx
    refine ⟨some a, len, m, D, rfl, hl, hm, .inr ⟨_, hx.1, by simp⟩, fun h0 => ?_⟩
    have hcell : ∀ i, i < len → ∃ cs', cs'.length = sz ∧ (∀ j, j < sz → W.cell? (a.add (i * sz + j)) = cs'[j]?) ∧ Rd enc W e cs' (D i) := fun i hi => by
      obtain ⟨cs', h1, h2⟩ := hel i (by omega)
      rw [hz] at h1
      obtain ⟨_, h3, h4⟩ := World.cells?_some h1
      exact ⟨cs', h3, fun j hj => by rw [← h4 j hj, add_add], _, _, h2⟩
    obtain ⟨cs0, l0, c0, _⟩ := hcell 0 h0
    have c00 := c0 0 hz0
    obtain ⟨ab, ao, asp⟩ := a
    have hsp : asp = none := by
      have : W.cell? ⟨ab, ao, asp⟩ = cs0[0]? := by simpa [Addr.add] using c00
      rw [List.getElem?_eq_getElem (by omega)] at this
      cases asp with
      | none => rfl
      | some s =>
        unfold World.cell? at this
        split at this <;> simp at this
    subst hsp
    refine ⟨ab, ao, rfl, ?_, fun i hi => ?_⟩
    · rw [List.getElem?_eq_getElem (by omega)] at c00
      have := World.block_lt_of_cell? W _ c00
      simpa [Addr.add] using this
    · obtain ⟨cs', l', c', r'⟩ := hcell i hi
      exact ⟨cs', l', fun j hj => by rw [← c' j hj, add_off, Nat.add_assoc], r'⟩

theorem rd_struct {W : World} {t : TypeId} {fs : Array Field} {cs : List Value} {d : DataW H} (ht : Try.prog.underlying t = some (.struct fs)) (h : Rd enc W t cs d) :
    cs.length = Try.prog.cellsOf t ∧ ∃ ds, d = .agg ds ∧ ds.length = fs.size ∧ ∀ (i : Nat) (f : Field), fs[i]? = some f → ∃ di, ds[i]? = some di ∧ Rd enc W f.type ((cs.drop f.offset).take (Try.prog.cellsOf f.type)) di := by
  obtain ⟨fuel, ps, h⟩ := h
  obtain ⟨xs, n, _, hx, hl, hl2, hf⟩ := DataW.trod_struct ht h
  simp only [Prod.mk.injEq] at hx
  refine ⟨hl, _, hx.1, by simpa using hl2, fun i f hi => ?_⟩
  have := hf i f hi
  have hi' : i < fs.size := (Array.getElem?_eq_some_iff.1 hi).1
  rw [List.getElem?_eq_getElem (by omega)] at this
  exact ⟨(xs[i]'(by omega)).1, by simp [hl2, hi'], n, (xs[i]'(by omega)).2, this⟩

theorem u8_wf {n : Int} (h : (Lit.int .u8 n).wf = true) : 0 ≤ n ∧ n ≤ 255 := by simpa [Lit.wf, IntKind.min, IntKind.max, IntKind.signed, IntKind.bits] using h
theorem u16_wf {n : Int} (h : (Lit.int .u16 n).wf = true) : 0 ≤ n ∧ n ≤ 65535 := by simpa [Lit.wf, IntKind.min, IntKind.max, IntKind.signed, IntKind.bits] using h
theorem u32_wf {n : Int} (h : (Lit.int .u32 n).wf = true) : 0 ≤ n ∧ n ≤ 4294967295 := by simpa [Lit.wf, IntKind.min, IntKind.max, IntKind.signed, IntKind.bits] using h
theorem u64_wf {n : Int} (h : (Lit.int .u64 n).wf = true) : 0 ≤ n ∧ n ≤ 18446744073709551615 := by simpa [Lit.wf, IntKind.min, IntKind.max, IntKind.signed, IntKind.bits] using h
theorem i64_wf {n : Int} (h : (Lit.int .i64 n).wf = true) : -9223372036854775808 ≤ n ∧ n ≤ 9223372036854775807 := by simpa [Lit.wf, IntKind.min, IntKind.max, IntKind.signed, IntKind.bits] using h

/-- From 'for every i < n there is an x' to one list. -/
theorem choose_list {α : Type} {n : Nat} {p : Nat → α → Prop} (h : ∀ i, i < n → ∃ x, p i x) : ∃ l : List α, l.length = n ∧ ∀ i (hi : i < l.length), p i l[i] := by
  induction n with
  | zero => exact ⟨[], rfl, fun i hi => absurd hi (by simp)⟩
  | succ n ih =>
    obtain ⟨l, hl, hp⟩ := ih (fun i hi => h i (by omega))
    obtain ⟨x, hx⟩ := h n (by omega)
    refine ⟨l ++ [x], by simp [hl], fun i hi => ?_⟩
    by_cases hi' : i < l.length
    · rw [List.getElem_append_left hi']; exact hp i hi'
    · have : i = n := by simp at hi; omega
      subst this
      simp only [List.getElem_append, hl, Nat.lt_irrefl, dite_false, Nat.sub_self, List.getElem_cons_zero]
      exact hx

theorem rd_bytes {W : World} {t e : TypeId} {cs : List Value} {d : DataW H} (ht : Try.prog.underlying t = some (.slice e)) (he : Try.prog.underlying e = some (.int .u8)) (hz : Try.prog.cellsOf e = 1) (h : Rd enc W t cs d) :
    ∃ v bs, cs = [v] ∧ BytesAt W v bs ∧ ((bs.length = 0 ∧ d = .nil) ∨ ∃ el sp, d = .slice el sp ∧ el.length = bs.length) := by
  obtain ⟨A, n, cap, D, rfl, h1, h2, hd, hA⟩ := rd_slice ht hz (by decide) h
  obtain ⟨bs, hl, hb⟩ := choose_list (n := n) (p := fun i (b : UInt8) => ∀ g off, A = some ⟨g, off, none⟩ → W.cell? ⟨g, off + i, none⟩ = some (.int .u8 b.toNat)) (fun i hi => by
    obtain ⟨g, off, rfl, _, hc⟩ := hA (by omega)
    obtain ⟨cs', l', c', r'⟩ := hc i hi
    obtain ⟨m, rfl, hw⟩ := rd_int he r'
    have hw := u8_wf hw
    refine ⟨UInt8.ofNat m.toNat, fun g2 off2 e2 => ?_⟩
    cases e2
    have := c' 0 (by decide)
    simp only [Nat.mul_one, Nat.add_zero] at this
    rw [this]
    simp only [List.getElem?_cons_zero, Option.some.injEq, Value.int.injEq, true_and]
    have hm : (UInt8.ofNat m.toNat).toNat = m.toNat := UInt8.toNat_ofNat_of_lt' (by simp only [UInt8.size]; omega)
    rw [hm]
    omega)
  subst hl
  refine ⟨_, bs, rfl, ⟨A, cap, rfl, h1, h2, fun h0 => ?_⟩, ?_⟩
  · obtain ⟨g, off, rfl, _, _⟩ := hA h0
    refine ⟨g, off, rfl, fun i hi => ?_⟩
    have := hb i hi g off rfl
    rw [this]
    simp [hi]
  · rcases hd with ⟨h0, _, hd⟩ | ⟨sp, hd, _⟩
    · exact .inl ⟨h0, hd⟩
    · exact .inr ⟨_, sp, hd, by simp⟩

set_option maxRecDepth 100000 in
theorem arg_slice {W : World} {base : Nat} {t e : TypeId} {v : Value} {d : DataW H} {ps : List MemPlace} (ht : Try.prog.underlying t = some (.slice e)) (hval : Value.okWide Try.prog W .any base t v) (h : DataW.Trod enc Try.prog W 0 (fun _ => true) true t v d ps) : Rd enc W t [v] d := by
  obtain ⟨a, len, cap, rfl⟩ := okWide_slice ht hval
  obtain ⟨fuel, hf⟩ := h
  exact ⟨fuel, ps, hf⟩
end
end Go.Proofs.Ytemjdmgfilbfaaa
namespace Go.Proofs.Ytemjdmgfilbfaaa
open Go.ChangeShapes Go.WideShapes Go.ChangeAt Go.RowKit Go.Deep
set_option linter.unusedVariables false

section
variable {H : Type} {enc : TypeId × Value → H}

theorem rd_sl {α : Type} {encα : α → List Value} {sz : Nat} {W : World} {t e : TypeId} {cs : List Value} {d : DataW H} (good : α → Prop) (ht : Try.prog.underlying t = some (.slice e)) (hz : Try.prog.cellsOf e = sz) (hz0 : 0 < sz)
    (hel : ∀ cs d, Rd enc W e cs d → ∃ x, cs = encα x ∧ good x) (h : Rd enc W t cs d) :
    ∃ v xs, cs = [v] ∧ SlAt encα sz W v xs ∧ (∀ x ∈ xs, good x) ∧ (xs.length = 0 ∨ ∃ el sp, d = .slice el sp ∧ el.length = xs.length) := by
  obtain ⟨A, n, cap, D, rfl, h1, h2, hd, hA⟩ := rd_slice ht hz hz0 h
  obtain ⟨xs, hl, hx⟩ := choose_list (n := n) (p := fun i (x : α) => good x ∧ ∀ g off, A = some ⟨g, off, none⟩ → ∀ j, j < sz → W.cell? ⟨g, off + i * sz + j, none⟩ = (encα x)[j]?) (fun i hi => by
    obtain ⟨g, off, rfl, _, hc⟩ := hA (by omega)
    obtain ⟨cs', l', c', r'⟩ := hc i hi
    obtain ⟨x, rfl, hg⟩ := hel _ _ r'
    exact ⟨x, hg, fun g2 off2 e2 => by cases e2; exact c'⟩)
  subst hl
  refine ⟨_, xs, rfl, ⟨A, cap, rfl, h1, h2, fun h0 => ?_⟩, fun x hx' => ?_, ?_⟩
  · obtain ⟨g, off, rfl, hg, _⟩ := hA h0
    exact ⟨g, off, rfl, hg, fun i hi j hj => (hx i hi).2 g off rfl j hj⟩
  · obtain ⟨i, hi, rfl⟩ := List.getElem_of_mem hx'
    exact (hx i hi).1
  · rcases hd with ⟨h0, _, hd⟩ | ⟨sp, hd, _⟩
    · exact .inl h0
    · exact .inr ⟨_, sp, hd, by simp⟩

set_option maxRecDepth 100000 in
theorem sl_bound {ts : List TypeId} {ds : List (DataW H)} {j : Nat} {t e : TypeId} {d : DataW H} {n b : Nat} (hw : (DataW.weightsEach Try.prog ts ds).all (· ≤ reachBytes) = true) (ht : ts[j]? = some t) (hd : ds[j]? = some d) (hu : Try.prog.underlying t = some (.slice e)) (hb : Try.prog.bytesOf e = b)
    (h : n = 0 ∨ ∃ el sp, d = .slice el sp ∧ el.length = n) : n * b ≤ 140737488351232 := by
  rcases h with h | ⟨el, sp, rfl, h⟩
  · subst h; omega
  · have := sized_slice hw ht hd hu
    rw [hb] at this
    have hr : reachBytes = 140737488351232 := rfl
    have h2 : n * b ≤ (el.length + sp.length) * b := Nat.mul_le_mul_right _ (by omega)
    omega

set_option maxRecDepth 100000 in
/-- A struct of three fields, one cell each. -/
theorem rd_struct3 {W : World} {t : TypeId} {f0 f1 f2 : Field} {cs : List Value} {d : DataW H} (ht : Try.prog.underlying t = some (.struct #[f0, f1, f2])) (hz : Try.prog.cellsOf t = 3) (z0 : f0.offset = 0) (z1 : f1.offset = 1) (z2 : f2.offset = 2)
    (y0 : Try.prog.cellsOf f0.type = 1) (y1 : Try.prog.cellsOf f1.type = 1) (y2 : Try.prog.cellsOf f2.type = 1) (h : Rd enc W t cs d) :
    ∃ c0 c1 c2 d0 d1 d2, cs = [c0, c1, c2] ∧ Rd enc W f0.type [c0] d0 ∧ Rd enc W f1.type [c1] d1 ∧ Rd enc W f2.type [c2] d2 := by
  obtain ⟨hl, ds, _, _, hf⟩ := rd_struct ht h
  rw [hz] at hl
  match cs, hl with
  | [c0, c1, c2], _ =>
    obtain ⟨d0, _, r0⟩ := hf 0 f0 rfl
    obtain ⟨d1, _, r1⟩ := hf 1 f1 rfl
    obtain ⟨d2, _, r2⟩ := hf 2 f2 rfl
    rw [z0, y0] at r0
    rw [z1, y1] at r1
    rw [z2, y2] at r2
    exact ⟨c0, c1, c2, d0, d1, d2, rfl, r0, r1, r2⟩
end
end Go.Proofs.Ytemjdmgfilbfaaa
namespace Go.Proofs.Ytemjdmgfilbfaaa
open Go.ChangeShapes Go.WideShapes Go.ChangeAt Go.RowKit Go.Deep
set_option linter.unusedVariables false
set_option maxRecDepth 100000

section
variable {H : Type} {enc : TypeId × Value → H}

/-- Each string, slice and map in the datum is within the form's reach. -/
def Sz (t : TypeId) (d : DataW H) : Prop := ∀ n ∈ DataW.weights Try.prog t d, n ≤ reachBytes

theorem sz_arg {ts : List TypeId} {ds : List (DataW H)} {j : Nat} {t : TypeId} {d : DataW H} (hw : (DataW.weightsEach Try.prog ts ds).all (· ≤ reachBytes) = true) (ht : ts[j]? = some t) (hd : ds[j]? = some d) : Sz t d := fun n hn => by
  have := List.all_eq_true.1 hw _ (DataW.weights_mem_each ht hd n hn)
  simpa using this

theorem sz_all {e : TypeId} {l : List (DataW H)} (h : ∀ n ∈ DataW.weightsAll Try.prog e l, n ≤ reachBytes) : ∀ x ∈ l, Sz e x := by
  induction l with
  | nil => intro x hx; cases hx
  | cons y r ih =>
    intro x hx
    simp only [DataW.weightsAll, List.mem_append] at h
    rcases List.mem_cons.1 hx with rfl | hx
    · exact fun n hn => h n (.inl hn)
    · exact ih (fun n hn => h n (.inr hn)) x hx

theorem sz_slice {t e : TypeId} {el sp : List (DataW H)} (hu : Try.prog.underlying t = some (.slice e)) (h : Sz t (.slice el sp)) : (el.length + sp.length) * Try.prog.bytesOf e ≤ 140737488351232 ∧ ∀ x ∈ el, Sz e x := by
  have hr : reachBytes = 140737488351232 := rfl
  unfold Sz at h
  simp only [DataW.weights, hu, List.mem_cons, List.mem_append] at h
  exact ⟨by rw [← hr]; exact h _ (.inl rfl), sz_all (fun n hn => h n (.inr (.inl hn)))⟩

theorem sz_string {t : TypeId} {b : List UInt8} (h : Sz (H := H) t (.lit (.string b))) : b.length ≤ 140737488351232 := by
  have hr : reachBytes = 140737488351232 := rfl
  unfold Sz at h
  simp only [DataW.weights, List.mem_cons, List.not_mem_nil, or_false] at h
  rw [← hr]; exact h _ rfl

theorem sz_each {ts : List TypeId} {ds : List (DataW H)} (h : ∀ n ∈ DataW.weightsEach Try.prog ts ds, n ≤ reachBytes) {j : Nat} {t : TypeId} {d : DataW H} (ht : ts[j]? = some t) (hd : ds[j]? = some d) : Sz t d :=
  fun n hn => h n (DataW.weights_mem_each ht hd n hn)

theorem sz_struct {t : TypeId} {fs : Array Field} {ds : List (DataW H)} (hu : Try.prog.underlying t = some (.struct fs)) (h : Sz t (.agg ds)) {i : Nat} {f : Field} {di : DataW H} (hf : fs[i]? = some f) (hd : ds[i]? = some di) : Sz f.type di := by
  unfold Sz at h
  simp only [DataW.weights, hu] at h
  exact sz_each h (j := i) (by simp [hf]) hd

theorem rd_slS {α : Type} {encα : α → List Value} {sz : Nat} {W : World} {t e : TypeId} {cs : List Value} {d : DataW H} (good : α → Prop) (ht : Try.prog.underlying t = some (.slice e)) (hz : Try.prog.cellsOf e = sz) (hz0 : 0 < sz)
    (hel : ∀ cs d, Rd enc W e cs d → Sz e d → ∃ x, cs = encα x ∧ good x) (h : Rd enc W t cs d) (hs : Sz t d) :
    ∃ v xs, cs = [v] ∧ SlAt encα sz W v xs ∧ (∀ x ∈ xs, good x) ∧ xs.length * Try.prog.bytesOf e ≤ 140737488351232 := by
  obtain ⟨A, n, cap, D, rfl, h1, h2, hd, hA⟩ := rd_slice ht hz hz0 h
  have hsz : n * Try.prog.bytesOf e ≤ 140737488351232 ∧ ∀ i, i < n → Sz e (D i) := by
    rcases hd with ⟨h0, _, hd⟩ | ⟨sp, hd, _⟩
    · subst h0; exact ⟨by omega, fun i hi => absurd hi (by omega)⟩
    · subst hd
      obtain ⟨h3, h4⟩ := sz_slice ht hs
      refine ⟨Nat.le_trans (Nat.mul_le_mul_right _ (by simp)) h3, fun i hi => h4 _ (List.mem_map_of_mem (List.mem_range.2 hi))⟩
  obtain ⟨xs, hl, hx⟩ := choose_list (n := n) (p := fun i (x : α) => good x ∧ ∀ g off, A = some ⟨g, off, none⟩ → ∀ j, j < sz → W.cell? ⟨g, off + i * sz + j, none⟩ = (encα x)[j]?) (fun i hi => by
    obtain ⟨g, off, rfl, _, hc⟩ := hA (by omega)
    obtain ⟨cs', l', c', r'⟩ := hc i hi
    obtain ⟨x, rfl, hg⟩ := hel _ _ r' (hsz.2 i hi)
    exact ⟨x, hg, fun g2 off2 e2 => by cases e2; exact c'⟩)
  subst hl
  refine ⟨_, xs, rfl, ⟨A, cap, rfl, h1, h2, fun h0 => ?_⟩, fun x hx' => ?_, hsz.1⟩
  · obtain ⟨g, off, rfl, hg, _⟩ := hA h0
    exact ⟨g, off, rfl, hg, fun i hi j hj => (hx i hi).2 g off rfl j hj⟩
  · obtain ⟨i, hi, rfl⟩ := List.getElem_of_mem hx'
    exact (hx i hi).1

theorem rd_bytesS {W : World} {t e : TypeId} {cs : List Value} {d : DataW H} (ht : Try.prog.underlying t = some (.slice e)) (he : Try.prog.underlying e = some (.int .u8)) (hz : Try.prog.cellsOf e = 1) (hb : Try.prog.bytesOf e = 1) (h : Rd enc W t cs d) (hs : Sz t d) :
    ∃ v bs, cs = [v] ∧ BytesAt W v bs ∧ bs.length ≤ 140737488351232 := by
  obtain ⟨v, bs, rfl, hB, hd⟩ := rd_bytes ht he hz h
  refine ⟨v, bs, rfl, hB, ?_⟩
  rcases hd with ⟨h0, _⟩ | ⟨el, sp, rfl, hl⟩
  · omega
  · have := (sz_slice ht hs).1
    rw [hb] at this
    omega

/-- A struct of three fields, one cell each. -/
theorem rd_struct3S {W : World} {t : TypeId} {f0 f1 f2 : Field} {cs : List Value} {d : DataW H} (ht : Try.prog.underlying t = some (.struct #[f0, f1, f2])) (hz : Try.prog.cellsOf t = 3) (z0 : f0.offset = 0) (z1 : f1.offset = 1) (z2 : f2.offset = 2)
    (y0 : Try.prog.cellsOf f0.type = 1) (y1 : Try.prog.cellsOf f1.type = 1) (y2 : Try.prog.cellsOf f2.type = 1) (h : Rd enc W t cs d) (hs : Sz t d) :
    ∃ c0 c1 c2 d0 d1 d2, cs = [c0, c1, c2] ∧ Rd enc W f0.type [c0] d0 ∧ Rd enc W f1.type [c1] d1 ∧ Rd enc W f2.type [c2] d2 ∧ Sz f0.type d0 ∧ Sz f1.type d1 ∧ Sz f2.type d2 := by
  obtain ⟨hl, ds, rfl, _, hf⟩ := rd_struct ht h
  rw [hz] at hl
  match cs, hl with
  | [c0, c1, c2], _ =>
    obtain ⟨d0, g0, r0⟩ := hf 0 f0 rfl
    obtain ⟨d1, g1, r1⟩ := hf 1 f1 rfl
    obtain ⟨d2, g2, r2⟩ := hf 2 f2 rfl
    rw [z0, y0] at r0
    rw [z1, y1] at r1
    rw [z2, y2] at r2
    exact ⟨c0, c1, c2, d0, d1, d2, rfl, r0, r1, r2, sz_struct ht hs (i := 0) rfl g0, sz_struct ht hs (i := 1) rfl g1, sz_struct ht hs (i := 2) rfl g2⟩

/-- A struct of two fields, one cell each. -/
theorem rd_struct2S {W : World} {t : TypeId} {f0 f1 : Field} {cs : List Value} {d : DataW H} (ht : Try.prog.underlying t = some (.struct #[f0, f1])) (hz : Try.prog.cellsOf t = 2) (z0 : f0.offset = 0) (z1 : f1.offset = 1)
    (y0 : Try.prog.cellsOf f0.type = 1) (y1 : Try.prog.cellsOf f1.type = 1) (h : Rd enc W t cs d) (hs : Sz t d) :
    ∃ c0 c1 d0 d1, cs = [c0, c1] ∧ Rd enc W f0.type [c0] d0 ∧ Rd enc W f1.type [c1] d1 ∧ Sz f0.type d0 ∧ Sz f1.type d1 := by
  obtain ⟨hl, ds, rfl, _, hf⟩ := rd_struct ht h
  rw [hz] at hl
  match cs, hl with
  | [c0, c1], _ =>
    obtain ⟨d0, g0, r0⟩ := hf 0 f0 rfl
    obtain ⟨d1, g1, r1⟩ := hf 1 f1 rfl
    rw [z0, y0] at r0
    rw [z1, y1] at r1
    exact ⟨c0, c1, d0, d1, rfl, r0, r1, sz_struct ht hs (i := 0) rfl g0, sz_struct ht hs (i := 1) rfl g1⟩
end
end Go.Proofs.Ytemjdmgfilbfaaa
namespace Go.Proofs.Ytemjdmgfilbfaaa
open Go.ChangeShapes Go.WideShapes Go.ChangeAt Go.RowKit Go.Deep
set_option linter.unusedVariables false
set_option maxRecDepth 100000

section
variable {H : Type} {enc : TypeId × Value → H}

theorem fldS {W : World} {t : TypeId} {fs : Array Field} {cs : List Value} {d : DataW H} (ht : Try.prog.underlying t = some (.struct fs)) (h : Rd enc W t cs d) (hs : Sz t d) {i off n : Nat} {f : Field} (hf : fs[i]? = some f) (ho : f.offset = off) (hn : Try.prog.cellsOf f.type = n) :
    ∃ di, Rd enc W f.type ((cs.drop off).take n) di ∧ Sz f.type di := by
  obtain ⟨_, ds, rfl, _, hall⟩ := rd_struct ht h
  obtain ⟨di, hdi, r⟩ := hall i f hf
  subst ho hn
  exact ⟨di, r, sz_struct ht hs hf hdi⟩
theorem rd_str {W : World} {t : TypeId} {cs : List Value} {d : DataW H} (ht : Try.prog.underlying t = some .string) (h : Rd enc W t cs d) (hs : Sz t d) : ∃ b : List UInt8, cs = [.string (strB2 b)] ∧ b.length ≤ 140737488351232 := by
  obtain ⟨fuel, ps, h⟩ := h
  obtain ⟨s, h1, h2, _⟩ := DataW.trod_string ht h
  simp only [Prod.mk.injEq] at h2
  rw [h2.1] at hs
  exact ⟨s.data.toList, h1, sz_string hs⟩
theorem rd_va {W : World} (cs : List Value) (d : DataW H) (h : Rd enc W 36 cs d) (hs : Sz 36 d) : ∃ v : Va, cs = cellsV v ∧ v.ok := by
  obtain ⟨hl, _⟩ := rd_struct Try.underlying36 h
  have h3 : Try.prog.cellsOf 36 = 3 := by kernel_rfl
  rw [h3] at hl
  obtain ⟨d0, r0, _⟩ := fldS Try.underlying36 h hs (i := 0) (off := 0) (n := 1) rfl rfl (by kernel_rfl)
  obtain ⟨d1, r1, _⟩ := fldS Try.underlying36 h hs (i := 1) (off := 1) (n := 1) rfl rfl (by kernel_rfl)
  obtain ⟨d2, r2, s2⟩ := fldS Try.underlying36 h hs (i := 2) (off := 2) (n := 1) rfl rfl (by kernel_rfl)
  match cs, hl with
  | [c0, c1, c2], _ =>
    obtain ⟨a, ha, _⟩ := rd_int Try.underlying3 r0
    obtain ⟨b, hb, wb⟩ := rd_int Try.underlying34 r1
    obtain ⟨s, hs', hl'⟩ := rd_str Try.underlying9 r2 s2
    simp at ha hb hs'
    have h64 := u64_wf wb
    exact ⟨⟨a, b, s⟩, by rw [ha, hb, hs']; rfl, h64.1, by have := h64.2; show b < 18446744073709551616; omega, hl'⟩
theorem rd_en {W : World} (cs : List Value) (d : DataW H) (h : Rd enc W 42 cs d) (hs : Sz 42 d) : ∃ x : En, cs = cellsE x ∧ x.ok := by
  obtain ⟨hl, _⟩ := rd_struct Try.underlying42 h
  have h3 : Try.prog.cellsOf 42 = 14 := by kernel_rfl
  rw [h3] at hl
  obtain ⟨d0, r0, _⟩ := fldS Try.underlying42 h hs (i := 0) (off := 0) (n := 1) rfl rfl (by kernel_rfl)
  obtain ⟨d1, r1, _⟩ := fldS Try.underlying42 h hs (i := 1) (off := 1) (n := 1) rfl rfl (by kernel_rfl)
  obtain ⟨d2, r2, _⟩ := fldS Try.underlying42 h hs (i := 2) (off := 2) (n := 1) rfl rfl (by kernel_rfl)
  obtain ⟨d3, r3, _⟩ := fldS Try.underlying42 h hs (i := 3) (off := 3) (n := 1) rfl rfl (by kernel_rfl)
  obtain ⟨d4, r4, _⟩ := fldS Try.underlying42 h hs (i := 4) (off := 4) (n := 1) rfl rfl (by kernel_rfl)
  obtain ⟨d5, r5, s5⟩ := fldS Try.underlying42 h hs (i := 5) (off := 5) (n := 3) rfl rfl (by kernel_rfl)
  obtain ⟨d6, r6, s6⟩ := fldS Try.underlying42 h hs (i := 6) (off := 8) (n := 3) rfl rfl (by kernel_rfl)
  obtain ⟨d7, r7, s7⟩ := fldS Try.underlying42 h hs (i := 7) (off := 11) (n := 3) rfl rfl (by kernel_rfl)
  match cs, hl with
  | [c0, c1, c2, c3, c4, c5, c6, c7, c8, c9, c10, c11, c12, c13], _ =>
    obtain ⟨a, ha, wa⟩ := rd_int Try.underlying32 r0
    obtain ⟨b, hb, wb⟩ := rd_int Try.underlying5 r1
    obtain ⟨c, hc, _⟩ := rd_int Try.underlying3 r2
    obtain ⟨m, hm⟩ := rd_bool Try.underlying4 r3
    obtain ⟨l, hl⟩ := rd_bool Try.underlying4 r4
    obtain ⟨v5, e5, o5⟩ := rd_va _ _ r5 s5
    obtain ⟨v6, e6, o6⟩ := rd_va _ _ r6 s6
    obtain ⟨v7, e7, o7⟩ := rd_va _ _ r7 s7
    simp [cellsV] at ha hb hc hm hl e5 e6 e7
    have h16 := u16_wf wa
    have h8 := u8_wf wb
    exact ⟨⟨a, b, c, m, l, v5, v6, v7⟩, by rw [ha, hb, hc, hm, hl, e5.1, e5.2.1, e5.2.2, e6.1, e6.2.1, e6.2.2, e7.1, e7.2.1, e7.2.2]; rfl, h16.1, h16.2, h8.1, h8.2, o5, o6, o7⟩
theorem rd_acto {W : World} (cs : List Value) (d : DataW H) (h : Rd enc W 38 cs d) (hs : Sz 38 d) : ∃ x : ActO, cs = encO x ∧ x.good W := by
  obtain ⟨hl, _⟩ := rd_struct Try.underlying38 h
  have h3 : Try.prog.cellsOf 38 = 8 := by kernel_rfl
  rw [h3] at hl
  obtain ⟨d0, r0, _⟩ := fldS Try.underlying38 h hs (i := 0) (off := 0) (n := 1) rfl rfl (by kernel_rfl)
  obtain ⟨d1, r1, _⟩ := fldS Try.underlying38 h hs (i := 1) (off := 1) (n := 1) rfl rfl (by kernel_rfl)
  obtain ⟨d2, r2, _⟩ := fldS Try.underlying38 h hs (i := 2) (off := 2) (n := 1) rfl rfl (by kernel_rfl)
  obtain ⟨d3, r3, s3⟩ := fldS Try.underlying38 h hs (i := 3) (off := 3) (n := 1) rfl rfl (by kernel_rfl)
  obtain ⟨d4, r4, s4⟩ := fldS Try.underlying38 h hs (i := 4) (off := 4) (n := 3) rfl rfl (by kernel_rfl)
  obtain ⟨d5, r5, _⟩ := fldS Try.underlying38 h hs (i := 5) (off := 7) (n := 1) rfl rfl (by kernel_rfl)
  match cs, hl with
  | [c0, c1, c2, c3, c4, c5, c6, c7], _ =>
    obtain ⟨k, hk, _⟩ := rd_int Try.underlying3 r0
    obtain ⟨a, ha, wa⟩ := rd_int Try.underlying32 r1
    obtain ⟨b, hb, wb⟩ := rd_int Try.underlying5 r2
    obtain ⟨v, bs, hv, hB, hl⟩ := rd_bytesS Try.underlying33 Try.underlying5 (by kernel_rfl) (by kernel_rfl) r3 s3
    obtain ⟨va, ev, ov⟩ := rd_va _ _ r4 s4
    obtain ⟨n, hn, wn⟩ := rd_int Try.underlying32 r5
    simp [cellsV] at hk ha hb hv ev hn
    have h16 := u16_wf wa
    have h8 := u8_wf wb
    have hn16 := u16_wf wn
    exact ⟨⟨k, a, b, v, bs, va, n⟩, by rw [hk, ha, hb, hv, ev.1, ev.2.1, ev.2.2, hn]; rfl, h16.1, h16.2, h8.1, h8.2, hB, hl, ov, hn16.1, hn16.2⟩
end
end Go.Proofs.Ytemjdmgfilbfaaa
namespace Go.Proofs.Ytemjdmgfilbfaaa
set_option linter.unusedVariables false
set_option linter.unusedSimpArgs false

/-- A value as an entry bears it. -/
def GoodV (t : Int) (v : Va) : Prop := checkV v = 0 ∧ v.ty = t ∧ plainV v = v
def GoodD (d : List Im) : Prop := ∀ x ∈ d, GoodV x.1.df.ty x.2
theorem plainV_twice (v : Va) : plainV (plainV v) = plainV v := by
  unfold plainV
  by_cases h : sizeT v.ty ≠ 0
  · rw [if_pos h]; simp only; rw [if_pos h]
  · rw [if_neg h]
    by_cases h2 : isT v.ty = true
    · rw [if_pos h2]; simp only; rw [if_neg h, if_pos h2]
    · rw [if_neg h2, if_neg h, if_neg h2]
theorem checkV_plain (v : Va) : checkV (plainV v) = checkV v := by
  unfold plainV checkV
  by_cases h : sizeT v.ty ≠ 0
  · rw [if_pos h]
    simp only [h, ne_eq, not_false_eq_true, if_true]
  · rw [if_neg h]
    by_cases h2 : isT v.ty = true
    · rw [if_pos h2]; simp only [h, if_false]
    · rw [if_neg h2]
theorem GoodV.plain {v : Va} (h : checkV v = 0) : GoodV v.ty (plainV v) := ⟨by rw [checkV_plain]; exact h, plainV_ty v, plainV_twice v⟩
theorem GoodV.dec {t : Int} {b : List UInt8} (h : (decV t b).2 = 0) : GoodV t (decV t b).1 := by
  unfold decV at h ⊢
  by_cases h1 : isT t = false
  · rw [if_pos h1] at h; exact absurd h (by decide)
  rw [if_neg h1] at h ⊢
  by_cases h2 : (b.length : Int) < sizeT t
  · rw [if_pos h2] at h; exact absurd h (by decide)
  rw [if_neg h2] at h ⊢
  by_cases h3 : sizeT t ≠ 0 ∧ sizeT t < b.length ∨ 65536 < b.length
  · rw [if_pos h3] at h; exact absurd h (by decide)
  rw [if_neg h3] at h ⊢
  by_cases h4 : checkV (rawV t b) ≠ 0
  · rw [if_pos h4] at h; exact absurd h (by decide)
  rw [if_neg h4]
  refine ⟨by simpa using h4, ?_, ?_⟩
  · simp only [rawV]
    split <;> rfl
  · by_cases h5 : sizeT t ≠ 0
    · have e : rawV t b = ⟨t, wideN (sizeT t) (sgnT t) (numOf b), []⟩ := by unfold rawV; rw [if_pos h5]
      rw [e]; unfold plainV; simp only; rw [if_pos h5]
    · have e : rawV t b = ⟨t, 0, b⟩ := by unfold rawV; rw [if_neg h5]
      rw [e]; unfold plainV; simp only; rw [if_neg h5, if_pos (by simpa using h1)]
theorem GoodD.set {d : List Im} (h : GoodD d) {k : Nat} (hk : k < d.length) {v : Va} (hv : GoodV d[k].1.df.ty v) : GoodD (d.set k (d[k].1, v)) := by
  intro x hx
  rcases List.mem_or_eq_of_mem_set hx with hx | rfl
  · exact h x hx
  · exact hv
theorem take_good {x : En} {b : List UInt8} (h : (takeE x b).1 = 0) : GoodV x.df.ty (takeE x b).2 := by
  rw [takeE_val h]
  apply GoodV.dec
  unfold takeE at h
  by_cases h1 : x.acc ≠ 1 ∧ x.acc ≠ 2
  · rw [if_pos h1] at h; exact absurd h (by show ¬ codeNoWrite = 0; decide)
  rw [if_neg h1] at h
  by_cases h3 : (decV x.df.ty b).2 = 3
  · rw [if_pos h3] at h; exact absurd h (by show ¬ codeShort = 0; decide)
  rw [if_neg h3] at h
  by_cases h2 : (decV x.df.ty b).2 = 2
  · rw [if_pos h2] at h; exact absurd h (by show ¬ codeLong = 0; decide)
  rw [if_neg h2] at h
  by_cases h0 : (decV x.df.ty b).2 ≠ 0
  · rw [if_pos h0] at h; exact absurd h (by show ¬ codeBad = 0; decide)
  · simpa using h0
theorem got_good2 (d : List Im) (l : List It) : ∀ p ∈ (gotD d l).2, ∃ hk : p.1 < d.length, GoodV d[p.1].1.df.ty p.2 := by
  induction l with
  | nil => intro p hp; cases hp
  | cons x r ih =>
    intro p hp
    cases hf : findD d x.1 x.2.1 with
    | none => rw [gotD_none hf] at hp; cases hp
    | some k =>
      cases hk : d[k]? with
      | none => rw [gotD_out hf hk] at hp; cases hp
      | some y =>
        by_cases h1 : y.1.acc = 2
        · by_cases h2 : (decV y.1.df.ty x.2.2).2 = 0
          · rw [gotD_next hf hk h1 h2] at hp
            rcases List.mem_cons.1 hp with rfl | hp
            · obtain ⟨hl, rfl⟩ := List.getElem?_eq_some_iff.1 hk
              exact ⟨hl, .dec h2⟩
            · exact ih p hp
          · rw [gotD_dec hf hk h1 h2] at hp; cases hp
        · rw [gotD_acc hf hk h1] at hp; cases hp
theorem putAll_good {d : List Im} (ps : List (Nat × Va)) (h : GoodD d) (hp : ∀ p ∈ ps, ∃ hk : p.1 < d.length, GoodV d[p.1].1.df.ty p.2) : GoodD (putAll d ps) := by
  unfold putAll
  induction ps generalizing d with
  | nil => exact h
  | cons p r ih =>
    rw [List.foldl_cons]
    obtain ⟨hl, hv⟩ := hp p (List.mem_cons_self ..)
    have e : putD d p = d.set p.1 (d[p.1].1, p.2) := by
      unfold putD
      simp only [List.getElem?_eq_getElem hl]
    rw [e]
    refine ih (h.set hl hv) fun q hq => ?_
    obtain ⟨hl2, hv2⟩ := hp q (List.mem_cons_of_mem _ hq)
    refine ⟨by simpa using hl2, ?_⟩
    by_cases hpq : p.1 = q.1
    · have e9 : ((d.set p.1 (d[p.1].1, p.2))[q.1]'(by simpa using hl2)).1 = d[q.1].1 := by
        rw [List.getElem_set]
        rw [if_pos hpq]
        simp only [hpq]
      rw [e9]; exact hv2
    · have e9 : (d.set p.1 (d[p.1].1, p.2))[q.1]'(by simpa using hl2) = d[q.1] := List.getElem_set_ne hpq _
      rw [e9]; exact hv2
theorem GoodD.load {d : List Im} (h : GoodD d) (b : List UInt8) : GoodD (loadD d b).1 := by
  unfold loadD
  split
  · exact h
  · split
    · exact h
    · exact putAll_good _ h (got_good2 _ _)
theorem GoodD.write {d : List Im} (h : GoodD d) (i s : Int) (b : List UInt8) : GoodD (writeD d i s b) := by
  unfold writeD
  split
  · exact h
  · split
    · exact h
    · rename_i k _ x hx
      split
      · rename_i ht
        obtain ⟨hk, rfl⟩ := List.getElem?_eq_some_iff.1 hx
        exact h.set hk (take_good ht)
      · exact h
theorem GoodD.setD {d : List Im} (h : GoodD d) (i s : Int) (v : Va) : GoodD (setD d i s v).1 := by
  unfold Go.Proofs.Ytemjdmgfilbfaaa.setD
  split
  · exact h
  · split
    · exact h
    · rename_i k hfk _ x hx
      split
      · exact h
      · rename_i ht
        obtain ⟨hk, rfl⟩ := List.getElem?_eq_some_iff.1 hx
        refine h.set hk ?_
        have hc : setC d[k] v = 0 := by simpa using ht
        unfold setC at hc
        by_cases h1 : d[k].1.acc = 3 ∨ v.ty ≠ d[k].2.ty
        · rw [if_pos h1] at hc; exact absurd hc (by decide)
        · rw [if_neg h1] at hc
          have hty : v.ty = d[k].2.ty := Decidable.byContradiction fun h => h1 (.inr h)
          have := GoodV.plain hc
          rw [hty, (h _ (List.getElem_mem hk)).2.1] at this
          exact this
theorem GoodD.of_plain {d : List Im} (hp : PlD d) : GoodD (resetD d) := by
  intro x hx
  unfold resetD at hx
  obtain ⟨y, hy, rfl⟩ := List.mem_map.1 hx
  obtain ⟨z, hz, e⟩ := hp y hy
  simp only [e]
  have hc : checkV z.df = 0 := by
    unfold entryE at hz
    by_cases h : checkV z.df ≠ 0
    · rw [if_pos h] at hz; exact absurd hz h
    · simpa using h
  have := GoodV.plain hc
  show GoodV (plainV z.df).ty (plainV z.df)
  rw [plainV_ty]
  exact this
theorem GoodD.new {xs : List En} (h : checkE xs = 0) : GoodD (newD xs) := by
  have h1 := GoodD.of_plain (PlD.new h)
  have e : resetD (newD xs) = newD xs := by
    unfold resetD newD
    rw [List.map_map]
    rfl
  rw [e] at h1
  exact h1
theorem GoodD.does {d : List Im} (h : GoodD d) (hp : PlD d) (k i s : Int) (bs : List UInt8) (v : Va) (n : Int) : GoodD (doD d k i s bs v n) := by
  unfold doD
  split
  · exact h.write i s bs
  split
  · exact h.setD i s v
  split
  · exact .of_plain hp
  split
  · exact h.load _
  split
  · exact h.load _
  · exact h
/-- What is written comes back. -/
theorem enc_dec {v : Va} (h : checkV v = 0) (hp : plainV v = v) (ho : v.ok) : decV v.ty (encV v).1 = (v, 0) := by
  have he : isT v.ty = true := by
    unfold checkV at h
    by_cases h1 : isT v.ty = false
    · rw [if_pos h1] at h; exact absurd h (by decide)
    · simpa using h1
  unfold encV
  rw [if_neg (by simpa using h)]
  by_cases hz : sizeT v.ty ≠ 0
  · rw [if_pos hz]
    have hf : fitsN (sizeT v.ty) (sgnT v.ty) v.n = true := by
      unfold checkV at h
      rw [if_neg (by simp [he]), if_pos hz] at h
      by_cases h2 : fitsN (sizeT v.ty) (sgnT v.ty) v.n = false ∨ v.ty = 1 ∧ 1 < v.n
      · rw [if_pos h2] at h; exact absurd h (by decide)
      · have := fun e => h2 (.inl e)
        simpa using this
    have hs : ((sizeT v.ty).toNat : Int) = sizeT v.ty := by rcases sizeT_vals v.ty with h | h | h | h | h <;> rw [h] <;> decide
    have hs8 : (sizeT v.ty).toNat ≤ 8 := by rcases sizeT_vals v.ty with h | h | h | h | h <;> rw [h] <;> decide
    have hw := (wide_fits hs hz ho.1 ho.2.1).2 hf
    have hraw : rawV v.ty (leOf v.n (sizeT v.ty).toNat) = v := by
      unfold rawV
      rw [if_pos hz, hw]
      have : plainV v = ⟨v.ty, v.n, []⟩ := by unfold plainV; rw [if_pos hz]
      rw [← hp]
      rw [this]
    simp only []
    unfold decV
    rw [if_neg (by simp [he]), leOf_length, hs, if_neg (by omega), if_neg (by omega), hraw, if_neg (by simpa using h)]
  · rw [if_neg hz]
    have hlen : ¬ 65536 < v.b.length := by
      unfold checkV at h
      rw [if_neg (by simp [he]), if_neg hz] at h
      intro hl
      rw [if_pos hl] at h
      exact absurd h (by decide)
    have hz0 : sizeT v.ty = 0 := by simpa using hz
    have hraw : rawV v.ty v.b = v := by
      unfold rawV
      rw [if_neg hz]
      have : plainV v = ⟨v.ty, 0, v.b⟩ := by unfold plainV; rw [if_neg hz, if_pos he]
      rw [← hp]
      rw [this]
    simp only []
    unfold decV
    rw [if_neg (by simp [he]), if_neg (by omega), if_neg (by omega), hraw, if_neg (by simpa using h)]
/-- A saved value, as it is read. -/
def partI (x : Im) : It := (x.1.idx, x.1.sub, (encV x.2).1)
theorem head_save {x : Im} (hx : x.1.ok) (ha : x.1.acc = 2) (r : List UInt8) : headP (saveI x ++ r) = partI x ∧ numOf (((saveI x ++ r).drop 3).take 4) = ((encV x.2).1.length : Int) ∧ ((saveI x ++ r).drop 7).drop (encV x.2).1.length = r ∧ (saveI x ++ r).length = 7 + (encV x.2).1.length + r.length := by
  have hl := encV_len x.2
  have h1 := hx.1
  have h2 := hx.2.1
  have h3 := hx.2.2.1
  have h4 := hx.2.2.2.1
  have e1 := saveI_yes x ha
  unfold partI
  generalize (encV x.2).1 = e at *
  obtain ⟨a0, a1, hA⟩ : ∃ a0 a1, leOf x.1.idx 2 = [a0, a1] := ⟨_, _, rfl⟩
  obtain ⟨b0, hB⟩ : ∃ b0, leOf x.1.sub 1 = [b0] := ⟨_, rfl⟩
  obtain ⟨c0, c1, c2, c3, hC⟩ : ∃ c0 c1 c2 c3, leOf (e.length : Int) 4 = [c0, c1, c2, c3] := ⟨_, _, _, _, rfl⟩
  have nA : numOf [a0, a1] = x.1.idx := by
    rw [← hA, numOf_leOf _ _ h1]
    have : (256 : Int) ^ 2 = 65536 := by decide
    rw [this]
    omega
  have nB : (b0.toNat : Int) = x.1.sub := by
    have h9 : numOf [b0] = x.1.sub := by
      rw [← hB, numOf_leOf _ _ h3]
      have : (256 : Int) ^ 1 = 256 := by decide
      rw [this]
      omega
    simpa [numOf] using h9
  have nC : numOf [c0, c1, c2, c3] = (e.length : Int) := by
    rw [← hC, numOf_leOf _ _ (by omega)]
    have : (256 : Int) ^ 4 = 4294967296 := by decide
    rw [this]
    omega
  have hs : saveI x ++ r = a0 :: a1 :: b0 :: c0 :: c1 :: c2 :: c3 :: (e ++ r) := by
    rw [e1, hA, hB, hC]
    simp
  rw [hs]
  refine ⟨?_, ?_, ?_, ?_⟩
  · unfold headP
    simp only [List.take_succ_cons, List.take_zero, List.drop_succ_cons, List.drop_zero, nA, nC, Int.toNat_natCast, List.take_left']
    simp [nB]
  · simp only [List.take_succ_cons, List.take_zero, List.drop_succ_cons, List.drop_zero, nC]
  · simp
  · simp
    omega
theorem saveD_cons (x : Im) (r : List Im) : saveD (x :: r) = saveI x ++ saveD r := by
  unfold saveD
  rw [List.flatMap_cons]
/-- What is saved reads as the values that are kept. -/
theorem parts_save (d : List Im) (hok : ∀ x ∈ d, x.1.ok) (hs : d.Pairwise fun a b => plE a.1 < plE b.1) (last : Int) (hl : ∀ x ∈ d, last < plE x.1) : prtF (saveD d).length last (saveD d) = some ((d.filter fun x => x.1.acc == 2).map partI) := by
  induction d generalizing last with
  | nil => exact prt_done _ _ rfl
  | cons x r ih =>
    rw [List.pairwise_cons] at hs
    have ho := hok x (List.mem_cons_self ..)
    have hr := fun last h => ih (fun y hy => hok y (List.mem_cons_of_mem _ hy)) hs.2 last h
    rw [saveD_cons]
    by_cases ha : x.1.acc = 2
    · obtain ⟨q1, q2, q3, q4⟩ := head_save ho ha (saveD r)
      have hp : plP (partI x) = plE x.1 := rfl
      rw [prt_next (n := (encV x.2).1.length) (by omega) q2 (by omega) (by rw [q1, hp]; exact hl x (List.mem_cons_self ..)), q3, q1, hp, hr _ (fun y hy => hs.1 y hy), List.filter_cons_of_pos (by simp [ha])]
      rfl
    · rw [saveI_no x ha, List.nil_append, hr last (fun y hy => hl y (List.mem_cons_of_mem _ hy)), List.filter_cons_of_neg (by simp [ha])]
theorem ne_last (d : List Im) (hok : ∀ x ∈ d, x.1.ok) : ∀ x ∈ d, -1 < plE x.1 := by
  intro x hx
  have := hok x hx
  unfold plE
  have h1 := this.1
  have h2 := this.2.2.1
  omega
theorem got_save {d0 d : List Im} (hf : d.map (·.1) = d0.map (·.1)) (h0 : DOk d0) (hd : DOk d) (hg : GoodD d) : ∀ (m j : Nat), j + m = d.length → ∃ ps, gotD d0 (((d.drop j).filter fun x => x.1.acc == 2).map partI) = (0, ps) ∧
    (∀ q ∈ ps, ∃ hk : q.1 < d.length, j ≤ q.1 ∧ d[q.1].1.acc = 2 ∧ q.2 = d[q.1].2) ∧ (∀ (k : Nat) (hk : k < d.length), j ≤ k → d[k].1.acc = 2 → (k, d[k].2) ∈ ps) := by
  intro m
  induction m with
  | zero =>
    intro j hj
    have e : d.drop j = [] := List.drop_eq_nil_of_le (by omega)
    rw [e]
    exact ⟨[], rfl, (fun q hq => nomatch hq), (fun k hk hjk => absurd hk (by omega))⟩
  | succ m ih =>
    intro j hj
    have hlt : j < d.length := by omega
    obtain ⟨ps, e, p1, p2⟩ := ih (j + 1) (by omega)
    rw [List.drop_eq_getElem_cons hlt]
    by_cases ha : d[j].1.acc = 2
    · rw [List.filter_cons_of_pos (by simp [ha]), List.map_cons]
      have hlen : d.length = d0.length := by have := congrArg List.length hf; simpa using this
      have hlt0 : j < d0.length := by omega
      have e1 : d0[j].1 = d[j].1 := by
        have := congrArg (fun z => z[j]?) hf
        simp [hlt, hlt0] at this
        exact this.symm
      have ho := (hd.ok _ (List.getElem_mem hlt)).1
      have hfd := (find_hit h0 (i := d[j].1.idx) (s := d[j].1.sub) ⟨ho.2.2.1, ho.2.2.2.1⟩ hlt0 (by rw [e1]; rfl)).1
      have hgv := hg _ (List.getElem_mem hlt)
      have hdec : decV d0[j].1.df.ty (partI d[j]).2.2 = (d[j].2, 0) := by
        rw [e1, ← hgv.2.1]
        exact enc_dec hgv.1 hgv.2.2 (hd.ok _ (List.getElem_mem hlt)).2
      have hn := gotD_next (d := d0) (x := partI d[j]) (r := ((d.drop (j + 1)).filter fun x => x.1.acc == 2).map partI) hfd (List.getElem?_eq_getElem hlt0) (by rw [e1]; exact ha) (by rw [hdec])
      rw [hn, e, hdec]
      refine ⟨_, rfl, fun q hq => ?_, fun k hk hjk hak => ?_⟩
      · rcases List.mem_cons.1 hq with rfl | hq
        · exact ⟨hlt, Nat.le_refl _, ha, rfl⟩
        · obtain ⟨hk, h1, h2⟩ := p1 q hq
          exact ⟨hk, by omega, h2⟩
      · rcases Nat.eq_or_lt_of_le hjk with rfl | hjk
        · exact List.mem_cons_self ..
        · exact List.mem_cons_of_mem _ (p2 k hk hjk hak)
    · rw [List.filter_cons_of_neg (by simp [ha])]
      refine ⟨ps, e, fun q hq => ?_, fun k hk hjk hak => ?_⟩
      · obtain ⟨hk, h1, h2⟩ := p1 q hq
        exact ⟨hk, by omega, h2⟩
      · rcases Nat.eq_or_lt_of_le hjk with rfl | hjk
        · exact absurd hak ha
        · exact p2 k hk hjk hak
/-- What is loaded has the values that were kept. -/
theorem load_save {d0 d : List Im} (hf : d.map (·.1) = d0.map (·.1)) (h0 : DOk d0) (hd : DOk d) (hg : GoodD d) :
    (loadD d0 (saveD d)).2 = 0 ∧ (loadD d0 (saveD d)).1.length = d.length ∧ ∀ (k : Nat) (hk : k < d.length), d[k].1.acc = 2 → (loadD d0 (saveD d)).1[k]? = some d[k] := by
  have hlen : d.length = d0.length := by have := congrArg List.length hf; simpa using this
  have hp : partsD (saveD d) = some ((d.filter fun x => x.1.acc == 2).map partI) := parts_save d (fun x hx => (hd.ok x hx).1) hd.srt (-1) (ne_last d fun x hx => (hd.ok x hx).1)
  obtain ⟨ps, e, p1, p2⟩ := got_save hf h0 hd hg d.length 0 (by omega)
  rw [List.drop_zero] at e
  have hn := got_nodup (parts_sorted hp) (by rw [e])
  rw [e] at hn
  have hl : loadD d0 (saveD d) = (putAll d0 ps, 0) := by
    unfold loadD
    rw [hp]
    simp only [e]
    rfl
  rw [hl]
  refine ⟨rfl, by rw [putAll_len, hlen], fun k hk ha => ?_⟩
  have hk0 : k < d0.length := by omega
  have h1 := putAll_get hn (p2 k hk (Nat.zero_le _) ha) hk0
  have e1 : d0[k].1 = d[k].1 := by
    have := congrArg (fun z => z[k]?) hf
    simp [hk, hk0] at this
    exact this.symm
  show (putAll d0 ps)[k]? = some d[k]
  rw [h1, e1]
theorem saveD_congr : ∀ (a b : List Im), a.length = b.length → a.map (·.1) = b.map (·.1) → (∀ (k : Nat) (h1 : k < a.length) (h2 : k < b.length), b[k].1.acc = 2 → a[k] = b[k]) → saveD a = saveD b := by
  intro a
  induction a with
  | nil =>
    intro b hb _ _
    have : b = [] := List.eq_nil_of_length_eq_zero (by simpa using hb.symm)
    rw [this]
  | cons x r ih =>
    intro b hb hf h
    cases b with
    | nil => simp at hb
    | cons y s =>
      rw [List.map_cons, List.map_cons, List.cons.injEq] at hf
      have hr := ih s (by simpa using hb) hf.2 (fun k h1 h2 ha => by
        have := h (k + 1) (by simpa using h1) (by simpa using h2) (by simpa using ha)
        simpa using this)
      rw [saveD_cons, saveD_cons, hr]
      by_cases ha : y.1.acc = 2
      · have := h 0 (by simp) (by simp) (by simpa using ha)
        simp at this
        rw [this]
      · rw [saveI_no y ha, saveI_no x (by rw [hf.1]; exact ha)]
theorem save_load {d0 d : List Im} (hf : d.map (·.1) = d0.map (·.1)) (h0 : DOk d0) (hd : DOk d) (hg : GoodD d) : saveD (loadD d0 (saveD d)).1 = saveD d := by
  obtain ⟨h1, h2, h3⟩ := load_save hf h0 hd hg
  refine saveD_congr _ _ h2 (by rw [load_fst, hf]) fun k ha hb hacc => ?_
  have := h3 k hb hacc
  rw [List.getElem?_eq_getElem ha] at this
  exact Option.some.inj this
/-- What Get tells of an entry that was handed in, of both. -/
theorem get_both {xs : List En} {d : List Im} (hx : ∀ x ∈ xs, x.ok) (hf : d.map (·.1) = (newD xs).map (·.1)) (h0 : DOk (newD xs)) (hd : DOk d) (hg : GoodD d) {x : En} (hm : x ∈ xs) :
    ∃ v v' : Va, getD2 d x.idx x.sub = (v, 0) ∧ getD2 (loadD (newD xs) (saveD d)).1 x.idx x.sub = (v', 0) ∧ (x.acc = 2 → v = v') := by
  obtain ⟨h1, h2, h3⟩ := load_save hf h0 hd hg
  have hm1 : plainE x ∈ d.map (·.1) := by
    rw [hf]
    exact List.mem_map.2 ⟨newI x, (newD_perm xs).mem_iff.2 (List.mem_map.2 ⟨x, hm, rfl⟩), rfl⟩
  obtain ⟨y, hy, e⟩ := List.mem_map.1 hm1
  obtain ⟨k, hk, rfl⟩ := List.getElem_of_mem hy
  have hs := (hx x hm).2.2
  have hfd := find_hit hd (i := x.idx) (s := x.sub) ⟨hs.1, hs.2.1⟩ hk (by rw [e]; rfl)
  have hdl := load_ok h0 (saveD d)
  have hk2 : k < (loadD (newD xs) (saveD d)).1.length := by omega
  have e2 : ((loadD (newD xs) (saveD d)).1[k]).1 = d[k].1 := by
    have h9 : (loadD (newD xs) (saveD d)).1.map (·.1) = d.map (·.1) := by rw [load_fst, hf]
    have := congrArg (fun z => z[k]?) h9
    simpa [hk, hk2] using this
  have hfl := find_hit hdl (i := x.idx) (s := x.sub) ⟨hs.1, hs.2.1⟩ hk2 (by rw [e2, e]; rfl)
  refine ⟨d[k].2, ((loadD (newD xs) (saveD d)).1[k]).2, ?_, ?_, fun ha => ?_⟩
  · unfold getD2
    rw [hfd.1]
    simp only [List.getElem?_eq_getElem hk]
  · unfold getD2
    rw [hfl.1]
    simp only [List.getElem?_eq_getElem hk2]
  · have hacc : d[k].1.acc = 2 := by rw [e]; exact ha
    have := h3 k hk hacc
    rw [List.getElem?_eq_getElem hk2] at this
    rw [Option.some.inj this]
end Go.Proofs.Ytemjdmgfilbfaaa
