/-
  From a walk to a law's row: the arguments, opened; the row, closed. The arguments of a law, opened: what lies in memory where the form reads a datum. Slices of structs, opened. Slices of structs that hold slices, opened, with the form's own reach. What items read as.
-/
import Derived.Test.YtmkkeglcjbogcaaRows
import Derived.HandedShaped
import Derived.Deep.CondSized
import Derived.JoinedCond
import Derived.Deep.Slices
import Derived.Test.YtmkkeglcjbogcaaM7d461c19
import Derived.Test.YtmkkeglcjbogcaaMa641c309
set_option linter.unusedVariables false
set_option linter.unusedSimpArgs false
namespace Go.Proofs.Ytmkkeglcjbogcaa
open Go.ChangeShapes Go.WideShapes Go.ChangeAt Go.RowKit
set_option linter.unusedVariables false

theorem own : ownKnob Try.prog.godebug = none := by kernel_rfl
theorem laid : laidOutB Try.prog = true := by kernel_rfl

/-- What a law's walk shows: it returns true, and below the heap's size nothing has turned. -/
def LawPost (w : World) (e : Ending) (w' : World) : Prop := e = .returned (.bool true) ∧ Below w.heap.size w w'

section
variable {H : Type} {enc : TypeId × Value → H}

theorem trodAll_below {W W' : World} (hb : Below W.heap.size W W') (sp : Nat → Bool) : ∀ {ts : List TypeId} {vs : List Value} {ds : List (DataW H)} {ps : List MemPlace},
    (∀ t ∈ ts, Try.prog.readableRec t = true ∧ t < Try.prog.types.size) → DataW.TrodAll enc Try.prog W 0 (fun _ => true) true ts vs ds ps → (∀ x ∈ ps, x.block < W.heap.size) → (∀ x ∈ ps, sp x.block = true) → DataW.TrodAll enc Try.prog W' 0 sp true ts vs ds ps := by
  intro ts
  induction ts with
  | nil =>
    intro vs ds ps _ h _ _
    cases vs <;> cases ds <;> simp [DataW.TrodAll] at h ⊢
    exact h
  | cons t ts ih =>
    intro vs ds ps ht h hlt hsp
    cases vs <;> cases ds <;> simp [DataW.TrodAll] at h ⊢
    obtain ⟨p, hp, q, hq, rfl⟩ := h
    have h1 := ht t (by simp)
    refine ⟨p, WideElems.Trod_stays laid h1.1 h1.2 hp (fun x hx => hb.same (hlt x (by simp [hx]))) (fun x hx => hsp x (by simp [hx])), q, ih (fun t' ht' => ht t' (by simp [ht'])) hq (fun x hx => hlt x (by simp [hx])) (fun x hx => hsp x (by simp [hx])), rfl⟩

set_option maxRecDepth 100000 in
theorem law_post {fn : Func} {s : ChangeSpec} {W W' : World} {args : Array Value} {ds gs : List (DataW H)} {before : List MemPlace} {tb : TypeId}
    (hW : DataW.Whole enc Try.prog fn.params.toList s.vars false W args.toList ds gs before) (hp : ∀ t ∈ fn.params.toList, Try.prog.readableRec t = true ∧ t < Try.prog.types.size)
    (hr : fn.resultTypes = #[tb]) (htb : Try.prog.underlying tb = some .bool) (hs0 : s.vars = [])
    (hs1 : (s.fn H (ds ++ gs)).results = [.lit (.bool true)]) (hs2 : (s.fn H (ds ++ gs)).args = ds) (hs3 : (s.fn H (ds ++ gs)).vars = []) (hb : Below W.heap.size W W') :
    s.post enc Try.prog fn false true false false W args (.bool true) W' := by
  have hlt : ∀ p ∈ before, p.block < W.heap.size := fun p hp => hW.lt p hp
  have hW' := hW
  obtain ⟨p, q, hA, hV, rfl, hz, hn⟩ := hW
  rw [hs0] at hV
  obtain ⟨rfl, rfl⟩ := trodVars_none hV
  have hargs : ∀ sp : Nat → Bool, (∀ x ∈ p ++ [], sp x.block = true) → DataW.TrodAll enc Try.prog W' 0 sp true fn.params.toList args.toList (s.fn H (ds ++ [])).args p := fun sp hsp => by
    rw [hs2]; exact trodAll_below hb sp hp hA (fun x hx => hlt x (by simpa using hx)) (fun x hx => hsp x (by simpa using hx))
  have hres : ∀ (b : Nat) (sp : Nat → Bool) (hd : Bool), DataW.TrodAll enc Try.prog W' b sp hd fn.resultTypes.toList ((Value.bool true).resultList fn.resultTypes.size) (s.fn H (ds ++ [])).results [] := fun b sp hd => by
    rw [hs1, hr]; exact trodAll_mk1 (shut_bool htb _)
  have hvars : ∀ sp : Nat → Bool, DataW.TrodVars enc Try.prog W' sp s.vars (s.fn H (ds ++ [])).vars [] := fun sp => by rw [hs0, hs3]; rfl
  have hold : ∀ x ∈ p ++ [], (fun b => decide (b < W.heap.size)) x.block = true := fun x hx => by simpa using hlt x hx
  refine ⟨ds, [], p ++ [], [], p, [], hW', hres _ _ _, hargs _ hold, hvars _, World.keptBut_mono (fun x hx => ⟨hx, ?_⟩) (hb.frame (· ∈ p ++ [])), fun _ => ?_⟩
  · exact Or.inr (List.mem_append.1 hx)
  · refine ⟨ok_one hr rfl (okWide_bool_mk htb _), _, _, ([] ++ p) ++ [], ⟨[] ++ p, [], trodAll_append (hargs _ (fun _ _ => rfl)) (hres _ _ _), hvars _, rfl, ?_, ?_⟩, ?_⟩
    · intro b off hx
      have hin : MemPlace.cell b off ∈ p ++ [] := by simpa using hx
      rw [hb.frozen (hlt _ hin)]
      exact hz b off hin
    · intro ha; cases ha
    · intro x hx _
      simpa using hx

set_option maxRecDepth 100000 in
/-- A walk, for every argument that reads as data, is the row's step. -/
theorem law_lift {f : FuncId} {fn : Func} {s : ChangeSpec} {conds : List PathCond} (os : Os) (started : os.Started) (noInit : Try.prog.inits.idxOf? f = none) (hfn : Try.prog.funcs[f]? = some fn) {tb : TypeId}
    (hp : ∀ t ∈ fn.params.toList, Try.prog.readableRec t = true ∧ t < Try.prog.types.size) (hr : fn.resultTypes = #[tb]) (htb : Try.prog.underlying tb = some .bool) (hs0 : s.vars = [])
    (hs : ∀ ds : List (DataW H), ds.length = fn.params.toList.length → (s.fn H ds).results = [.lit (.bool true)] ∧ (s.fn H ds).args = ds ∧ (s.fn H ds).vars = [])
    (witness : ∃ (w : World) (tape : Tape) (i : Input), w.os = os ∧ (w.forCall tape i).Shaped Try.prog ∧ i.vars = [] ∧ Input.okWide Try.prog (w.forCall tape i) .any w.heap.size f i ∧
      s.pre6 enc Try.prog fn conds false (w.forCall tape i).memory i.args ∧ ({} : Assume).holds Try.prog (lone (Frame.enter Try.prog f i.args .normal) [] (w.forCall tape i)))
    (walk : ∀ (W : World) (base : Nat) (vs : List Value) (ds : List (DataW H)) (ps : List MemPlace), (∀ (j : Nat) t v, fn.params[j]? = some t → vs[j]? = some v → Value.okWide Try.prog W .any base t v) → DataW.TrodAll enc Try.prog W 0 (fun _ => true) true fn.params.toList vs ds ps → (∀ x ∈ ps, x.block < W.heap.size) →
      (DataW.weightsEach Try.prog fn.params.toList ds).all (· ≤ reachBytes) = true → Calls Try.prog f vs.toArray W (LawPost W)) :
    ReturnsInHanded {} Try.checked os f .any (s.pre6 enc Try.prog fn conds false) (s.post enc Try.prog fn false true false false) := by
  refine returnsInHanded_of_change_shaped (C := Try.checked) own started noInit hfn witness ?_
  intro W base args ds gs before hval hW hcnd hwt hsh hh
  have hlt : ∀ p ∈ before, p.block < W.heap.size := fun p hp => DataW.Whole.lt hW p hp
  have hW' := hW
  obtain ⟨p, q, hA, hV, rfl, hz, hn⟩ := hW
  rw [hs0] at hV
  obtain ⟨rfl, rfl⟩ := trodVars_none hV
  have hlen : ∀ {ts : List TypeId} {vs : List Value} {ds : List (DataW H)} {ps : List MemPlace}, DataW.TrodAll enc Try.prog W 0 (fun _ => true) true ts vs ds ps → ds.length = ts.length := by
    intro ts
    induction ts with
    | nil => intro vs ds ps h; cases vs <;> cases ds <;> simp [DataW.TrodAll] at h ⊢
    | cons t ts ih =>
      intro vs ds ps h
      cases vs <;> cases ds <;> simp [DataW.TrodAll] at h ⊢
      obtain ⟨_, _, _, hq, _⟩ := h
      exact ih hq
  have hl := hlen hA
  have hvt : DataSpec.varTypes Try.checked.prog s.plain = [] := by
    have : s.plain.vars = [] := hs0
    simp [DataSpec.varTypes, this]
  refine (walk W base args.toList ds p (fun j t v h1 h2 => hval j t v h1 (by simpa using h2)) hA (fun x hx => hlt x (by simpa using hx)) (by rw [hvt, List.append_nil, List.append_nil] at hwt; exact hwt)).mono ?_
  rintro e W' ⟨rfl, hb⟩
  obtain ⟨s1, s2, s3⟩ := hs (ds ++ []) (by simpa using hl)
  exact ⟨_, rfl, law_post hW' hp hr htb hs0 s1 (by simpa using s2) s3 hb⟩
end
end Go.Proofs.Ytmkkeglcjbogcaa
namespace Go.Proofs.Ytmkkeglcjbogcaa
open Go.ChangeShapes Go.WideShapes Go.ChangeAt Go.RowKit Go.Deep
set_option linter.unusedVariables false

section
variable {H : Type} {enc : TypeId × Value → H}

/-- The cells cs read as the datum d of type t. -/
def Rd (enc : TypeId × Value → H) (W : World) (t : TypeId) (cs : List Value) (d : DataW H) : Prop := ∃ fuel ps, DataW.trod enc Try.prog W 0 (fun _ => true) true fuel t cs = some (d, ps)

theorem rd_int {W : World} {t : TypeId} {k : IntKind} {cs : List Value} {d : DataW H} (ht : Try.prog.underlying t = some (.int k)) (h : Rd enc W t cs d) : ∃ n, cs = [.int k n] ∧ (Lit.int k n).wf = true := by
  obtain ⟨fuel, ps, h⟩ := h
  obtain ⟨n, h1, _, h3⟩ := DataW.trod_int ht h
  exact ⟨n, h1, h3⟩

theorem rd_bool {W : World} {t : TypeId} {cs : List Value} {d : DataW H} (ht : Try.prog.underlying t = some .bool) (h : Rd enc W t cs d) : ∃ b, cs = [.bool b] := by
  obtain ⟨fuel, ps, h⟩ := h
  obtain ⟨n, h1, _⟩ := DataW.trod_bool ht h
  exact ⟨n, h1⟩

theorem rd_slice {W : World} {t e : TypeId} {sz : Nat} {cs : List Value} {d : DataW H} (ht : Try.prog.underlying t = some (.slice e)) (hz : Try.prog.cellsOf e = sz) (hz0 : 0 < sz) (h : Rd enc W t cs d) :
    ∃ (A : Option Addr) (n cap : Nat) (D : Nat → DataW H), cs = [.slice A n cap] ∧ n ≤ cap ∧ cap ≤ maxLen ∧ ((n = 0 ∧ cap = 0 ∧ d = .nil) ∨ ∃ sp, d = .slice ((List.range n).map D) sp ∧ sp.length = cap - n) ∧
      (0 < n → ∃ g off, A = some ⟨g, off, none⟩ ∧ g < W.heap.size ∧ ∀ i, i < n → ∃ cs', cs'.length = sz ∧ (∀ j, j < sz → W.cell? ⟨g, off + i * sz + j, none⟩ = cs'[j]?) ∧ Rd enc W e cs' (D i)) := by
  obtain ⟨fuel, ps, h⟩ := h
  rcases open_slice ht h with ⟨rfl, hx⟩ | ⟨a, len, cap, m, n, D, Pl, rfl, hb, hl, hm, hmm, hx, hel⟩
  · simp only [Prod.mk.injEq] at hx
    exact ⟨none, 0, 0, fun _ => .nil, rfl, Nat.le_refl _, Nat.zero_le _, .inl ⟨rfl, rfl, hx.1⟩, fun h => absurd h (by omega)⟩
  · simp only [if_true] at hmm
    subst hmm
    simp only [Prod.mk.injEq] at hx
    refine ⟨some a, len, m, D, rfl, hl, hm, .inr ⟨_, hx.1, by simp⟩, fun h0 => ?_⟩
    have hcell : ∀ i, i < len → ∃ cs', cs'.length = sz ∧ (∀ j, j < sz → W.cell? (a.add (i * sz + j)) = cs'[j]?) ∧ Rd enc W e cs' (D i) := fun i hi => by
      obtain ⟨cs', h1, h2⟩ := hel i (by omega)
      rw [hz] at h1
      obtain ⟨_, h3, h4⟩ := World.cells?_some h1
      exact ⟨cs', h3, fun j hj => by rw [← h4 j hj, add_add], _, _, h2⟩
    obtain ⟨cs0, l0, c0, _⟩ := hcell 0 h0
    have c00 := c0 0 hz0
    obtain ⟨ab, ao, asp⟩ := a
    have hsp : asp = none := by
      have : W.cell? ⟨ab, ao, asp⟩ = cs0[0]? := by simpa [Addr.add] using c00
      rw [List.getElem?_eq_getElem (by omega)] at this
      cases asp with
      | none => rfl
      | some s =>
        unfold World.cell? at this
        split at this <;> simp at this
    subst hsp
    refine ⟨ab, ao, rfl, ?_, fun i hi => ?_⟩
    · rw [List.getElem?_eq_getElem (by omega)] at c00
      have := World.block_lt_of_cell? W _ c00
      simpa [Addr.add] using this
    · obtain ⟨cs', l', c', r'⟩ := hcell i hi
      exact ⟨cs', l', fun j hj => by rw [← c' j hj, add_off, Nat.add_assoc], r'⟩

theorem rd_struct {W : World} {t : TypeId} {fs : Array Field} {cs : List Value} {d : DataW H} (ht : Try.prog.underlying t = some (.struct fs)) (h : Rd enc W t cs d) :
    cs.length = Try.prog.cellsOf t ∧ ∃ ds, d = .agg ds ∧ ds.length = fs.size ∧ ∀ (i : Nat) (f : Field), fs[i]? = some f → ∃ di, ds[i]? = some di ∧ Rd enc W f.type ((cs.drop f.offset).take (Try.prog.cellsOf f.type)) di := by
  obtain ⟨fuel, ps, h⟩ := h
  obtain ⟨xs, n, _, hx, hl, hl2, hf⟩ := DataW.trod_struct ht h
  simp only [Prod.mk.injEq] at hx
  refine ⟨hl, _, hx.1, by simpa using hl2, fun i f hi => ?_⟩
  have := hf i f hi
  have hi' : i < fs.size := (Array.getElem?_eq_some_iff.1 hi).1
  rw [List.getElem?_eq_getElem (by omega)] at this
  exact ⟨(xs[i]'(by omega)).1, by simp [hl2, hi'], n, (xs[i]'(by omega)).2, this⟩

theorem u8_wf {n : Int} (h : (Lit.int .u8 n).wf = true) : 0 ≤ n ∧ n ≤ 255 := by simpa [Lit.wf, IntKind.min, IntKind.max, IntKind.signed, IntKind.bits] using h
theorem u16_wf {n : Int} (h : (Lit.int .u16 n).wf = true) : 0 ≤ n ∧ n ≤ 65535 := by simpa [Lit.wf, IntKind.min, IntKind.max, IntKind.signed, IntKind.bits] using h
theorem u32_wf {n : Int} (h : (Lit.int .u32 n).wf = true) : 0 ≤ n ∧ n ≤ 4294967295 := by simpa [Lit.wf, IntKind.min, IntKind.max, IntKind.signed, IntKind.bits] using h
theorem u64_wf {n : Int} (h : (Lit.int .u64 n).wf = true) : 0 ≤ n ∧ n ≤ 18446744073709551615 := by simpa [Lit.wf, IntKind.min, IntKind.max, IntKind.signed, IntKind.bits] using h
theorem i64_wf {n : Int} (h : (Lit.int .i64 n).wf = true) : -9223372036854775808 ≤ n ∧ n ≤ 9223372036854775807 := by simpa [Lit.wf, IntKind.min, IntKind.max, IntKind.signed, IntKind.bits] using h

/-- From 'for every i < n there is an x' to one list. -/
theorem choose_list {α : Type} {n : Nat} {p : Nat → α → Prop} (h : ∀ i, i < n → ∃ x, p i x) : ∃ l : List α, l.length = n ∧ ∀ i (hi : i < l.length), p i l[i] := by
  induction n with
  | zero => exact ⟨[], rfl, fun i hi => absurd hi (by simp)⟩
  | succ n ih =>
    obtain ⟨l, hl, hp⟩ := ih (fun i hi => h i (by omega))
    obtain ⟨x, hx⟩ := h n (by omega)
    refine ⟨l ++ [x], by simp [hl], fun i hi => ?_⟩
    by_cases hi' : i < l.length
    · rw [List.getElem_append_left hi']; exact hp i hi'
    · have : i = n := by simp at hi; omega
      subst this
      simp only [List.getElem_append, hl, Nat.lt_irrefl, dite_false, Nat.sub_self, List.getElem_cons_zero]
      exact hx

theorem rd_bytes {W : World} {t e : TypeId} {cs : List Value} {d : DataW H} (ht : Try.prog.underlying t = some (.slice e)) (he : Try.prog.underlying e = some (.int .u8)) (hz : Try.prog.cellsOf e = 1) (h : Rd enc W t cs d) :
    ∃ v bs, cs = [v] ∧ BytesAt W v bs ∧ ((bs.length = 0 ∧ d = .nil) ∨ ∃ el sp, d = .slice el sp ∧ el.length = bs.length) := by
  obtain ⟨A, n, cap, D, rfl, h1, h2, hd, hA⟩ := rd_slice ht hz (by decide) h
  obtain ⟨bs, hl, hb⟩ := choose_list (n := n) (p := fun i (b : UInt8) => ∀ g off, A = some ⟨g, off, none⟩ → W.cell? ⟨g, off + i, none⟩ = some (.int .u8 b.toNat)) (fun i hi => by
    obtain ⟨g, off, rfl, _, hc⟩ := hA (by omega)
    obtain ⟨cs', l', c', r'⟩ := hc i hi
    obtain ⟨m, rfl, hw⟩ := rd_int he r'
    have hw := u8_wf hw
    refine ⟨UInt8.ofNat m.toNat, fun g2 off2 e2 => ?_⟩
    cases e2
    have := c' 0 (by decide)
    simp only [Nat.mul_one, Nat.add_zero] at this
    rw [this]
    simp only [List.getElem?_cons_zero, Option.some.injEq, Value.int.injEq, true_and]
    have hm : (UInt8.ofNat m.toNat).toNat = m.toNat := UInt8.toNat_ofNat_of_lt' (by simp only [UInt8.size]; omega)
    rw [hm]
    omega)
  subst hl
  refine ⟨_, bs, rfl, ⟨A, cap, rfl, h1, h2, fun h0 => ?_⟩, ?_⟩
  · obtain ⟨g, off, rfl, _, _⟩ := hA h0
    refine ⟨g, off, rfl, fun i hi => ?_⟩
    have := hb i hi g off rfl
    rw [this]
    simp [hi]
  · rcases hd with ⟨h0, _, hd⟩ | ⟨sp, hd, _⟩
    · exact .inl ⟨h0, hd⟩
    · exact .inr ⟨_, sp, hd, by simp⟩

set_option maxRecDepth 100000 in
theorem arg_slice {W : World} {base : Nat} {t e : TypeId} {v : Value} {d : DataW H} {ps : List MemPlace} (ht : Try.prog.underlying t = some (.slice e)) (hval : Value.okWide Try.prog W .any base t v) (h : DataW.Trod enc Try.prog W 0 (fun _ => true) true t v d ps) : Rd enc W t [v] d := by
  obtain ⟨a, len, cap, rfl⟩ := okWide_slice ht hval
  obtain ⟨fuel, hf⟩ := h
  exact ⟨fuel, ps, hf⟩
end
end Go.Proofs.Ytmkkeglcjbogcaa
namespace Go.Proofs.Ytmkkeglcjbogcaa
open Go.ChangeShapes Go.WideShapes Go.ChangeAt Go.RowKit Go.Deep
set_option linter.unusedVariables false

section
variable {H : Type} {enc : TypeId × Value → H}

theorem rd_sl {α : Type} {encα : α → List Value} {sz : Nat} {W : World} {t e : TypeId} {cs : List Value} {d : DataW H} (good : α → Prop) (ht : Try.prog.underlying t = some (.slice e)) (hz : Try.prog.cellsOf e = sz) (hz0 : 0 < sz)
    (hel : ∀ cs d, Rd enc W e cs d → ∃ x, cs = encα x ∧ good x) (h : Rd enc W t cs d) :
    ∃ v xs, cs = [v] ∧ SlAt encα sz W v xs ∧ (∀ x ∈ xs, good x) ∧ (xs.length = 0 ∨ ∃ el sp, d = .slice el sp ∧ el.length = xs.length) := by
  obtain ⟨A, n, cap, D, rfl, h1, h2, hd, hA⟩ := rd_slice ht hz hz0 h
  obtain ⟨xs, hl, hx⟩ := choose_list (n := n) (p := fun i (x : α) => good x ∧ ∀ g off, A = some ⟨g, off, none⟩ → ∀ j, j < sz → W.cell? ⟨g, off + i * sz + j, none⟩ = (encα x)[j]?) (fun i hi => by
    obtain ⟨g, off, rfl, _, hc⟩ := hA (by omega)
    obtain ⟨cs', l', c', r'⟩ := hc i hi
    obtain ⟨x, rfl, hg⟩ := hel _ _ r'
    exact ⟨x, hg, fun g2 off2 e2 => by cases e2; exact c'⟩)
  subst hl
  refine ⟨_, xs, rfl, ⟨A, cap, rfl, h1, h2, fun h0 => ?_⟩, fun x hx' => ?_, ?_⟩
  · obtain ⟨g, off, rfl, hg, _⟩ := hA h0
    exact ⟨g, off, rfl, hg, fun i hi j hj => (hx i hi).2 g off rfl j hj⟩
  · obtain ⟨i, hi, rfl⟩ := List.getElem_of_mem hx'
    exact (hx i hi).1
  · rcases hd with ⟨h0, _, hd⟩ | ⟨sp, hd, _⟩
    · exact .inl h0
    · exact .inr ⟨_, sp, hd, by simp⟩

set_option maxRecDepth 100000 in
theorem sl_bound {ts : List TypeId} {ds : List (DataW H)} {j : Nat} {t e : TypeId} {d : DataW H} {n b : Nat} (hw : (DataW.weightsEach Try.prog ts ds).all (· ≤ reachBytes) = true) (ht : ts[j]? = some t) (hd : ds[j]? = some d) (hu : Try.prog.underlying t = some (.slice e)) (hb : Try.prog.bytesOf e = b)
    (h : n = 0 ∨ ∃ el sp, d = .slice el sp ∧ el.length = n) : n * b ≤ 140737488351232 := by
  rcases h with h | ⟨el, sp, rfl, h⟩
  · subst h; omega
  · have := sized_slice hw ht hd hu
    rw [hb] at this
    have hr : reachBytes = 140737488351232 := rfl
    have h2 : n * b ≤ (el.length + sp.length) * b := Nat.mul_le_mul_right _ (by omega)
    omega

set_option maxRecDepth 100000 in
/-- A struct of three fields, one cell each. -/
theorem rd_struct3 {W : World} {t : TypeId} {f0 f1 f2 : Field} {cs : List Value} {d : DataW H} (ht : Try.prog.underlying t = some (.struct #[f0, f1, f2])) (hz : Try.prog.cellsOf t = 3) (z0 : f0.offset = 0) (z1 : f1.offset = 1) (z2 : f2.offset = 2)
    (y0 : Try.prog.cellsOf f0.type = 1) (y1 : Try.prog.cellsOf f1.type = 1) (y2 : Try.prog.cellsOf f2.type = 1) (h : Rd enc W t cs d) :
    ∃ c0 c1 c2 d0 d1 d2, cs = [c0, c1, c2] ∧ Rd enc W f0.type [c0] d0 ∧ Rd enc W f1.type [c1] d1 ∧ Rd enc W f2.type [c2] d2 := by
  obtain ⟨hl, ds, _, _, hf⟩ := rd_struct ht h
  rw [hz] at hl
  match cs, hl with
  | [c0, c1, c2], _ =>
    obtain ⟨d0, _, r0⟩ := hf 0 f0 rfl
    obtain ⟨d1, _, r1⟩ := hf 1 f1 rfl
    obtain ⟨d2, _, r2⟩ := hf 2 f2 rfl
    rw [z0, y0] at r0
    rw [z1, y1] at r1
    rw [z2, y2] at r2
    exact ⟨c0, c1, c2, d0, d1, d2, rfl, r0, r1, r2⟩
end
end Go.Proofs.Ytmkkeglcjbogcaa
namespace Go.Proofs.Ytmkkeglcjbogcaa
open Go.ChangeShapes Go.WideShapes Go.ChangeAt Go.RowKit Go.Deep
set_option linter.unusedVariables false
set_option maxRecDepth 100000

section
variable {H : Type} {enc : TypeId × Value → H}

/-- Each string, slice and map in the datum is within the form's reach. -/
def Sz (t : TypeId) (d : DataW H) : Prop := ∀ n ∈ DataW.weights Try.prog t d, n ≤ reachBytes

theorem sz_arg {ts : List TypeId} {ds : List (DataW H)} {j : Nat} {t : TypeId} {d : DataW H} (hw : (DataW.weightsEach Try.prog ts ds).all (· ≤ reachBytes) = true) (ht : ts[j]? = some t) (hd : ds[j]? = some d) : Sz t d := fun n hn => by
  have := List.all_eq_true.1 hw _ (DataW.weights_mem_each ht hd n hn)
  simpa using this

theorem sz_all {e : TypeId} {l : List (DataW H)} (h : ∀ n ∈ DataW.weightsAll Try.prog e l, n ≤ reachBytes) : ∀ x ∈ l, Sz e x := by
  induction l with
  | nil => intro x hx; cases hx
  | cons y r ih =>
    intro x hx
    simp only [DataW.weightsAll, List.mem_append] at h
    rcases List.mem_cons.1 hx with rfl | hx
    · exact fun n hn => h n (.inl hn)
    · exact ih (fun n hn => h n (.inr hn)) x hx

theorem sz_slice {t e : TypeId} {el sp : List (DataW H)} (hu : Try.prog.underlying t = some (.slice e)) (h : Sz t (.slice el sp)) : (el.length + sp.length) * Try.prog.bytesOf e ≤ 140737488351232 ∧ ∀ x ∈ el, Sz e x := by
  have hr : reachBytes = 140737488351232 := rfl
  unfold Sz at h
  simp only [DataW.weights, hu, List.mem_cons, List.mem_append] at h
  exact ⟨by rw [← hr]; exact h _ (.inl rfl), sz_all (fun n hn => h n (.inr (.inl hn)))⟩

theorem sz_string {t : TypeId} {b : List UInt8} (h : Sz (H := H) t (.lit (.string b))) : b.length ≤ 140737488351232 := by
  have hr : reachBytes = 140737488351232 := rfl
  unfold Sz at h
  simp only [DataW.weights, List.mem_cons, List.not_mem_nil, or_false] at h
  rw [← hr]; exact h _ rfl

theorem sz_each {ts : List TypeId} {ds : List (DataW H)} (h : ∀ n ∈ DataW.weightsEach Try.prog ts ds, n ≤ reachBytes) {j : Nat} {t : TypeId} {d : DataW H} (ht : ts[j]? = some t) (hd : ds[j]? = some d) : Sz t d :=
  fun n hn => h n (DataW.weights_mem_each ht hd n hn)

theorem sz_struct {t : TypeId} {fs : Array Field} {ds : List (DataW H)} (hu : Try.prog.underlying t = some (.struct fs)) (h : Sz t (.agg ds)) {i : Nat} {f : Field} {di : DataW H} (hf : fs[i]? = some f) (hd : ds[i]? = some di) : Sz f.type di := by
  unfold Sz at h
  simp only [DataW.weights, hu] at h
  exact sz_each h (j := i) (by simp [hf]) hd

theorem rd_slS {α : Type} {encα : α → List Value} {sz : Nat} {W : World} {t e : TypeId} {cs : List Value} {d : DataW H} (good : α → Prop) (ht : Try.prog.underlying t = some (.slice e)) (hz : Try.prog.cellsOf e = sz) (hz0 : 0 < sz)
    (hel : ∀ cs d, Rd enc W e cs d → Sz e d → ∃ x, cs = encα x ∧ good x) (h : Rd enc W t cs d) (hs : Sz t d) :
    ∃ v xs, cs = [v] ∧ SlAt encα sz W v xs ∧ (∀ x ∈ xs, good x) ∧ xs.length * Try.prog.bytesOf e ≤ 140737488351232 := by
  obtain ⟨A, n, cap, D, rfl, h1, h2, hd, hA⟩ := rd_slice ht hz hz0 h
  have hsz : n * Try.prog.bytesOf e ≤ 140737488351232 ∧ ∀ i, i < n → Sz e (D i) := by
    rcases hd with ⟨h0, _, hd⟩ | ⟨sp, hd, _⟩
    · subst h0; exact ⟨by omega, fun i hi => absurd hi (by omega)⟩
    · subst hd
      obtain ⟨h3, h4⟩ := sz_slice ht hs
      refine ⟨Nat.le_trans (Nat.mul_le_mul_right _ (by simp)) h3, fun i hi => h4 _ (List.mem_map_of_mem (List.mem_range.2 hi))⟩
  obtain ⟨xs, hl, hx⟩ := choose_list (n := n) (p := fun i (x : α) => good x ∧ ∀ g off, A = some ⟨g, off, none⟩ → ∀ j, j < sz → W.cell? ⟨g, off + i * sz + j, none⟩ = (encα x)[j]?) (fun i hi => by
    obtain ⟨g, off, rfl, _, hc⟩ := hA (by omega)
    obtain ⟨cs', l', c', r'⟩ := hc i hi
    obtain ⟨x, rfl, hg⟩ := hel _ _ r' (hsz.2 i hi)
    exact ⟨x, hg, fun g2 off2 e2 => by cases e2; exact c'⟩)
  subst hl
  refine ⟨_, xs, rfl, ⟨A, cap, rfl, h1, h2, fun h0 => ?_⟩, fun x hx' => ?_, hsz.1⟩
  · obtain ⟨g, off, rfl, hg, _⟩ := hA h0
    exact ⟨g, off, rfl, hg, fun i hi j hj => (hx i hi).2 g off rfl j hj⟩
  · obtain ⟨i, hi, rfl⟩ := List.getElem_of_mem hx'
    exact (hx i hi).1

theorem rd_bytesS {W : World} {t e : TypeId} {cs : List Value} {d : DataW H} (ht : Try.prog.underlying t = some (.slice e)) (he : Try.prog.underlying e = some (.int .u8)) (hz : Try.prog.cellsOf e = 1) (hb : Try.prog.bytesOf e = 1) (h : Rd enc W t cs d) (hs : Sz t d) :
    ∃ v bs, cs = [v] ∧ BytesAt W v bs ∧ bs.length ≤ 140737488351232 := by
  obtain ⟨v, bs, rfl, hB, hd⟩ := rd_bytes ht he hz h
  refine ⟨v, bs, rfl, hB, ?_⟩
  rcases hd with ⟨h0, _⟩ | ⟨el, sp, rfl, hl⟩
  · omega
  · have := (sz_slice ht hs).1
    rw [hb] at this
    omega

/-- A struct of three fields, one cell each. -/
theorem rd_struct3S {W : World} {t : TypeId} {f0 f1 f2 : Field} {cs : List Value} {d : DataW H} (ht : Try.prog.underlying t = some (.struct #[f0, f1, f2])) (hz : Try.prog.cellsOf t = 3) (z0 : f0.offset = 0) (z1 : f1.offset = 1) (z2 : f2.offset = 2)
    (y0 : Try.prog.cellsOf f0.type = 1) (y1 : Try.prog.cellsOf f1.type = 1) (y2 : Try.prog.cellsOf f2.type = 1) (h : Rd enc W t cs d) (hs : Sz t d) :
    ∃ c0 c1 c2 d0 d1 d2, cs = [c0, c1, c2] ∧ Rd enc W f0.type [c0] d0 ∧ Rd enc W f1.type [c1] d1 ∧ Rd enc W f2.type [c2] d2 ∧ Sz f0.type d0 ∧ Sz f1.type d1 ∧ Sz f2.type d2 := by
  obtain ⟨hl, ds, rfl, _, hf⟩ := rd_struct ht h
  rw [hz] at hl
  match cs, hl with
  | [c0, c1, c2], _ =>
    obtain ⟨d0, g0, r0⟩ := hf 0 f0 rfl
    obtain ⟨d1, g1, r1⟩ := hf 1 f1 rfl
    obtain ⟨d2, g2, r2⟩ := hf 2 f2 rfl
    rw [z0, y0] at r0
    rw [z1, y1] at r1
    rw [z2, y2] at r2
    exact ⟨c0, c1, c2, d0, d1, d2, rfl, r0, r1, r2, sz_struct ht hs (i := 0) rfl g0, sz_struct ht hs (i := 1) rfl g1, sz_struct ht hs (i := 2) rfl g2⟩

/-- A struct of two fields, one cell each. -/
theorem rd_struct2S {W : World} {t : TypeId} {f0 f1 : Field} {cs : List Value} {d : DataW H} (ht : Try.prog.underlying t = some (.struct #[f0, f1])) (hz : Try.prog.cellsOf t = 2) (z0 : f0.offset = 0) (z1 : f1.offset = 1)
    (y0 : Try.prog.cellsOf f0.type = 1) (y1 : Try.prog.cellsOf f1.type = 1) (h : Rd enc W t cs d) (hs : Sz t d) :
    ∃ c0 c1 d0 d1, cs = [c0, c1] ∧ Rd enc W f0.type [c0] d0 ∧ Rd enc W f1.type [c1] d1 ∧ Sz f0.type d0 ∧ Sz f1.type d1 := by
  obtain ⟨hl, ds, rfl, _, hf⟩ := rd_struct ht h
  rw [hz] at hl
  match cs, hl with
  | [c0, c1], _ =>
    obtain ⟨d0, g0, r0⟩ := hf 0 f0 rfl
    obtain ⟨d1, g1, r1⟩ := hf 1 f1 rfl
    rw [z0, y0] at r0
    rw [z1, y1] at r1
    exact ⟨c0, c1, d0, d1, rfl, r0, r1, sz_struct ht hs (i := 0) rfl g0, sz_struct ht hs (i := 1) rfl g1⟩
end
end Go.Proofs.Ytmkkeglcjbogcaa
namespace Go.Proofs.Ytmkkeglcjbogcaa
open Go.ChangeShapes Go.WideShapes Go.ChangeAt Go.RowKit Go.Deep
set_option linter.unusedVariables false
set_option maxRecDepth 100000

section
variable {H : Type} {enc : TypeId × Value → H}

theorem fldS {W : World} {t : TypeId} {fs : Array Field} {cs : List Value} {d : DataW H} (ht : Try.prog.underlying t = some (.struct fs)) (h : Rd enc W t cs d) (hs : Sz t d) {i off n : Nat} {f : Field} (hf : fs[i]? = some f) (ho : f.offset = off) (hn : Try.prog.cellsOf f.type = n) :
    ∃ di, Rd enc W f.type ((cs.drop off).take n) di ∧ Sz f.type di := by
  obtain ⟨_, ds, rfl, _, hall⟩ := rd_struct ht h
  obtain ⟨di, hdi, r⟩ := hall i f hf
  subst ho hn
  exact ⟨di, r, sz_struct ht hs hf hdi⟩
theorem rd_item {W : World} (cs : List Value) (d : DataW H) (h : Rd enc W 121 cs d) (hs : Sz 121 d) : ∃ x, cs = encIt x ∧ BytesAt W x.2.2.1 x.2.2.2 ∧ Rng (bare x) ∧ x.2.2.2.length ≤ 140737488351232 := by
  obtain ⟨hl, _⟩ := rd_struct Try.underlying121 h
  have h3 : Try.prog.cellsOf 121 = 3 := by kernel_rfl
  rw [h3] at hl
  obtain ⟨d0, r0, _⟩ := fldS Try.underlying121 h hs (i := 0) (off := 0) (n := 1) rfl rfl (by kernel_rfl)
  obtain ⟨d1, r1, _⟩ := fldS Try.underlying121 h hs (i := 1) (off := 1) (n := 1) rfl rfl (by kernel_rfl)
  obtain ⟨d2, r2, s2⟩ := fldS Try.underlying121 h hs (i := 2) (off := 2) (n := 1) rfl rfl (by kernel_rfl)
  match cs, hl with
  | [c0, c1, c2], _ =>
    obtain ⟨a, ha, wa⟩ := rd_int Try.underlying69 r0
    obtain ⟨b, hb, wb⟩ := rd_int Try.underlying5 r1
    obtain ⟨v, bs, hv, hB, hl⟩ := rd_bytesS Try.underlying22 Try.underlying5 (by kernel_rfl) (by kernel_rfl) r2 s2
    simp at ha hb hv
    have h16 := u16_wf wa
    have h8 := u8_wf wb
    exact ⟨(a, b, v, bs), by rw [ha, hb, hv]; rfl, hB, ⟨h16.1, h16.2, h8.1, h8.2⟩, hl⟩

theorem rd_items {W : World} {c : Value} {d : DataW H} (h : Rd enc W 23 [c] d) (hs : Sz 23 d) : ∃ ys, ItemsAt W c ys ∧ (∀ y ∈ ys, Rng (bare y)) ∧ ys.length * 32 ≤ 140737488351232 ∧ ∀ y ∈ ys, y.2.2.2.length ≤ 140737488351232 := by
  obtain ⟨v, ys, hv, hsl, hg, hl⟩ := rd_slS (encα := encIt) (sz := 3) (fun x => BytesAt W x.2.2.1 x.2.2.2 ∧ Rng (bare x) ∧ x.2.2.2.length ≤ 140737488351232) Try.underlying23 (by kernel_rfl) (by decide) rd_item h hs
  obtain rfl : c = v := by simpa using hv
  have hb : Try.prog.bytesOf 121 = 32 := by kernel_rfl
  rw [hb] at hl
  exact ⟨ys, ⟨hsl, fun x hx => (hg x hx).1⟩, fun y hy => (hg y hy).2.1, hl, fun y hy => (hg y hy).2.2⟩
end
end Go.Proofs.Ytmkkeglcjbogcaa
