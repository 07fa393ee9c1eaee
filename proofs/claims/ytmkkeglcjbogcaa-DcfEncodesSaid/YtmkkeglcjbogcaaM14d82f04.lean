/-
  DcfEncodes: the law. From a walk to a law's row: the arguments, opened; the row, closed. The arguments of a law, opened: what lies in memory where the form reads a datum. Slices of structs, opened. Slices of structs that hold slices, opened, with the form's own reach. What items read as.
-/
import Derived.IntWalk
import Derived.Test.YtmkkeglcjbogcaaRows
import Derived.HandedShaped
import Derived.Deep.CondSized
import Derived.JoinedCond
import Derived.Deep.Slices
import Derived.Test.YtmkkeglcjbogcaaM11076ade
import Derived.Test.YtmkkeglcjbogcaaM26eb4b05
import Derived.Test.YtmkkeglcjbogcaaMf3fe10c2
import Derived.Test.YtmkkeglcjbogcaaMd99ed25a
import Derived.Test.YtmkkeglcjbogcaaM2a984ab5
set_option linter.unusedVariables false
set_option linter.unusedSimpArgs false
namespace Go.Proofs.Ytmkkeglcjbogcaa
open Go.RowKit
open List (getElem_toArray getElem_cons_zero getElem_cons_succ setIfInBounds_toArray set_cons_zero set_cons_succ)
set_option linter.unusedVariables false
set_option linter.unusedSimpArgs false

-- The law's regions (r1's listing): R1 Own (op 1), Encode (op 2); R2 the document's Encode; R3 the strings and the codes compared (conv_bytes as in DcfS; two nil slices where both refuse);
-- R5 Own, Last; R6, R7: n (slot 8), i (slot 9); R8 the test (guarded len < 2000); R10 Again; R11 (DRAWS) n >= len(m), the two slices of one item, Same; R13 n + 1; R14 the code: lives; R16 Decode; R17 Same, the code, n == len(m), lives.
-- Loop: slots [8, 9]: n = cntQ (naQ is) k, i = k, Frm. A round where Again is false: lastR_look gives (lastR is)[n] = is[k], so n < len(m); ItemsAt.one of both, same_items.
-- End: by cases on 1024 < len ∨ an item too long (both refuse, code 2: lives) or not (dec_encOf: Decode gives the items back; n = cntQ (naQ is) len = (lastR is).length by lastR_cnt).

/-- Items of one's own: as they were. -/
theorem own_factsE {is ys : List Itm} (h : ys.map bare = is.map bare) (hr : ∀ x ∈ is, Rng (bare x)) (hb : ∀ x ∈ is, x.2.2.2.length ≤ 140737488351232) : ys.length = is.length ∧ (∀ y ∈ ys, Rng (bare y)) ∧ ∀ y ∈ ys, y.2.2.2.length ≤ 140737488351232 := by
  have hm : ∀ y ∈ ys, ∃ x ∈ is, bare x = bare y := fun y hy => by
    have : bare y ∈ is.map bare := by rw [← h]; exact List.mem_map_of_mem hy
    exact List.mem_map.1 this
  refine ⟨by have := congrArg List.length h; simpa using this, fun y hy => ?_, fun y hy => ?_⟩
  · obtain ⟨x, hx, e⟩ := hm y hy
    rw [← e]; exact hr x hx
  · obtain ⟨x, hx, e⟩ := hm y hy
    have e2 : x.2.2.2 = y.2.2.2 := congrArg (fun z => z.2.2) e
    rw [← e2]; exact hb x hx
/-- Items that are not written: too many, or one too long. -/
def badE (l : List It) : Bool := decide (1024 < l.length) || l.any fun x => decide (65536 < x.2.2.length)
def codeE (l : List It) : Int := if badE l then 2 else 0
def bytesE (l : List It) : List UInt8 := if badE l then [] else encOf l
theorem badE_yes {xs : List Itm} (h : badE (xs.map bare) = true) : 1024 < xs.length ∨ ∃ x ∈ xs, 65536 < x.2.2.2.length := by
  unfold badE at h
  rw [Bool.or_eq_true, decide_eq_true_eq, List.length_map, List.any_eq_true] at h
  rcases h with h | ⟨y, hy, h⟩
  · exact .inl h
  · obtain ⟨x, hx, rfl⟩ := List.mem_map.1 hy
    exact .inr ⟨x, hx, of_decide_eq_true h⟩
theorem badE_no {xs : List Itm} (h : badE (xs.map bare) = false) : xs.length ≤ 1024 ∧ ∀ x ∈ xs, x.2.2.2.length ≤ 65536 := by
  unfold badE at h
  rw [Bool.or_eq_false_iff, decide_eq_false_iff_not, List.length_map, List.any_eq_false] at h
  exact ⟨by omega, fun x hx => by have h3 := h.2 _ (List.mem_map_of_mem hx); simp only [bare, Bool.not_eq_true] at h3; exact Nat.not_lt.1 (of_decide_eq_false h3)⟩
def EncAny (l : List It) (w : World) (e : Ending) (w' : World) : Prop := Frm (fun _ => False) w w' ∧ ∃ v, e = .returned (.tuple #[v, .int .i64 (codeE l)]) ∧ BytesAt w' v (bytesE l)
theorem bytes_nil (w : World) : BytesAt w (.slice none 0 0) [] := ⟨none, 0, rfl, Nat.le_refl _, by unfold maxLen; omega, fun h => absurd h (by simp)⟩
theorem enc_bad {l : List It} {w w' : World} {e : Ending} (hb : badE l = true) (h : EncBad w e w') : EncAny l w e w' := ⟨h.1, _, by rw [codeE, if_pos hb]; exact h.2, by rw [bytesE, if_pos hb]; exact bytes_nil _⟩
theorem enc_ok {l : List It} {w w' : World} {e : Ending} (hb : badE l = false) (h : EncOk (encOf l) w e w') : EncAny l w e w' := by
  obtain ⟨h1, v, h2, h3⟩ := h
  exact ⟨h1, v, by rw [codeE, hb]; exact h2, by rw [bytesE, hb]; exact BytesAt.of_row h3⟩
theorem enc_both (v : Value) (xs : List Itm) (w : World) (h : ItemsAt w v xs) (hr : ∀ x ∈ xs, Rng (bare x)) : Calls Try.prog 18 #[v] w (EncAny (xs.map bare) w) := by
  by_cases hb : badE (xs.map bare) = true
  · exact (encode_long v xs w h (badE_yes hb)).mono fun e w' => enc_bad hb
  · have hb := Bool.eq_false_iff.2 hb
    have h2 := badE_no hb
    exact (encode_any v xs w h h2.1 h2.2 hr).mono fun e w' => enc_ok hb
theorem renc_both (v : Value) (xs : List Itm) (w : World) (h : ItemsAt w v xs) (hr : ∀ x ∈ xs, Rng (bare x)) : Calls Try.prog 28 #[v] w (EncAny (xs.map bare) w) := by
  by_cases hb : badE (xs.map bare) = true
  · by_cases h1 : 1024 < xs.length
    · exact (rencode_long1 v xs w h h1).mono fun e w' => enc_bad hb
    · exact (rencode_any v xs w h (by omega) hr).mono fun e w' hp => enc_bad hb (hp.1 ((badE_yes hb).resolve_left h1))
  · have hb := Bool.eq_false_iff.2 hb
    have h2 := badE_no hb
    exact (rencode_any v xs w h h2.1 hr).mono fun e w' hp => enc_ok hb (hp.2 h2.2)
theorem size_ItemE (w : World) : (Go.sizeOf 121).run Try.prog w = .ok 3 w := by
  have h : (Try.prog.info? 121).map (·.size) = some 3 := by kernel_rfl
  obtain ⟨i, hi, h1⟩ := Option.map_eq_some_iff.1 h
  simp [Go.sizeOf, typeInfo, hi, h1]
theorem items_one {W0 : World} {A : Option Addr} {is : List Itm} {cap : Nat} (h : ItemsAt W0 (.slice A is.length cap) is) (k : Nat) (hk : k < is.length) :
    ∃ A1, (∀ W, (Instr.slice 23 (.slice A is.length cap) (some (.int .i64 (k : Int))) (some (.int .i64 ((k : Int) + 1))) none).run Try.prog W = .ok (.slice A1 1 (cap - k)) W) ∧ ItemsAt W0 (.slice A1 1 (cap - k)) [is[k]] := by
  have ht : Try.prog.underlying 23 = some (.slice (Try.prog.elem 23)) := by kernel_rfl
  have he : Try.prog.elem 23 = 121 := by kernel_rfl
  have h' := h
  obtain ⟨⟨A', cap', e, h1, h2, h3⟩, h4⟩ := h
  simp only [Value.slice.injEq] at e
  obtain ⟨rfl, -, rfl⟩ := e
  obtain ⟨g, off, rfl, _, _⟩ := h3 (by omega)
  refine ⟨some ⟨g, off + k * 3, none⟩, fun W => ?_, h'.one k hk⟩
  rw [run_slice_lh W 23 _ _ _ ht .i64 .i64 _ _ (by omega) (by omega) (by omega), he, size_ItemE]
  have e1 : ((k : Int) + 1).toNat = k + 1 := by omega
  have e0 : ((k : Int)).toNat = k := by omega
  simp only [Result.andThen, sliced, e1, e0]
  rw [if_neg (by omega)]
  have e2 : k + 1 - k = 1 := by omega
  simp only [Option.map_some, e2, Addr.add]
  by_cases h1 : k = 0
  · simp [h1]
  · have h2 : k * 3 ≠ 0 := by omega
    simp [h2]
theorem last_head (ms : List Itm) (is : List Itm) (h : ms.map bare = (lastR is).map bare) (k : Nat) (hk : k < is.length) (hq : naQ is k = true) :
    ∃ hc : cntQ (naQ is) k < ms.length, [ms[cntQ (naQ is) k]].map bare = [is[k]].map bare := by
  have h1 := lastR_look is k hk hq
  have h2 := congrArg (fun l => l[cntQ (naQ is) k]?) h
  simp only [List.getElem?_map, h1, Option.map_some] at h2
  rcases Nat.lt_or_ge (cntQ (naQ is) k) ms.length with hc | hc
  · refine ⟨hc, ?_⟩
    rw [List.getElem?_eq_getElem hc] at h2
    simpa using h2
  · rw [List.getElem?_eq_none hc] at h2
    simp at h2
theorem own_lenE {xs ys : List Itm} (h : ys.map bare = xs.map bare) : ys.length = xs.length := by have := congrArg List.length h; simpa using this
set_option maxRecDepth 100000 in
set_option maxHeartbeats 4000000 in
theorem dencodes_any (v0 : Value) (is : List Itm) (W : World) (h1 : ItemsAt W v0 is) (hl : is.length * 32 ≤ 140737488351232) (hr : ∀ x ∈ is, Rng (bare x)) (hb : ∀ x ∈ is, x.2.2.2.length ≤ 140737488351232) :
    Calls Try.prog 7 #[v0] W fun e w' => e = .returned (.bool true) ∧ Frm (fun _ => False) W w' := by
  have H1 := Lib.hid h1
  have h1s := h1.1
  obtain ⟨⟨A, cap, rfl, hc1, hc2, hcell⟩, _⟩ := h1
  have HS1 := Lib.hid h1s
  have HLV := Lib.hid (fun W => livesD_any W)
  unfold LivesD at HLV
  have HR := Lib.hid hr
  have HBL := Lib.hid hb
  have HLEN := Lib.hid hl
  have hm : is.length ≤ 9223372036854775807 := Nat.le_trans hc1 hc2
  obtain ⟨l, hlq⟩ : ∃ l, l = is.map bare := ⟨_, rfl⟩
  have HLQ := Lib.hid hlq
  clear hr hb hl hc1 hc2 hcell h1s hlq
  go_enter Try.func7, Try.ntmps7
  go_wp2_with fail
  refine (own_any _ is W H1.out HLEN.out HBL.out).mono ?_
  rintro e w1 ⟨hF1, v1, ys, rfl, hy, hI1⟩
  have hE := enc_both v1 ys w1 hI1.at_ (own_factsE hy HR.out HBL.out).2.1
  rw [hy, ← HLQ.out] at hE
  have HE := Lib.hid hE
  have HF1 := Lib.hid hF1
  clear hE hI1 hF1 hy
  go_wp2_with fail
  refine HE.out.mono ?_
  rintro e w2 ⟨hF2, vb, rfl, hB2⟩
  have hRE := renc_both _ is w2 (H1.out.frm (HF1.out.trans' hF2)) HR.out
  rw [← HLQ.out] at hRE
  have HRE := Lib.hid hRE
  have HF2 := Lib.hid (HF1.out.trans' hF2)
  have HB2 := Lib.hid hB2
  clear hRE hF2 hB2 HE
  go_wp2_with fail
  refine HRE.out.mono ?_
  rintro e w3 ⟨hF3, vc, rfl, hB3⟩
  have hc1 := conv_bytes (HB2.out.grow hF3)
  have hc2 := conv_bytes hB3
  have HB3 := Lib.hid (HB2.out.grow hF3)
  have HF3 := Lib.hid (HF2.out.trans' hF3)
  have HCV : Hid (∃ q, q = strB (bytesE l)) := ⟨_, rfl⟩
  clear hF3 hB3 HRE HF1 HF2 HB2
  generalize strB (bytesE l) = sb at hc1 hc2
  obtain ⟨ce, hce⟩ : ∃ ce, ce = codeE l := ⟨_, rfl⟩
  have HCE := Lib.hid hce
  rw [← hce]
  clear hce HCV
  go_wp2_with fail
  refine (own_any _ is w3 (H1.out.frm HF3.out) HLEN.out HBL.out).mono ?_
  rintro e w4 ⟨hF4, v4, zs, rfl, hz, hI4⟩
  have hzl := own_lenE hz
  have hLA := lastI_any v4 zs _ w4 hI4 (own_factsE hz HR.out HBL.out).2.1 (by have := HLEN.out; omega) (own_factsE hz HR.out HBL.out).2.2
  have HLA := Lib.hid hLA
  have HF4 := Lib.hid (HF3.out.trans' hF4)
  have HB4 := Lib.hid (HB3.out.grow hF4)
  have hzR := lastR_same hz
  have HZR := Lib.hid hzR
  clear hLA hI4 hF4 hc1 hc2 HF3 HB3 hzl hz hzR
  go_wp2_with fail
  unfold OwnPost at HLA
  refine HLA.out.mono ?_
  rintro e w5 ⟨hF5, v5, ms, rfl, hms, hI5⟩
  have HMS := Lib.hid (hms.trans HZR.out)
  obtain ⟨A5, c5, rfl, hc5, hm5, _⟩ := row_open hI5.1
  have HI5 := Lib.hid hI5.at_
  have HF5 := Lib.hid (HF4.out.trans' hF5)
  have HB5 := Lib.hid (HB4.out.grow hF5)
  have hml : ms.length ≤ 9223372036854775807 := Nat.le_trans hc5 hm5
  have HCNT : Hid (cntQ (naQ is) is.length = ms.length) := by
    unfold Hid
    rw [← lastR_cnt, own_lenE (ys := ms) (xs := lastR is) HMS.out]
  clear hms hI5 hF5 HF4 HB4 HLA HZR hc5 hm5
  go_wp2_with fail
  go_loopw [8, 9] (fun nv i wr => ∃ k : Nat, k ≤ is.length ∧ i = .int .i64 k ∧ nv = .int .i64 (cntQ (naQ is) k : Nat) ∧ Frm (fun _ => False) w5 wr) (fun _ i _ => is.length - (intOf i).toNat)
  case atStart => exact ⟨0, Nat.zero_le _, rfl, rfl, Frm.refl _ _⟩
  case round =>
    obtain ⟨k, hk, rfl, rfl, hF⟩ := hrel
    have HF := Lib.hid hF
    have HNC := cntQ_le (naQ is) k
    by_cases hlt : k < is.length
    · by_cases h2k : is.length < 2000
      · have hag := again_any (.slice A is.length cap) is k wr (SlAt.frm encIt_len HS1.out (HF5.out.trans' hF)) hlt
        have hq0 := naQ_at is k hlt
        have HSUC := Lib.hid (cntQ_succ (naQ is) k)
        have HLH := Lib.hid (last_head ms is HMS.out k hlt)
        have HI0 := Lib.hid (items_one ((H1.out.frm (HF5.out.trans' hF))) k hlt)
        have HIM := Lib.hid (fun (n : Nat) (hn : n < ms.length) => items_one (HI5.out.frm hF) n hn)
        obtain ⟨q, hq⟩ : ∃ q, q = naQ is k := ⟨_, rfl⟩
        rw [← hq] at hq0 HSUC HLH
        have hag0 : agI is[k] (is.drop (k + 1)) = !q := by rw [hq0, Bool.not_not]
        rw [hag0] at hag
        have HAG := Lib.hid hag
        have HKL : Hid (k + 1 ≤ is.length) := hlt
        have hkl : (k : Int) < (is.length : Int) := by omega
        clear hq hq0 hag0 hF hag
        cases q with
        | false =>
          have HNX : Hid (cntQ (naQ is) (k + 1) = cntQ (naQ is) k) := HSUC.out
          clear HSUC HLH HI0 HIM
          generalize cntQ (naQ is) k = n at *
          go_wp2_with (go_at_call 30; refine HAG.out.mono ?_; rintro e w7 ⟨rfl, hF7⟩; have HF7 := Lib.hid hF7; clear hF7)
          go_roundw
          case rel => exact ⟨k + 1, HKL.out, by go_num, by rw [HNX.out], HF.out.trans' HF7.out⟩
          case measure => have := HKL.out; simp [intOf]; omega
        | true =>
          have HNX : Hid (cntQ (naQ is) (k + 1) = cntQ (naQ is) k + 1) := HSUC.out
          obtain ⟨hc, hone⟩ := HLH.out rfl
          obtain ⟨Am, hsm, hIm⟩ := HIM.out _ hc
          obtain ⟨Ai, hsi, hIi⟩ := HI0.out
          have HONE := Lib.hid hone
          have HIm := Lib.hid hIm
          have HIi := Lib.hid hIi
          have HC : Hid (cntQ (naQ is) k < ms.length) := hc
          clear HSUC HLH HI0 HIM hone hIm hIi
          generalize ms[cntQ (naQ is) k] = xm at *
          generalize is[k] = xi at *
          generalize cntQ (naQ is) k = n at *
          have hcn : (n : Int) < (ms.length : Int) := by have := HC.out; omega
          have hcn2 : decide (ms.length ≤ n) = false := by have := HC.out; simpa using this
          clear hc
          go_upto_region 11 with (go_at_call 30; refine HAG.out.mono ?_; rintro e w7 ⟨rfl, hF7⟩; have HF7 := Lib.hid hF7; clear hF7)
          have HCT := Lib.hid (fun W (h : Frm (fun _ => False) w7 W) => trivial)
          have hwn : IntKind.i64.wrap ((n : Int) + 1) = (n : Int) + 1 := IntWalk.i64_in _ (by omega)
          have hwk : IntKind.i64.wrap ((k : Int) + 1) = (k : Int) + 1 := IntWalk.i64_in _ (by omega)
          refine wp_region_held_drew (S := fun W => Frm (fun _ => False) w7 W) (by kernel_rfl) ((Frm.refl _ _).drew) (fun hHeld => ?_)
          refine wpAnyH_take (i := 0) (v := ?_) rfl (by kernel_rfl) (by kernel_rfl) (by kernel_rfl) (fun _ _ _ h => h) (Or.inl ⟨by rfl, ?_⟩) (by assumption) ?_; rotate_left; · (intro wq hSq; have hq := HCT.out wq hSq; go_split_ands; go_simp; (try with_reducible rfl))
          try simp only [Act.put, getElem_toArray, getElem_cons_zero, getElem_cons_succ, setIfInBounds_toArray, set_cons_zero, set_cons_succ]
          refine wpAnyH_take (i := 1) (v := ?_) rfl (by kernel_rfl) (by kernel_rfl) (by kernel_rfl) (fun _ _ _ h => h) (Or.inl ⟨by rfl, ?_⟩) (by assumption) ?_; rotate_left; · (intro wq hSq; have hq := HCT.out wq hSq; go_split_ands; go_simp; (try with_reducible rfl))
          try simp only [Act.put, getElem_toArray, getElem_cons_zero, getElem_cons_succ, setIfInBounds_toArray, set_cons_zero, set_cons_succ]
          refine wpAnyH_take (i := 2) (v := ?_) rfl (by kernel_rfl) (by kernel_rfl) (by kernel_rfl) (fun _ _ _ h => h) (Or.inl ⟨by rfl, ?_⟩) (by assumption) ?_; rotate_left; · (intro wq hSq; have hq := HCT.out wq hSq; go_split_ands; go_simp; (try with_reducible rfl))
          try simp only [Act.put, getElem_toArray, getElem_cons_zero, getElem_cons_succ, setIfInBounds_toArray, set_cons_zero, set_cons_succ]
          refine wpAnyH_take (i := 3) (v := ?_) rfl (by kernel_rfl) (by kernel_rfl) (by kernel_rfl) (fun _ _ _ h => h) (Or.inl ⟨by rfl, ?_⟩) (by assumption) ?_; rotate_left; · (intro wq hSq; have hq := HCT.out wq hSq; go_split_ands; go_simp; (try with_reducible rfl))
          try simp only [Act.put, getElem_toArray, getElem_cons_zero, getElem_cons_succ, setIfInBounds_toArray, set_cons_zero, set_cons_succ]
          refine wpAnyH_take (i := 4) (v := ?_) rfl (by kernel_rfl) (by kernel_rfl) (by kernel_rfl) (fun _ _ _ h => h) (Or.inl ⟨by rfl, ?_⟩) (by assumption) ?_; rotate_left; · (intro wq hSq; have hq := HCT.out wq hSq; go_split_ands; go_simp; (try with_reducible rfl))
          try simp only [Act.put, getElem_toArray, getElem_cons_zero, getElem_cons_succ, setIfInBounds_toArray, set_cons_zero, set_cons_succ]
          refine wpAnyH_take (i := 5) (v := ?_) rfl (by kernel_rfl) (by kernel_rfl) (by kernel_rfl) (fun _ _ _ h => h) (Or.inl ⟨by rfl, ?_⟩) (by assumption) ?_; rotate_left; · (intro wq hSq; have hq := HCT.out wq hSq; go_split_ands; go_simp; (try with_reducible rfl))
          try simp only [Act.put, getElem_toArray, getElem_cons_zero, getElem_cons_succ, setIfInBounds_toArray, set_cons_zero, set_cons_succ]
          refine wpAnyH_take (i := 6) (v := ?_) rfl (by kernel_rfl) (by kernel_rfl) (by kernel_rfl) (fun _ _ _ h => h) (Or.inl ⟨by rfl, ?_⟩) (by assumption) ?_; rotate_left; · (intro wq hSq; have hq := HCT.out wq hSq; go_split_ands; go_simp; (try with_reducible rfl))
          try simp only [Act.put, getElem_toArray, getElem_cons_zero, getElem_cons_succ, setIfInBounds_toArray, set_cons_zero, set_cons_succ]
          refine wpAnyH_take (i := 7) (v := ?_) rfl (by kernel_rfl) (by kernel_rfl) (by kernel_rfl) (fun _ _ _ h => h) (Or.inl ⟨by rfl, ?_⟩) (by assumption) ?_; rotate_left; · (intro wq hSq; have hq := HCT.out wq hSq; go_split_ands; go_simp; (try with_reducible rfl))
          try simp only [Act.put, getElem_toArray, getElem_cons_zero, getElem_cons_succ, setIfInBounds_toArray, set_cons_zero, set_cons_succ]
          refine wpAnyH_take (i := 8) (v := ?_) rfl (by kernel_rfl) (by kernel_rfl) (by kernel_rfl) (fun _ _ _ h => h) (Or.inl ⟨by rfl, ?_⟩) (by assumption) ?_; rotate_left; · (intro wq hSq; have hq := HCT.out wq hSq; go_split_ands; go_simp; (try with_reducible rfl))
          try simp only [Act.put, getElem_toArray, getElem_cons_zero, getElem_cons_succ, setIfInBounds_toArray, set_cons_zero, set_cons_succ]
          refine wpAnyH_take (i := 9) (v := ?_) rfl (by kernel_rfl) (by kernel_rfl) (by kernel_rfl) (fun _ _ _ h => h) (Or.inl ⟨by rfl, ?_⟩) (by assumption) ?_; rotate_left; · (intro wq hSq; have hq := HCT.out wq hSq; go_split_ands; go_simp; (try with_reducible rfl))
          try simp only [Act.put, getElem_toArray, getElem_cons_zero, getElem_cons_succ, setIfInBounds_toArray, set_cons_zero, set_cons_succ]
          refine wpAnyH_take (i := 10) (v := ?_) rfl (by kernel_rfl) (by kernel_rfl) (by kernel_rfl) (fun _ _ _ h => h) (Or.inl ⟨by rfl, ?_⟩) (by assumption) ?_; rotate_left; · (intro wq hSq; have hq := HCT.out wq hSq; go_split_ands; go_simp; (try with_reducible rfl))
          try simp only [Act.put, getElem_toArray, getElem_cons_zero, getElem_cons_succ, setIfInBounds_toArray, set_cons_zero, set_cons_succ]
          refine wpAnyH_take (i := 11) (v := ?_) rfl (by kernel_rfl) (by kernel_rfl) (by kernel_rfl) (fun _ _ _ h => h) (Or.inl ⟨by rfl, ?_⟩) (by assumption) ?_; rotate_left; · (intro wq hSq; have hq := HCT.out wq hSq; go_split_ands; go_simp; (try with_reducible rfl))
          try simp only [Act.put, getElem_toArray, getElem_cons_zero, getElem_cons_succ, setIfInBounds_toArray, set_cons_zero, set_cons_succ]
          refine wpAnyH_take (i := 12) (v := ?_) rfl (by kernel_rfl) (by kernel_rfl) (by kernel_rfl) (fun _ _ _ h => h) (Or.inl ⟨by rfl, ?_⟩) (by assumption) ?_; rotate_left; · (intro wq hSq; have hq := HCT.out wq hSq; go_split_ands; go_simp; (try with_reducible rfl))
          try simp only [Act.put, getElem_toArray, getElem_cons_zero, getElem_cons_succ, setIfInBounds_toArray, set_cons_zero, set_cons_succ]
          refine wpAnyH_take (i := 13) (v := ?_) rfl (by kernel_rfl) (by kernel_rfl) (by kernel_rfl) (fun _ _ _ h => h) (Or.inl ⟨by rfl, ?_⟩) (by assumption) ?_; rotate_left; · (intro wq hSq; have hq := HCT.out wq hSq; go_split_ands; go_simp; (try with_reducible rfl))
          try simp only [Act.put, getElem_toArray, getElem_cons_zero, getElem_cons_succ, setIfInBounds_toArray, set_cons_zero, set_cons_succ]
          refine wpAnyH_take (i := 14) (v := ?_) rfl (by kernel_rfl) (by kernel_rfl) (by kernel_rfl) (fun _ _ _ h => h) (Or.inl ⟨by rfl, ?_⟩) (by assumption) ?_; rotate_left; · (intro wq hSq; have hq := HCT.out wq hSq; go_split_ands; go_simp; (try with_reducible rfl))
          try simp only [Act.put, getElem_toArray, getElem_cons_zero, getElem_cons_succ, setIfInBounds_toArray, set_cons_zero, set_cons_succ]
          refine wpAnyH_ready (rs := [15]) (by kernel_rfl) (by simp) ?_
          refine AllReadyH.cons rfl (fun K hK => ?_) AllReadyH.nil
          try simp only [getElem_toArray, getElem_cons_zero, getElem_cons_succ]
          go_simp
          refine (same_items _ _ [xm] [xi] _ (HIm.out.frm (HF7.out.trans' hHeld)) (HIi.out.frm (HF7.out.trans' hHeld)) HONE.out).mono ?_
          rintro e w8 ⟨rfl, m8, rfl⟩
          have hd8 : Frm (fun _ => False) w7 (w7.drewN (1 + m8)) := (Frm.refl _ _).drewN _
          go_wp2_with fail
          refine hK.out _ _ (hd8) (fun hHeld => ?_)
          clear hK K
          try simp only [Act.put, setIfInBounds_toArray, set_cons_zero, set_cons_succ]
          refine wpAnyH_take (i := 16) (v := ?_) rfl (by kernel_rfl) (by kernel_rfl) (by kernel_rfl) (fun _ _ _ h => h) (Or.inl ⟨by rfl, ?_⟩) (by assumption) ?_; rotate_left; · (intro wq hSq; have hq := HCT.out wq hSq; go_split_ands; go_simp; (try with_reducible rfl))
          try simp only [Act.put, getElem_toArray, getElem_cons_zero, getElem_cons_succ, setIfInBounds_toArray, set_cons_zero, set_cons_succ]
          refine wpAnyH_take (i := 17) (v := ?_) rfl (by kernel_rfl) (by kernel_rfl) (by kernel_rfl) (fun _ _ _ h => h) (Or.inl ⟨by rfl, ?_⟩) (by assumption) ?_; rotate_left; · (intro wq hSq; have hq := HCT.out wq hSq; go_split_ands; go_simp; (try with_reducible rfl))
          try simp only [Act.put, getElem_toArray, getElem_cons_zero, getElem_cons_succ, setIfInBounds_toArray, set_cons_zero, set_cons_succ]
          refine wpAnyH_done (by kernel_rfl) ?_ _
          have HH := Lib.hid hHeld
          clear hHeld hsm hsi hwn hwk
          go_wp2_with fail
          go_roundw
          case rel => exact ⟨k + 1, HKL.out, by go_num, by rw [HNX.out]; go_num, HF.out.trans' (HF7.out.trans' HH.out)⟩
          case measure => have := HKL.out; simp [intOf]; omega
      · have hbad : badE l = true := by
          unfold badE
          rw [HLQ.out, List.length_map, Bool.or_eq_true, decide_eq_true_eq]
          exact .inl (by omega)
        have hce : ce = 2 := by rw [HCE.out, codeE, if_pos hbad]
        subst hce
        clear hbad hF
        go_wp2_with (go_at_call 17; refine (HLV.out _).mono ?_; rintro e w4 ⟨rfl, hF4⟩)
        go_ret
        exact ⟨rfl, HF5.out.trans' (HF.out.trans' hF4)⟩
    · have hkn : k = is.length := by omega
      subst hkn
      by_cases hbad : badE l = true
      · have hce : ce = 2 := by rw [HCE.out, codeE, if_pos hbad]
        subst hce
        clear hbad hF
        go_wp2_with (go_at_call 17; refine (HLV.out _).mono ?_; rintro e w4 ⟨rfl, hF4⟩)
        go_ret
        exact ⟨rfl, HF5.out.trans' (HF.out.trans' hF4)⟩
      · have hbad := Bool.eq_false_iff.2 hbad
        have hce : ce = 0 := by rw [HCE.out, codeE, hbad]; rfl
        subst hce
        obtain ⟨hb1, hb2⟩ := badE_no (xs := is) (by rw [← HLQ.out]; exact hbad)
        have hby : bytesE l = encOf l := by rw [bytesE, hbad]; rfl
        have hdec : decOf (encOf l) = (l, 0) := by
          refine dec_encOf l ?_ ?_ ?_
          · rw [HLQ.out, List.length_map]; exact hb1
          · rw [HLQ.out]
            intro x hx
            obtain ⟨y, hy, rfl⟩ := List.mem_map.1 hx
            exact HR.out y hy
          · rw [HLQ.out]
            intro x hx
            obtain ⟨y, hy, rfl⟩ := List.mem_map.1 hx
            have := hb2 y hy
            simp only [bare]; omega
        have hlen : (encOf l).length ≤ 140737488351232 := by
          have h8 := enc8s_length l (by rw [HLQ.out]; intro x hx; obtain ⟨y, hy, rfl⟩ := List.mem_map.1 hx; exact hb2 y hy)
          have hll : l.length ≤ 1024 := by rw [HLQ.out, List.length_map]; exact hb1
          rw [encOf, List.length_append, leOf_length]
          omega
        have hBw := HB5.out.grow hF
        rw [hby] at hBw
        have hD := decode_any vb (encOf l) wr hBw hlen
        unfold DecPost at hD
        rw [hdec] at hD
        have HD := Lib.hid hD
        rw [HCNT.out]
        clear hb1 hb2 hby hdec hlen hBw hD hbad hF HNC
        go_wp2_with fail
        refine HD.out.mono ?_
        rintro e w6 ⟨hF6, v6, xs, c6, rfl, hx6, hI6⟩
        simp only [Prod.mk.injEq] at hx6
        obtain ⟨hx6, rfl⟩ := hx6
        have HX6 := Lib.hid (hx6.trans HLQ.out)
        have HI6 := Lib.hid hI6
        have HF6 := Lib.hid (HF.out.trans' hF6)
        clear hx6 hI6 hF6
        go_wp2_with fail
        refine (same_items v6 _ xs is w6 HI6.out.at_ (H1.out.frm (HF5.out.trans' HF6.out)) HX6.out).mono ?_
        rintro e w7 ⟨rfl, n7, rfl⟩
        go_wp2_with (go_at_call 17; refine (HLV.out _).mono ?_; rintro e w4 ⟨rfl, hF4⟩)
        go_ret
        exact ⟨rfl, HF5.out.trans' (HF6.out.trans' (Frm.trans' (by (repeat' (first | (with_reducible exact Frm.refl _ _) | (with_reducible assumption) | (with_reducible refine Frm.alloc ?_ _) | (with_reducible refine Frm.drew ?_) | (with_reducible refine Frm.drewN ?_ _) | (with_reducible refine Frm.set1 ?_ _) | (with_reducible refine Frm.setCell ?_ ?_ _) | (exact fun h => absurd h (Nat.lt_irrefl _)) | (intro hlt; simp [World.size_alloc, One] at hlt ⊢; omega)))) hF4))⟩
end Go.Proofs.Ytmkkeglcjbogcaa
namespace Go.Proofs.Ytmkkeglcjbogcaa
open Go.ChangeShapes Go.WideShapes Go.ChangeAt Go.RowKit
set_option linter.unusedVariables false

theorem own : ownKnob Try.prog.godebug = none := by kernel_rfl
theorem laid : laidOutB Try.prog = true := by kernel_rfl

/-- What a law's walk shows: it returns true, and below the heap's size nothing has turned. -/
def LawPost (w : World) (e : Ending) (w' : World) : Prop := e = .returned (.bool true) ∧ Below w.heap.size w w'

section
variable {H : Type} {enc : TypeId × Value → H}

theorem trodAll_below {W W' : World} (hb : Below W.heap.size W W') (sp : Nat → Bool) : ∀ {ts : List TypeId} {vs : List Value} {ds : List (DataW H)} {ps : List MemPlace},
    (∀ t ∈ ts, Try.prog.readableRec t = true ∧ t < Try.prog.types.size) → DataW.TrodAll enc Try.prog W 0 (fun _ => true) true ts vs ds ps → (∀ x ∈ ps, x.block < W.heap.size) → (∀ x ∈ ps, sp x.block = true) → DataW.TrodAll enc Try.prog W' 0 sp true ts vs ds ps := by
  intro ts
  induction ts with
  | nil =>
    intro vs ds ps _ h _ _
    cases vs <;> cases ds <;> simp [DataW.TrodAll] at h ⊢
    exact h
  | cons t ts ih =>
    intro vs ds ps ht h hlt hsp
    cases vs <;> cases ds <;> simp [DataW.TrodAll] at h ⊢
    obtain ⟨p, hp, q, hq, rfl⟩ := h
    have h1 := ht t (by simp)
    refine ⟨p, WideElems.Trod_stays laid h1.1 h1.2 hp (fun x hx => hb.same (hlt x (by simp [hx]))) (fun x hx => hsp x (by simp [hx])), q, ih (fun t' ht' => ht t' (by simp [ht'])) hq (fun x hx => hlt x (by simp [hx])) (fun x hx => hsp x (by simp [hx])), rfl⟩

set_option maxRecDepth 100000 in
theorem law_post {fn : Func} {s : ChangeSpec} {W W' : World} {args : Array Value} {ds gs : List (DataW H)} {before : List MemPlace} {tb : TypeId}
    (hW : DataW.Whole enc Try.prog fn.params.toList s.vars false W args.toList ds gs before) (hp : ∀ t ∈ fn.params.toList, Try.prog.readableRec t = true ∧ t < Try.prog.types.size)
    (hr : fn.resultTypes = #[tb]) (htb : Try.prog.underlying tb = some .bool) (hs0 : s.vars = [])
    (hs1 : (s.fn H (ds ++ gs)).results = [.lit (.bool true)]) (hs2 : (s.fn H (ds ++ gs)).args = ds) (hs3 : (s.fn H (ds ++ gs)).vars = []) (hb : Below W.heap.size W W') :
    s.post enc Try.prog fn false true false false W args (.bool true) W' := by
  have hlt : ∀ p ∈ before, p.block < W.heap.size := fun p hp => hW.lt p hp
  have hW' := hW
  obtain ⟨p, q, hA, hV, rfl, hz, hn⟩ := hW
  rw [hs0] at hV
  obtain ⟨rfl, rfl⟩ := trodVars_none hV
  have hargs : ∀ sp : Nat → Bool, (∀ x ∈ p ++ [], sp x.block = true) → DataW.TrodAll enc Try.prog W' 0 sp true fn.params.toList args.toList (s.fn H (ds ++ [])).args p := fun sp hsp => by
    rw [hs2]; exact trodAll_below hb sp hp hA (fun x hx => hlt x (by simpa using hx)) (fun x hx => hsp x (by simpa using hx))
  have hres : ∀ (b : Nat) (sp : Nat → Bool) (hd : Bool), DataW.TrodAll enc Try.prog W' b sp hd fn.resultTypes.toList ((Value.bool true).resultList fn.resultTypes.size) (s.fn H (ds ++ [])).results [] := fun b sp hd => by
    rw [hs1, hr]; exact trodAll_mk1 (shut_bool htb _)
  have hvars : ∀ sp : Nat → Bool, DataW.TrodVars enc Try.prog W' sp s.vars (s.fn H (ds ++ [])).vars [] := fun sp => by rw [hs0, hs3]; rfl
  have hold : ∀ x ∈ p ++ [], (fun b => decide (b < W.heap.size)) x.block = true := fun x hx => by simpa using hlt x hx
  refine ⟨ds, [], p ++ [], [], p, [], hW', hres _ _ _, hargs _ hold, hvars _, World.keptBut_mono (fun x hx => ⟨hx, ?_⟩) (hb.frame (· ∈ p ++ [])), fun _ => ?_⟩
  · exact Or.inr (List.mem_append.1 hx)
  · refine ⟨ok_one hr rfl (okWide_bool_mk htb _), _, _, ([] ++ p) ++ [], ⟨[] ++ p, [], trodAll_append (hargs _ (fun _ _ => rfl)) (hres _ _ _), hvars _, rfl, ?_, ?_⟩, ?_⟩
    · intro b off hx
      have hin : MemPlace.cell b off ∈ p ++ [] := by simpa using hx
      rw [hb.frozen (hlt _ hin)]
      exact hz b off hin
    · intro ha; cases ha
    · intro x hx _
      simpa using hx

set_option maxRecDepth 100000 in
/-- A walk, for every argument that reads as data, is the row's step. -/
theorem law_lift {f : FuncId} {fn : Func} {s : ChangeSpec} {conds : List PathCond} (os : Os) (started : os.Started) (noInit : Try.prog.inits.idxOf? f = none) (hfn : Try.prog.funcs[f]? = some fn) {tb : TypeId}
    (hp : ∀ t ∈ fn.params.toList, Try.prog.readableRec t = true ∧ t < Try.prog.types.size) (hr : fn.resultTypes = #[tb]) (htb : Try.prog.underlying tb = some .bool) (hs0 : s.vars = [])
    (hs : ∀ ds : List (DataW H), ds.length = fn.params.toList.length → (s.fn H ds).results = [.lit (.bool true)] ∧ (s.fn H ds).args = ds ∧ (s.fn H ds).vars = [])
    (witness : ∃ (w : World) (tape : Tape) (i : Input), w.os = os ∧ (w.forCall tape i).Shaped Try.prog ∧ i.vars = [] ∧ Input.okWide Try.prog (w.forCall tape i) .any w.heap.size f i ∧
      s.pre6 enc Try.prog fn conds false (w.forCall tape i).memory i.args ∧ ({} : Assume).holds Try.prog (lone (Frame.enter Try.prog f i.args .normal) [] (w.forCall tape i)))
    (walk : ∀ (W : World) (base : Nat) (vs : List Value) (ds : List (DataW H)) (ps : List MemPlace), (∀ (j : Nat) t v, fn.params[j]? = some t → vs[j]? = some v → Value.okWide Try.prog W .any base t v) → DataW.TrodAll enc Try.prog W 0 (fun _ => true) true fn.params.toList vs ds ps → (∀ x ∈ ps, x.block < W.heap.size) →
      (DataW.weightsEach Try.prog fn.params.toList ds).all (· ≤ reachBytes) = true → Calls Try.prog f vs.toArray W (LawPost W)) :
    ReturnsInHanded {} Try.checked os f .any (s.pre6 enc Try.prog fn conds false) (s.post enc Try.prog fn false true false false) := by
  refine returnsInHanded_of_change_shaped (C := Try.checked) own started noInit hfn witness ?_
  intro W base args ds gs before hval hW hcnd hwt hsh hh
  have hlt : ∀ p ∈ before, p.block < W.heap.size := fun p hp => DataW.Whole.lt hW p hp
  have hW' := hW
  obtain ⟨p, q, hA, hV, rfl, hz, hn⟩ := hW
  rw [hs0] at hV
  obtain ⟨rfl, rfl⟩ := trodVars_none hV
  have hlen : ∀ {ts : List TypeId} {vs : List Value} {ds : List (DataW H)} {ps : List MemPlace}, DataW.TrodAll enc Try.prog W 0 (fun _ => true) true ts vs ds ps → ds.length = ts.length := by
    intro ts
    induction ts with
    | nil => intro vs ds ps h; cases vs <;> cases ds <;> simp [DataW.TrodAll] at h ⊢
    | cons t ts ih =>
      intro vs ds ps h
      cases vs <;> cases ds <;> simp [DataW.TrodAll] at h ⊢
      obtain ⟨_, _, _, hq, _⟩ := h
      exact ih hq
  have hl := hlen hA
  have hvt : DataSpec.varTypes Try.checked.prog s.plain = [] := by
    have : s.plain.vars = [] := hs0
    simp [DataSpec.varTypes, this]
  refine (walk W base args.toList ds p (fun j t v h1 h2 => hval j t v h1 (by simpa using h2)) hA (fun x hx => hlt x (by simpa using hx)) (by rw [hvt, List.append_nil, List.append_nil] at hwt; exact hwt)).mono ?_
  rintro e W' ⟨rfl, hb⟩
  obtain ⟨s1, s2, s3⟩ := hs (ds ++ []) (by simpa using hl)
  exact ⟨_, rfl, law_post hW' hp hr htb hs0 s1 (by simpa using s2) s3 hb⟩
end
end Go.Proofs.Ytmkkeglcjbogcaa
namespace Go.Proofs.Ytmkkeglcjbogcaa
open Go.ChangeShapes Go.WideShapes Go.ChangeAt Go.RowKit Go.Deep
set_option linter.unusedVariables false

section
variable {H : Type} {enc : TypeId × Value → H}

/-- The cells cs read as the datum d of type t. -/
def Rd (enc : TypeId × Value → H) (W : World) (t : TypeId) (cs : List Value) (d : DataW H) : Prop := ∃ fuel ps, DataW.trod enc Try.prog W 0 (fun _ => true) true fuel t cs = some (d, ps)

theorem rd_int {W : World} {t : TypeId} {k : IntKind} {cs : List Value} {d : DataW H} (ht : Try.prog.underlying t = some (.int k)) (h : Rd enc W t cs d) : ∃ n, cs = [.int k n] ∧ (Lit.int k n).wf = true := by
  obtain ⟨fuel, ps, h⟩ := h
  obtain ⟨n, h1, _, h3⟩ := DataW.trod_int ht h
  exact ⟨n, h1, h3⟩

theorem rd_bool {W : World} {t : TypeId} {cs : List Value} {d : DataW H} (ht : Try.prog.underlying t = some .bool) (h : Rd enc W t cs d) : ∃ b, cs = [.bool b] := by
  obtain ⟨fuel, ps, h⟩ := h
  obtain ⟨n, h1, _⟩ := DataW.trod_bool ht h
  exact ⟨n, h1⟩

theorem rd_slice {W : World} {t e : TypeId} {sz : Nat} {cs : List Value} {d : DataW H} (ht : Try.prog.underlying t = some (.slice e)) (hz : Try.prog.cellsOf e = sz) (hz0 : 0 < sz) (h : Rd enc W t cs d) :
    ∃ (A : Option Addr) (n cap : Nat) (D : Nat → DataW H), cs = [.slice A n cap] ∧ n ≤ cap ∧ cap ≤ maxLen ∧ ((n = 0 ∧ cap = 0 ∧ d = .nil) ∨ ∃ sp, d = .slice ((List.range n).map D) sp ∧ sp.length = cap - n) ∧
      (0 < n → ∃ g off, A = some ⟨g, off, none⟩ ∧ g < W.heap.size ∧ ∀ i, i < n → ∃ cs', cs'.length = sz ∧ (∀ j, j < sz → W.cell? ⟨g, off + i * sz + j, none⟩ = cs'[j]?) ∧ Rd enc W e cs' (D i)) := by
  obtain ⟨fuel, ps, h⟩ := h
  rcases open_slice ht h with ⟨rfl, hx⟩ | ⟨a, len, cap, m, n, D, Pl, rfl, hb, hl, hm, hmm, hx, hel⟩
  · simp only [Prod.mk.injEq] at hx
    exact ⟨none, 0, 0, fun _ => .nil, rfl, Nat.le_refl _, Nat.zero_le _, .inl ⟨rfl, rfl, hx.1⟩, fun h => absurd h (by omega)⟩
  · simp only [if_true] at hmm
    subst hmm
    simp only [Prod.mk.injEq] at hx
    refine ⟨some a, len, m, D, rfl, hl, hm, .inr ⟨_, hx.1, by simp⟩, fun h0 => ?_⟩
    have hcell : ∀ i, i < len → ∃ cs', cs'.length = sz ∧ (∀ j, j < sz → W.cell? (a.add (i * sz + j)) = cs'[j]?) ∧ Rd enc W e cs' (D i) := fun i hi => by
      obtain ⟨cs', h1, h2⟩ := hel i (by omega)
      rw [hz] at h1
      obtain ⟨_, h3, h4⟩ := World.cells?_some h1
      exact ⟨cs', h3, fun j hj => by rw [← h4 j hj, add_add], _, _, h2⟩
    obtain ⟨cs0, l0, c0, _⟩ := hcell 0 h0
    have c00 := c0 0 hz0
    obtain ⟨ab, ao, asp⟩ := a
    have hsp : asp = none := by
      have : W.cell? ⟨ab, ao, asp⟩ = cs0[0]? := by simpa [Addr.add] using c00
      rw [List.getElem?_eq_getElem (by omega)] at this
      cases asp with
      | none => rfl
      | some s =>
        unfold World.cell? at this
        split at this <;> simp at this
    subst hsp
    refine ⟨ab, ao, rfl, ?_, fun i hi => ?_⟩
    · rw [List.getElem?_eq_getElem (by omega)] at c00
      have := World.block_lt_of_cell? W _ c00
      simpa [Addr.add] using this
    · obtain ⟨cs', l', c', r'⟩ := hcell i hi
      exact ⟨cs', l', fun j hj => by rw [← c' j hj, add_off, Nat.add_assoc], r'⟩

theorem rd_struct {W : World} {t : TypeId} {fs : Array Field} {cs : List Value} {d : DataW H} (ht : Try.prog.underlying t = some (.struct fs)) (h : Rd enc W t cs d) :
    cs.length = Try.prog.cellsOf t ∧ ∃ ds, d = .agg ds ∧ ds.length = fs.size ∧ ∀ (i : Nat) (f : Field), fs[i]? = some f → ∃ di, ds[i]? = some di ∧ Rd enc W f.type ((cs.drop f.offset).take (Try.prog.cellsOf f.type)) di := by
  obtain ⟨fuel, ps, h⟩ := h
  obtain ⟨xs, n, _, hx, hl, hl2, hf⟩ := DataW.trod_struct ht h
  simp only [Prod.mk.injEq] at hx
  refine ⟨hl, _, hx.1, by simpa using hl2, fun i f hi => ?_⟩
  have := hf i f hi
  have hi' : i < fs.size := (Array.getElem?_eq_some_iff.1 hi).1
  rw [List.getElem?_eq_getElem (by omega)] at this
  exact ⟨(xs[i]'(by omega)).1, by simp [hl2, hi'], n, (xs[i]'(by omega)).2, this⟩

theorem u8_wf {n : Int} (h : (Lit.int .u8 n).wf = true) : 0 ≤ n ∧ n ≤ 255 := by simpa [Lit.wf, IntKind.min, IntKind.max, IntKind.signed, IntKind.bits] using h
theorem u16_wf {n : Int} (h : (Lit.int .u16 n).wf = true) : 0 ≤ n ∧ n ≤ 65535 := by simpa [Lit.wf, IntKind.min, IntKind.max, IntKind.signed, IntKind.bits] using h
theorem u32_wf {n : Int} (h : (Lit.int .u32 n).wf = true) : 0 ≤ n ∧ n ≤ 4294967295 := by simpa [Lit.wf, IntKind.min, IntKind.max, IntKind.signed, IntKind.bits] using h
theorem u64_wf {n : Int} (h : (Lit.int .u64 n).wf = true) : 0 ≤ n ∧ n ≤ 18446744073709551615 := by simpa [Lit.wf, IntKind.min, IntKind.max, IntKind.signed, IntKind.bits] using h
theorem i64_wf {n : Int} (h : (Lit.int .i64 n).wf = true) : -9223372036854775808 ≤ n ∧ n ≤ 9223372036854775807 := by simpa [Lit.wf, IntKind.min, IntKind.max, IntKind.signed, IntKind.bits] using h

/-- From 'for every i < n there is an x' to one list. -/
theorem choose_list {α : Type} {n : Nat} {p : Nat → α → Prop} (h : ∀ i, i < n → ∃ x, p i x) : ∃ l : List α, l.length = n ∧ ∀ i (hi : i < l.length), p i l[i] := by
  induction n with
  | zero => exact ⟨[], rfl, fun i hi => absurd hi (by simp)⟩
  | succ n ih =>
    obtain ⟨l, hl, hp⟩ := ih (fun i hi => h i (by omega))
    obtain ⟨x, hx⟩ := h n (by omega)
    refine ⟨l ++ [x], by simp [hl], fun i hi => ?_⟩
    by_cases hi' : i < l.length
    · rw [List.getElem_append_left hi']; exact hp i hi'
    · have : i = n := by simp at hi; omega
      subst this
      simp only [List.getElem_append, hl, Nat.lt_irrefl, dite_false, Nat.sub_self, List.getElem_cons_zero]
      exact hx

theorem rd_bytes {W : World} {t e : TypeId} {cs : List Value} {d : DataW H} (ht : Try.prog.underlying t = some (.slice e)) (he : Try.prog.underlying e = some (.int .u8)) (hz : Try.prog.cellsOf e = 1) (h : Rd enc W t cs d) :
    ∃ v bs, cs = [v] ∧ BytesAt W v bs ∧ ((bs.length = 0 ∧ d = .nil) ∨ ∃ el sp, d = .slice el sp ∧ el.length = bs.length) := by
  obtain ⟨A, n, cap, D, rfl, h1, h2, hd, hA⟩ := rd_slice ht hz (by decide) h
  obtain ⟨bs, hl, hb⟩ := choose_list (n := n) (p := fun i (b : UInt8) => ∀ g off, A = some ⟨g, off, none⟩ → W.cell? ⟨g, off + i, none⟩ = some (.int .u8 b.toNat)) (fun i hi => by
    obtain ⟨g, off, rfl, _, hc⟩ := hA (by omega)
    obtain ⟨cs', l', c', r'⟩ := hc i hi
    obtain ⟨m, rfl, hw⟩ := rd_int he r'
    have hw := u8_wf hw
    refine ⟨UInt8.ofNat m.toNat, fun g2 off2 e2 => ?_⟩
    cases e2
    have := c' 0 (by decide)
    simp only [Nat.mul_one, Nat.add_zero] at this
    rw [this]
    simp only [List.getElem?_cons_zero, Option.some.injEq, Value.int.injEq, true_and]
    have hm : (UInt8.ofNat m.toNat).toNat = m.toNat := UInt8.toNat_ofNat_of_lt' (by simp only [UInt8.size]; omega)
    rw [hm]
    omega)
  subst hl
  refine ⟨_, bs, rfl, ⟨A, cap, rfl, h1, h2, fun h0 => ?_⟩, ?_⟩
  · obtain ⟨g, off, rfl, _, _⟩ := hA h0
    refine ⟨g, off, rfl, fun i hi => ?_⟩
    have := hb i hi g off rfl
    rw [this]
    simp [hi]
  · rcases hd with ⟨h0, _, hd⟩ | ⟨sp, hd, _⟩
    · exact .inl ⟨h0, hd⟩
    · exact .inr ⟨_, sp, hd, by simp⟩

set_option maxRecDepth 100000 in
theorem arg_slice {W : World} {base : Nat} {t e : TypeId} {v : Value} {d : DataW H} {ps : List MemPlace} (ht : Try.prog.underlying t = some (.slice e)) (hval : Value.okWide Try.prog W .any base t v) (h : DataW.Trod enc Try.prog W 0 (fun _ => true) true t v d ps) : Rd enc W t [v] d := by
  obtain ⟨a, len, cap, rfl⟩ := okWide_slice ht hval
  obtain ⟨fuel, hf⟩ := h
  exact ⟨fuel, ps, hf⟩
end
end Go.Proofs.Ytmkkeglcjbogcaa
namespace Go.Proofs.Ytmkkeglcjbogcaa
open Go.ChangeShapes Go.WideShapes Go.ChangeAt Go.RowKit Go.Deep
set_option linter.unusedVariables false

section
variable {H : Type} {enc : TypeId × Value → H}

theorem rd_sl {α : Type} {encα : α → List Value} {sz : Nat} {W : World} {t e : TypeId} {cs : List Value} {d : DataW H} (good : α → Prop) (ht : Try.prog.underlying t = some (.slice e)) (hz : Try.prog.cellsOf e = sz) (hz0 : 0 < sz)
    (hel : ∀ cs d, Rd enc W e cs d → ∃ x, cs = encα x ∧ good x) (h : Rd enc W t cs d) :
    ∃ v xs, cs = [v] ∧ SlAt encα sz W v xs ∧ (∀ x ∈ xs, good x) ∧ (xs.length = 0 ∨ ∃ el sp, d = .slice el sp ∧ el.length = xs.length) := by
  obtain ⟨A, n, cap, D, rfl, h1, h2, hd, hA⟩ := rd_slice ht hz hz0 h
  obtain ⟨xs, hl, hx⟩ := choose_list (n := n) (p := fun i (x : α) => good x ∧ ∀ g off, A = some ⟨g, off, none⟩ → ∀ j, j < sz → W.cell? ⟨g, off + i * sz + j, none⟩ = (encα x)[j]?) (fun i hi => by
    obtain ⟨g, off, rfl, _, hc⟩ := hA (by omega)
    obtain ⟨cs', l', c', r'⟩ := hc i hi
    obtain ⟨x, rfl, hg⟩ := hel _ _ r'
    exact ⟨x, hg, fun g2 off2 e2 => by cases e2; exact c'⟩)
  subst hl
  refine ⟨_, xs, rfl, ⟨A, cap, rfl, h1, h2, fun h0 => ?_⟩, fun x hx' => ?_, ?_⟩
  · obtain ⟨g, off, rfl, hg, _⟩ := hA h0
    exact ⟨g, off, rfl, hg, fun i hi j hj => (hx i hi).2 g off rfl j hj⟩
  · obtain ⟨i, hi, rfl⟩ := List.getElem_of_mem hx'
    exact (hx i hi).1
  · rcases hd with ⟨h0, _, hd⟩ | ⟨sp, hd, _⟩
    · exact .inl h0
    · exact .inr ⟨_, sp, hd, by simp⟩

set_option maxRecDepth 100000 in
theorem sl_bound {ts : List TypeId} {ds : List (DataW H)} {j : Nat} {t e : TypeId} {d : DataW H} {n b : Nat} (hw : (DataW.weightsEach Try.prog ts ds).all (· ≤ reachBytes) = true) (ht : ts[j]? = some t) (hd : ds[j]? = some d) (hu : Try.prog.underlying t = some (.slice e)) (hb : Try.prog.bytesOf e = b)
    (h : n = 0 ∨ ∃ el sp, d = .slice el sp ∧ el.length = n) : n * b ≤ 140737488351232 := by
  rcases h with h | ⟨el, sp, rfl, h⟩
  · subst h; omega
  · have := sized_slice hw ht hd hu
    rw [hb] at this
    have hr : reachBytes = 140737488351232 := rfl
    have h2 : n * b ≤ (el.length + sp.length) * b := Nat.mul_le_mul_right _ (by omega)
    omega

set_option maxRecDepth 100000 in
/-- A struct of three fields, one cell each. -/
theorem rd_struct3 {W : World} {t : TypeId} {f0 f1 f2 : Field} {cs : List Value} {d : DataW H} (ht : Try.prog.underlying t = some (.struct #[f0, f1, f2])) (hz : Try.prog.cellsOf t = 3) (z0 : f0.offset = 0) (z1 : f1.offset = 1) (z2 : f2.offset = 2)
    (y0 : Try.prog.cellsOf f0.type = 1) (y1 : Try.prog.cellsOf f1.type = 1) (y2 : Try.prog.cellsOf f2.type = 1) (h : Rd enc W t cs d) :
    ∃ c0 c1 c2 d0 d1 d2, cs = [c0, c1, c2] ∧ Rd enc W f0.type [c0] d0 ∧ Rd enc W f1.type [c1] d1 ∧ Rd enc W f2.type [c2] d2 := by
  obtain ⟨hl, ds, _, _, hf⟩ := rd_struct ht h
  rw [hz] at hl
  match cs, hl with
  | [c0, c1, c2], _ =>
    obtain ⟨d0, _, r0⟩ := hf 0 f0 rfl
    obtain ⟨d1, _, r1⟩ := hf 1 f1 rfl
    obtain ⟨d2, _, r2⟩ := hf 2 f2 rfl
    rw [z0, y0] at r0
    rw [z1, y1] at r1
    rw [z2, y2] at r2
    exact ⟨c0, c1, c2, d0, d1, d2, rfl, r0, r1, r2⟩
end
end Go.Proofs.Ytmkkeglcjbogcaa
namespace Go.Proofs.Ytmkkeglcjbogcaa
open Go.ChangeShapes Go.WideShapes Go.ChangeAt Go.RowKit Go.Deep
set_option linter.unusedVariables false
set_option maxRecDepth 100000

section
variable {H : Type} {enc : TypeId × Value → H}

/-- Each string, slice and map in the datum is within the form's reach. -/
def Sz (t : TypeId) (d : DataW H) : Prop := ∀ n ∈ DataW.weights Try.prog t d, n ≤ reachBytes

theorem sz_arg {ts : List TypeId} {ds : List (DataW H)} {j : Nat} {t : TypeId} {d : DataW H} (hw : (DataW.weightsEach Try.prog ts ds).all (· ≤ reachBytes) = true) (ht : ts[j]? = some t) (hd : ds[j]? = some d) : Sz t d := fun n hn => by
  have := List.all_eq_true.1 hw _ (DataW.weights_mem_each ht hd n hn)
  simpa using this

theorem sz_all {e : TypeId} {l : List (DataW H)} (h : ∀ n ∈ DataW.weightsAll Try.prog e l, n ≤ reachBytes) : ∀ x ∈ l, Sz e x := by
  induction l with
  | nil => intro x hx; cases hx
  | cons y r ih =>
    intro x hx
    simp only [DataW.weightsAll, List.mem_append] at h
    rcases List.mem_cons.1 hx with rfl | hx
    · exact fun n hn => h n (.inl hn)
    · exact ih (fun n hn => h n (.inr hn)) x hx

theorem sz_slice {t e : TypeId} {el sp : List (DataW H)} (hu : Try.prog.underlying t = some (.slice e)) (h : Sz t (.slice el sp)) : (el.length + sp.length) * Try.prog.bytesOf e ≤ 140737488351232 ∧ ∀ x ∈ el, Sz e x := by
  have hr : reachBytes = 140737488351232 := rfl
  unfold Sz at h
  simp only [DataW.weights, hu, List.mem_cons, List.mem_append] at h
  exact ⟨by rw [← hr]; exact h _ (.inl rfl), sz_all (fun n hn => h n (.inr (.inl hn)))⟩

theorem sz_string {t : TypeId} {b : List UInt8} (h : Sz (H := H) t (.lit (.string b))) : b.length ≤ 140737488351232 := by
  have hr : reachBytes = 140737488351232 := rfl
  unfold Sz at h
  simp only [DataW.weights, List.mem_cons, List.not_mem_nil, or_false] at h
  rw [← hr]; exact h _ rfl

theorem sz_each {ts : List TypeId} {ds : List (DataW H)} (h : ∀ n ∈ DataW.weightsEach Try.prog ts ds, n ≤ reachBytes) {j : Nat} {t : TypeId} {d : DataW H} (ht : ts[j]? = some t) (hd : ds[j]? = some d) : Sz t d :=
  fun n hn => h n (DataW.weights_mem_each ht hd n hn)

theorem sz_struct {t : TypeId} {fs : Array Field} {ds : List (DataW H)} (hu : Try.prog.underlying t = some (.struct fs)) (h : Sz t (.agg ds)) {i : Nat} {f : Field} {di : DataW H} (hf : fs[i]? = some f) (hd : ds[i]? = some di) : Sz f.type di := by
  unfold Sz at h
  simp only [DataW.weights, hu] at h
  exact sz_each h (j := i) (by simp [hf]) hd

theorem rd_slS {α : Type} {encα : α → List Value} {sz : Nat} {W : World} {t e : TypeId} {cs : List Value} {d : DataW H} (good : α → Prop) (ht : Try.prog.underlying t = some (.slice e)) (hz : Try.prog.cellsOf e = sz) (hz0 : 0 < sz)
    (hel : ∀ cs d, Rd enc W e cs d → Sz e d → ∃ x, cs = encα x ∧ good x) (h : Rd enc W t cs d) (hs : Sz t d) :
    ∃ v xs, cs = [v] ∧ SlAt encα sz W v xs ∧ (∀ x ∈ xs, good x) ∧ xs.length * Try.prog.bytesOf e ≤ 140737488351232 := by
  obtain ⟨A, n, cap, D, rfl, h1, h2, hd, hA⟩ := rd_slice ht hz hz0 h
  have hsz : n * Try.prog.bytesOf e ≤ 140737488351232 ∧ ∀ i, i < n → Sz e (D i) := by
    rcases hd with ⟨h0, _, hd⟩ | ⟨sp, hd, _⟩
    · subst h0; exact ⟨by omega, fun i hi => absurd hi (by omega)⟩
    · subst hd
      obtain ⟨h3, h4⟩ := sz_slice ht hs
      refine ⟨Nat.le_trans (Nat.mul_le_mul_right _ (by simp)) h3, fun i hi => h4 _ (List.mem_map_of_mem (List.mem_range.2 hi))⟩
  obtain ⟨xs, hl, hx⟩ := choose_list (n := n) (p := fun i (x : α) => good x ∧ ∀ g off, A = some ⟨g, off, none⟩ → ∀ j, j < sz → W.cell? ⟨g, off + i * sz + j, none⟩ = (encα x)[j]?) (fun i hi => by
    obtain ⟨g, off, rfl, _, hc⟩ := hA (by omega)
    obtain ⟨cs', l', c', r'⟩ := hc i hi
    obtain ⟨x, rfl, hg⟩ := hel _ _ r' (hsz.2 i hi)
    exact ⟨x, hg, fun g2 off2 e2 => by cases e2; exact c'⟩)
  subst hl
  refine ⟨_, xs, rfl, ⟨A, cap, rfl, h1, h2, fun h0 => ?_⟩, fun x hx' => ?_, hsz.1⟩
  · obtain ⟨g, off, rfl, hg, _⟩ := hA h0
    exact ⟨g, off, rfl, hg, fun i hi j hj => (hx i hi).2 g off rfl j hj⟩
  · obtain ⟨i, hi, rfl⟩ := List.getElem_of_mem hx'
    exact (hx i hi).1

theorem rd_bytesS {W : World} {t e : TypeId} {cs : List Value} {d : DataW H} (ht : Try.prog.underlying t = some (.slice e)) (he : Try.prog.underlying e = some (.int .u8)) (hz : Try.prog.cellsOf e = 1) (hb : Try.prog.bytesOf e = 1) (h : Rd enc W t cs d) (hs : Sz t d) :
    ∃ v bs, cs = [v] ∧ BytesAt W v bs ∧ bs.length ≤ 140737488351232 := by
  obtain ⟨v, bs, rfl, hB, hd⟩ := rd_bytes ht he hz h
  refine ⟨v, bs, rfl, hB, ?_⟩
  rcases hd with ⟨h0, _⟩ | ⟨el, sp, rfl, hl⟩
  · omega
  · have := (sz_slice ht hs).1
    rw [hb] at this
    omega

/-- A struct of three fields, one cell each. -/
theorem rd_struct3S {W : World} {t : TypeId} {f0 f1 f2 : Field} {cs : List Value} {d : DataW H} (ht : Try.prog.underlying t = some (.struct #[f0, f1, f2])) (hz : Try.prog.cellsOf t = 3) (z0 : f0.offset = 0) (z1 : f1.offset = 1) (z2 : f2.offset = 2)
    (y0 : Try.prog.cellsOf f0.type = 1) (y1 : Try.prog.cellsOf f1.type = 1) (y2 : Try.prog.cellsOf f2.type = 1) (h : Rd enc W t cs d) (hs : Sz t d) :
    ∃ c0 c1 c2 d0 d1 d2, cs = [c0, c1, c2] ∧ Rd enc W f0.type [c0] d0 ∧ Rd enc W f1.type [c1] d1 ∧ Rd enc W f2.type [c2] d2 ∧ Sz f0.type d0 ∧ Sz f1.type d1 ∧ Sz f2.type d2 := by
  obtain ⟨hl, ds, rfl, _, hf⟩ := rd_struct ht h
  rw [hz] at hl
  match cs, hl with
  | [c0, c1, c2], _ =>
    obtain ⟨d0, g0, r0⟩ := hf 0 f0 rfl
    obtain ⟨d1, g1, r1⟩ := hf 1 f1 rfl
    obtain ⟨d2, g2, r2⟩ := hf 2 f2 rfl
    rw [z0, y0] at r0
    rw [z1, y1] at r1
    rw [z2, y2] at r2
    exact ⟨c0, c1, c2, d0, d1, d2, rfl, r0, r1, r2, sz_struct ht hs (i := 0) rfl g0, sz_struct ht hs (i := 1) rfl g1, sz_struct ht hs (i := 2) rfl g2⟩

/-- A struct of two fields, one cell each. -/
theorem rd_struct2S {W : World} {t : TypeId} {f0 f1 : Field} {cs : List Value} {d : DataW H} (ht : Try.prog.underlying t = some (.struct #[f0, f1])) (hz : Try.prog.cellsOf t = 2) (z0 : f0.offset = 0) (z1 : f1.offset = 1)
    (y0 : Try.prog.cellsOf f0.type = 1) (y1 : Try.prog.cellsOf f1.type = 1) (h : Rd enc W t cs d) (hs : Sz t d) :
    ∃ c0 c1 d0 d1, cs = [c0, c1] ∧ Rd enc W f0.type [c0] d0 ∧ Rd enc W f1.type [c1] d1 ∧ Sz f0.type d0 ∧ Sz f1.type d1 := by
  obtain ⟨hl, ds, rfl, _, hf⟩ := rd_struct ht h
  rw [hz] at hl
  match cs, hl with
  | [c0, c1], _ =>
    obtain ⟨d0, g0, r0⟩ := hf 0 f0 rfl
    obtain ⟨d1, g1, r1⟩ := hf 1 f1 rfl
    rw [z0, y0] at r0
    rw [z1, y1] at r1
    exact ⟨c0, c1, d0, d1, rfl, r0, r1, sz_struct ht hs (i := 0) rfl g0, sz_struct ht hs (i := 1) rfl g1⟩
end
end Go.Proofs.Ytmkkeglcjbogcaa
namespace Go.Proofs.Ytmkkeglcjbogcaa
open Go.ChangeShapes Go.WideShapes Go.ChangeAt Go.RowKit Go.Deep
set_option linter.unusedVariables false
set_option maxRecDepth 100000

section
variable {H : Type} {enc : TypeId × Value → H}

theorem fldS {W : World} {t : TypeId} {fs : Array Field} {cs : List Value} {d : DataW H} (ht : Try.prog.underlying t = some (.struct fs)) (h : Rd enc W t cs d) (hs : Sz t d) {i off n : Nat} {f : Field} (hf : fs[i]? = some f) (ho : f.offset = off) (hn : Try.prog.cellsOf f.type = n) :
    ∃ di, Rd enc W f.type ((cs.drop off).take n) di ∧ Sz f.type di := by
  obtain ⟨_, ds, rfl, _, hall⟩ := rd_struct ht h
  obtain ⟨di, hdi, r⟩ := hall i f hf
  subst ho hn
  exact ⟨di, r, sz_struct ht hs hf hdi⟩
theorem rd_item {W : World} (cs : List Value) (d : DataW H) (h : Rd enc W 121 cs d) (hs : Sz 121 d) : ∃ x, cs = encIt x ∧ BytesAt W x.2.2.1 x.2.2.2 ∧ Rng (bare x) ∧ x.2.2.2.length ≤ 140737488351232 := by
  obtain ⟨hl, _⟩ := rd_struct Try.underlying121 h
  have h3 : Try.prog.cellsOf 121 = 3 := by kernel_rfl
  rw [h3] at hl
  obtain ⟨d0, r0, _⟩ := fldS Try.underlying121 h hs (i := 0) (off := 0) (n := 1) rfl rfl (by kernel_rfl)
  obtain ⟨d1, r1, _⟩ := fldS Try.underlying121 h hs (i := 1) (off := 1) (n := 1) rfl rfl (by kernel_rfl)
  obtain ⟨d2, r2, s2⟩ := fldS Try.underlying121 h hs (i := 2) (off := 2) (n := 1) rfl rfl (by kernel_rfl)
  match cs, hl with
  | [c0, c1, c2], _ =>
    obtain ⟨a, ha, wa⟩ := rd_int Try.underlying69 r0
    obtain ⟨b, hb, wb⟩ := rd_int Try.underlying5 r1
    obtain ⟨v, bs, hv, hB, hl⟩ := rd_bytesS Try.underlying22 Try.underlying5 (by kernel_rfl) (by kernel_rfl) r2 s2
    simp at ha hb hv
    have h16 := u16_wf wa
    have h8 := u8_wf wb
    exact ⟨(a, b, v, bs), by rw [ha, hb, hv]; rfl, hB, ⟨h16.1, h16.2, h8.1, h8.2⟩, hl⟩

theorem rd_items {W : World} {c : Value} {d : DataW H} (h : Rd enc W 23 [c] d) (hs : Sz 23 d) : ∃ ys, ItemsAt W c ys ∧ (∀ y ∈ ys, Rng (bare y)) ∧ ys.length * 32 ≤ 140737488351232 ∧ ∀ y ∈ ys, y.2.2.2.length ≤ 140737488351232 := by
  obtain ⟨v, ys, hv, hsl, hg, hl⟩ := rd_slS (encα := encIt) (sz := 3) (fun x => BytesAt W x.2.2.1 x.2.2.2 ∧ Rng (bare x) ∧ x.2.2.2.length ≤ 140737488351232) Try.underlying23 (by kernel_rfl) (by decide) rd_item h hs
  obtain rfl : c = v := by simpa using hv
  have hb : Try.prog.bytesOf 121 = 32 := by kernel_rfl
  rw [hb] at hl
  exact ⟨ys, ⟨hsl, fun x hx => (hg x hx).1⟩, fun y hy => (hg y hy).2.1, hl, fun y hy => (hg y hy).2.2⟩
end
end Go.Proofs.Ytmkkeglcjbogcaa
