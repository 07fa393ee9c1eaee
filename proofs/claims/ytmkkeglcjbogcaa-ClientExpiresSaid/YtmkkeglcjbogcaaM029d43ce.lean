/-
  The client takes a segment of a read.
-/
import Derived.Test.YtmkkeglcjbogcaaM69e878db
set_option linter.unusedVariables false
set_option linter.unusedSimpArgs false
namespace Go.Proofs.Ytmkkeglcjbogcaa
open Go.RowKit
open List (getElem_toArray getElem_cons_zero getElem_cons_succ setIfInBounds_toArray set_cons_zero set_cons_succ)
set_option linter.unusedVariables false
set_option linter.unusedSimpArgs false

/-- Behind the append: the bytes are longer. -/
structure Fur (M : Nat → Prop) (c : Nat) (s : Cl) (f : F8) (vr : Value) (w wx : World) (m : Nat) (A : Option Addr) (cap : Nat) : Prop where
  cell : wx.heap[c]? = some (.cells (clC ⟨s.waits, s.idx, s.sub, s.b ++ f.part, s.turn, s.last, s.size, s.res, s.code, s.has⟩ (.slice A m cap) vr) 143 (0, 0))
  box : wx.heap[w.heap.size]? = some (.cells f.c 73 (0, 0))
  ret : wx.heap[w.heap.size + 1]? = some (.cells #[.int .u8 0, .int .u8 0, .int .u8 0, .int .u8 0, .int .u8 0, .int .u8 0, .int .u8 0, .int .u8 0] 73 (0, 0))
  own : Own8 0 wx (.slice A m cap) (s.b ++ f.part)
  blk : ∀ k, (Value.slice A m cap).ownBlock = some k → (M k ∨ w.heap.size ≤ k ∧ k < wx.heap.size) ∧ k ≠ c ∧ k ≠ w.heap.size ∧ k ≠ w.heap.size + 1
  frm : Frm M w wx
def FurCut (M : Nat → Prop) (c : Nat) (s : Cl) (f : F8) (vr : Value) (w wx : World) (m : Nat) : Prop := ∃ A cap, Fur M c s f vr w wx m A cap
theorem BytesAt.news {w : World} {A : Option Addr} {n cap : Nat} {bs : List UInt8} (h : BytesAt w (.slice A n cap) bs) (hn : bs.length = n) : 0 < n → ∃ g off, A = some ⟨g, off, none⟩ ∧ ∀ j u, (bs.map encB)[j]? = some u → w.cell? ⟨g, off + j, none⟩ = some u := by
  intro h0
  subst hn
  obtain ⟨A', cap', e, _, _, h3⟩ := h.open_
  simp only [Value.slice.injEq] at e
  obtain ⟨rfl, -, rfl⟩ := e
  exact h3 h0
theorem wp_app_srcB {P : Program} {o : Oper} {a : Act} {K : Act → World → Prop} {Q : Exit → Act → World → Prop} {w : World} {t e : TypeId} {size bytes B : Nat} (E : El P t e size bytes) (s x : Operand)
    (ho : o.op = .call { callee := .builtin .append, args := #[s, x], argTypes := #[t, t] }) {v : Value} {n m c : Nat} {A : Option Addr} {xs news : List Value} (hs : a.eval s = v) (hx : a.eval x = .slice A m c)
    (hown : w.ownsRow B e size v n xs) (hl : news.length = m * size) (hnews : 0 < m → ∃ g off, A = some ⟨g, off, none⟩ ∧ ∀ j u, news[j]? = some u → w.cell? ⟨g, off + j, none⟩ = some u) (h1 : ∀ u ∈ news, u.oneCell' = true)
    (h63 : n + m ≤ maxLen) (hbytes : (n + m) * bytes ≤ 140737488355328) (hbase : B ≤ w.heap.size)
    (h : ∀ A' cap w', w'.ownsRow B e size (.slice A' (n + m) cap) (n + m) (xs ++ news) → Frm (fun k => v.ownBlock = some k) w w' → (∀ k, (Value.slice A' (n + m) cap).ownBlock = some k → v.ownBlock = some k ∨ k = w.heap.size) → K (a.put o.dst (.slice A' (n + m) cap)) w') : o.wp P a w K Q := by
  obtain ⟨i, z, hi, hz, h2, h3, h4⟩ := E.ex
  by_cases hm : 0 < m
  · obtain ⟨g, off, rfl, hc⟩ := hnews hm
    refine wp_append_lies w s x t ho B e i z size bytes E.ht hi hz h2 h3 h4 E.pos v n xs hs hown ⟨g, off, none⟩ m c news hx hl (fun j u hj => by rw [add_off]; exact hc j u hj) h1 hm h63 hbytes hbase w.heap.size rfl ?_
    intro g cap w' ho' hg' hat hlt
    exact h _ cap w' ho' ((Frm.refl _ _).grown hg' (fun k hk _ => hk)) (fun k hk => by simp only [Value.ownBlock, Option.some.injEq] at hk; subst hk; exact hat)
  · obtain rfl : m = 0 := by omega
    have hn : news = [] := List.eq_nil_of_length_eq_zero (by simpa using hl)
    subst hn
    obtain ⟨A', cap, rfl, _⟩ := row_open hown
    have hr := run_append_empty (P := P) (ty := o.type) E.ht hi hown A c
    unfold Oper.wp execOp
    simp only [ho, resolve, invoke, builtin, Sem.run_bind, Sem.run_pure, Result.andThen_ok, List.map_toArray, List.map_cons, List.map_nil, hs, hx, hr]
    exact h A' cap w (by simpa using hown) (Frm.refl _ _) (fun k hk => .inl hk)
def FurPost (M : Nat → Prop) (c : Nat) (s : Cl) (f : F8) (w : World) (e : Ending) (w' : World) : Prop := e = .returned (.tuple #[(s.further f).2.1.v, .bool (s.further f).2.2]) ∧ ClPost M w c (s.further f).1 w'
theorem part_len (f : F8) (hf : f.ok) : (f.part.length : Int) = 7 - f.a0 / 2 % 8 := by
  have := hf.h0
  unfold byteI at this
  unfold F8.part
  rw [List.length_take, List.length_drop, fbytes_len]
  omega
theorem part_enc (f : F8) (hf : f.ok) (n : Nat) (hn : f.part.length = n) : f.part = (f.bytes.drop 1).take n := by
  have h := part_len f hf
  unfold F8.part
  congr 1
  omega
theorem xor_turn (t : Int) (h : t = 0 ∨ t = 16) : bits BinOp.xor IntKind.u8 t 16 = 16 - t := by rcases h with rfl | rfl <;> decide +kernel
theorem or_96 (t : Int) (h : t = 0 ∨ t = 16) : bits BinOp.or IntKind.u8 96 (16 - t) = 96 + (16 - t) := by rcases h with rfl | rfl <;> decide +kernel
set_option maxRecDepth 100000 in
set_option maxHeartbeats 4000000 in
theorem cfurther_any (M : Nat → Prop) (c : Nat) (s : Cl) (f : F8) (w : World) (h : ClHas M w c s) (hf : f.ok) (hw5 : s.waits = 5) (hlb : s.b.length ≤ 65536) : Calls Try.prog 116 #[ptr c, f.v] w (FurPost M c s f w) := by
  have H := Lib.hid h
  obtain ⟨hok, hM, hlt, vb, vr, hc, hb, hr, hvb, hvr, ho, hnn⟩ := h
  have HC := Lib.hid hc
  have hclt := lt_of_block hc
  have HM : Hid (M c) := hM
  have HF := Lib.hid hf
  have hO := ho (.inr hw5)
  obtain ⟨A, cap, rfl, hc1, hc2, _⟩ := row_open hO
  have HO := Lib.hid hO
  have HVB := Lib.hid hvb
  have HLT := Lib.hid hlt
  have hf0 := hf.h0
  obtain ⟨hf00, hf01⟩ := hf0
  have hpl := part_len f hf
  obtain ⟨n, hn⟩ : ∃ n, f.part.length = n := ⟨_, rfl⟩
  have hpe := part_enc f hf n hn
  have HPE := Lib.hid hpe
  have HPL := Lib.hid hn
  rw [hn] at hpl
  obtain ⟨a0, ha0⟩ : ∃ a0, a0 = f.a0 := ⟨_, rfl⟩
  rw [← ha0] at hf00 hf01 hpl
  have b1 := u8_and1 a0 hf00 hf01
  have b7 := u8_and7I (a0 / 2) (by omega) (by omega)
  have HA0 := Lib.hid ha0
  have hn7 : n ≤ 7 := by omega
  have c3 : w.cell? ⟨c, 3, none⟩ = some (.slice A s.b.length cap) := cell_at hc
  have HC3 := Lib.hid c3
  have q1 : IntKind.i64.wrap (a0 / 2 % 8) = a0 / 2 % 8 := IntWalk.i64_in _ (by omega)
  have q2 : IntKind.i64.wrap (8 - a0 / 2 % 8) = 8 - a0 / 2 % 8 := IntWalk.i64_in _ (by omega)
  have hsl := fun W => slice_f8 W w.heap.size 1 n 1 (8 - a0 / 2 % 8) rfl (by omega) (by omega) (by decide)
  have HSL := Lib.hid hsl
  have hlm : s.b.length ≤ 9223372036854775807 := Nat.le_trans hlb (by decide)
  have HLB := Lib.hid hlb
  have HOK := Lib.hid hok
  have HR := Lib.hid hr
  have HVR := Lib.hid hvr
  have HN4 : Hid (vr = .slice none 0 0) := hnn (by rw [hw5]; decide)
  have HW5 : Hid (s.waits = 5) := hw5
  have htn := hok.ht
  have HTN := Lib.hid htn
  have hxor := xor_turn s.turn htn
  have hor96 := or_96 s.turn htn
  unfold ptr F8.v
  clear hc hb hr hvb hvr ho hok hnn hw5 htn hM hlt ha0 hf hn hpe hO c3 hc1 hc2 hsl hlb
  go_enter Try.func116, Try.ntmps116
  go_upto_region 1 with fail
  have hbx : ((w.alloc (.cells f.c 73 (0, 0))).alloc (.cells #[.int .u8 0, .int .u8 0, .int .u8 0, .int .u8 0, .int .u8 0, .int .u8 0, .int .u8 0, .int .u8 0] 73 (0, 0))).heap[w.heap.size]? = some (.cells f.c 73 (0, 0)) := heap_alloc_old (heap_new w _)
  have hrt : ((w.alloc (.cells f.c 73 (0, 0))).alloc (.cells #[.int .u8 0, .int .u8 0, .int .u8 0, .int .u8 0, .int .u8 0, .int .u8 0, .int .u8 0, .int .u8 0] 73 (0, 0))).heap[w.heap.size + 1]? = some (.cells #[.int .u8 0, .int .u8 0, .int .u8 0, .int .u8 0, .int .u8 0, .int .u8 0, .int .u8 0, .int .u8 0] 73 (0, 0)) := heap_new_at (by simp)
  have hfb : Frm (fun _ => False) w ((w.alloc (.cells f.c 73 (0, 0))).alloc (.cells #[.int .u8 0, .int .u8 0, .int .u8 0, .int .u8 0, .int .u8 0, .int .u8 0, .int .u8 0, .int .u8 0] 73 (0, 0))) := by (repeat' (first | (with_reducible exact Frm.refl _ _) | (with_reducible assumption) | (with_reducible refine Frm.alloc ?_ _) | (with_reducible refine Frm.drew ?_) | (with_reducible refine Frm.drewN ?_ _) | (with_reducible refine Frm.set1 ?_ _) | (with_reducible refine Frm.setCell ?_ ?_ _) | (exact fun h => absurd h (Nat.lt_irrefl _)) | (intro hlt; simp [World.size_alloc, One] at hlt ⊢; omega)))
  obtain ⟨wb, hwb⟩ : ∃ wb, wb = (w.alloc (.cells f.c 73 (0, 0))).alloc (.cells #[.int .u8 0, .int .u8 0, .int .u8 0, .int .u8 0, .int .u8 0, .int .u8 0, .int .u8 0, .int .u8 0] 73 (0, 0)) := ⟨_, rfl⟩
  rw [← hwb] at hbx hrt hfb ⊢
  have HBX := Lib.hid hbx
  have HRT := Lib.hid hrt
  have HFB := Lib.hid hfb
  have hwbs := lt_of_block hrt
  clear hbx hrt hfb hwb
  have hbx := HBX.out
  have k0 : wb.cell? ⟨w.heap.size, 0, none⟩ = some (.int .u8 a0) := by rw [HA0.out]; exact cell_at hbx
  have HK0 := Lib.hid k0
  clear k0 hbx
  have HVW := Lib.hid (fun k hk => HLT.out k (HVB.out k hk).1)
  have HCC := Lib.hid (fun W (h : Frm (fun k => (Value.slice A s.b.length cap).ownBlock = some k ∨ k = c) wb W) => (⟨h.cell HK0.out (fun h => h.elim (fun h => absurd (HVW.out _ h) (Nat.lt_irrefl _)) (fun h => by simp only at h; omega)), HSL.out W⟩ : _ ∧ _))
  have HTR := Lib.hid (fun W (h : Frm (fun k => (Value.slice A s.b.length cap).ownBlock = some k ∨ k = c) wb W) => trivial)
  go_cut [] (fun wx => FurCut M c s f vr w wx (s.b.length + n))
  case first =>
    refine wp_region_held_drew (S := (fun W => Frm (fun k => (Value.slice A s.b.length cap).ownBlock = some k ∨ k = c) wb W)) (by kernel_rfl) ((Frm.refl _ _).drew) (fun hHeld => ?_)
    refine wpAnyH_take (i := 0) (v := ?_) rfl (by kernel_rfl) (by kernel_rfl) (by kernel_rfl) (fun _ _ _ h => h) (Or.inl ⟨by rfl, ?_⟩) (by assumption) ?_; rotate_left; · (intro wq hSq; have hq := HTR.out wq hSq; go_split_ands; go_simp; (try with_reducible rfl))
    try simp only [Act.put, getElem_toArray, getElem_cons_zero, getElem_cons_succ, setIfInBounds_toArray, set_cons_zero, set_cons_succ]
    refine wpAnyH_take (i := 1) (v := ?_) rfl (by kernel_rfl) (by kernel_rfl) (by kernel_rfl) (fun _ _ _ h => h) (Or.inl ⟨by rfl, ?_⟩) (by assumption) ?_; rotate_left; · (intro wq hSq; have hq := HTR.out wq hSq; go_split_ands; go_simp; (try with_reducible rfl))
    try simp only [Act.put, getElem_toArray, getElem_cons_zero, getElem_cons_succ, setIfInBounds_toArray, set_cons_zero, set_cons_succ]
    refine wpAnyH_take (i := 2) (v := ?_) rfl (by kernel_rfl) (by kernel_rfl) (by kernel_rfl) (fun _ _ _ h => h) (Or.inl ⟨by rfl, ?_⟩) (by assumption) ?_; rotate_left; · (intro wq hSq; have hq := HTR.out wq hSq; go_split_ands; go_simp; (try with_reducible rfl))
    try simp only [Act.put, getElem_toArray, getElem_cons_zero, getElem_cons_succ, setIfInBounds_toArray, set_cons_zero, set_cons_succ]
    refine wpAnyH_take (i := 3) (v := ?_) rfl (by kernel_rfl) (by kernel_rfl) (by kernel_rfl) (fun _ _ _ h => h) (Or.inl ⟨by rfl, ?_⟩) (by assumption) ?_; rotate_left; · (intro wq hSq; have hq := HTR.out wq hSq; go_split_ands; go_simp; (try with_reducible rfl))
    try simp only [Act.put, getElem_toArray, getElem_cons_zero, getElem_cons_succ, setIfInBounds_toArray, set_cons_zero, set_cons_succ]
    refine wpAnyH_take (i := 5) (v := ?_) rfl (by kernel_rfl) (by kernel_rfl) (by kernel_rfl) (fun _ _ _ h => h) (Or.inl ⟨by rfl, ?_⟩) (by assumption) ?_; rotate_left; · (intro wq hSq; have hq := HCC.out wq hSq; go_split_ands; go_simp; (try with_reducible rfl))
    try simp only [Act.put, getElem_toArray, getElem_cons_zero, getElem_cons_succ, setIfInBounds_toArray, set_cons_zero, set_cons_succ]
    refine wpAnyH_take (i := 6) (v := ?_) rfl (by kernel_rfl) (by kernel_rfl) (by kernel_rfl) (fun _ _ _ h => h) (Or.inl ⟨by rfl, ?_⟩) (by assumption) ?_; rotate_left; · (intro wq hSq; have hq := HCC.out wq hSq; go_split_ands; go_simp; (try with_reducible rfl))
    try simp only [Act.put, getElem_toArray, getElem_cons_zero, getElem_cons_succ, setIfInBounds_toArray, set_cons_zero, set_cons_succ]
    refine wpAnyH_take (i := 7) (v := ?_) rfl (by kernel_rfl) (by kernel_rfl) (by kernel_rfl) (fun _ _ _ h => h) (Or.inl ⟨by rfl, ?_⟩) (by assumption) ?_; rotate_left; · (intro wq hSq; have hq := HCC.out wq hSq; go_split_ands; go_simp; (try with_reducible rfl))
    try simp only [Act.put, getElem_toArray, getElem_cons_zero, getElem_cons_succ, setIfInBounds_toArray, set_cons_zero, set_cons_succ]
    refine wpAnyH_take (i := 8) (v := ?_) rfl (by kernel_rfl) (by kernel_rfl) (by kernel_rfl) (fun _ _ _ h => h) (Or.inl ⟨by rfl, ?_⟩) (by assumption) ?_; rotate_left; · (intro wq hSq; have hq := HCC.out wq hSq; go_split_ands; go_simp; (try with_reducible rfl))
    try simp only [Act.put, getElem_toArray, getElem_cons_zero, getElem_cons_succ, setIfInBounds_toArray, set_cons_zero, set_cons_succ]
    refine wpAnyH_take (i := 9) (v := ?_) rfl (by kernel_rfl) (by kernel_rfl) (by kernel_rfl) (fun _ _ _ h => h) (Or.inl ⟨by rfl, ?_⟩) (by assumption) ?_; rotate_left; · (intro wq hSq; have hq := HCC.out wq hSq; go_split_ands; go_simp; (try with_reducible rfl))
    try simp only [Act.put, getElem_toArray, getElem_cons_zero, getElem_cons_succ, setIfInBounds_toArray, set_cons_zero, set_cons_succ]
    refine wpAnyH_take (i := 10) (v := ?_) rfl (by kernel_rfl) (by kernel_rfl) (by kernel_rfl) (fun _ _ _ h => h) (Or.inl ⟨by rfl, ?_⟩) (by assumption) ?_; rotate_left; · (intro wq hSq; have hq := HCC.out wq hSq; go_split_ands; go_simp; (try with_reducible rfl))
    try simp only [Act.put, getElem_toArray, getElem_cons_zero, getElem_cons_succ, setIfInBounds_toArray, set_cons_zero, set_cons_succ]
    refine wpAnyH_take (i := 11) (v := ?_) rfl (by kernel_rfl) (by kernel_rfl) (by kernel_rfl) (fun _ _ _ h => h) (Or.inl ⟨by rfl, ?_⟩) (by assumption) ?_; rotate_left; · (intro wq hSq; have hq := HCC.out wq hSq; go_split_ands; go_simp; (try with_reducible rfl))
    try simp only [Act.put, getElem_toArray, getElem_cons_zero, getElem_cons_succ, setIfInBounds_toArray, set_cons_zero, set_cons_succ]
    have kc3 : wb.cell? ⟨c, 3, none⟩ = some (.slice A s.b.length cap) := HFB.out.cell HC3.out (fun h => h)
    refine wpAnyH_ready (rs := [4]) (by kernel_rfl) (by simp) ?_
    refine AllReadyH.cons rfl (fun K hK => ?_) AllReadyH.nil
    try simp only [getElem_toArray, getElem_cons_zero, getElem_cons_succ]
    go_simp
    refine hK.out _ _ (hHeld) (fun hHeld => ?_)
    clear hK K
    try simp only [Act.put, setIfInBounds_toArray, set_cons_zero, set_cons_succ]
    have hO0 : Own8 0 wb.drew (.slice A s.b.length cap) s.b := (HFB.out.drew).row HO.out (fun _ _ h => h)
    have hsrc := fbytes_at HBX.out HF.out 1 n 7 (by omega) (by omega) (by omega)
    rw [← HPE.out] at hsrc
    have hsrc2 := hsrc.news HPL.out
    refine wpAnyH_ready (rs := [12]) (by kernel_rfl) (by simp) ?_
    refine AllReadyH.cons rfl (fun K hK => ?_) AllReadyH.nil
    refine wp_app_srcB el_u8 (.tmp 10) (.tmp 17) rfl rfl rfl hO0 (by rw [List.length_map, HPL.out, Nat.mul_one]) hsrc2 (oneB' _) (by unfold maxLen; have := HLB.out; omega) (by have := HLB.out; omega) (Nat.zero_le _) ?_
    intro A' cap' w' hO' hF' hbk
    have HBK := Lib.hid hbk
    have hFb : Frm (fun k => (Value.slice A s.b.length cap).ownBlock = some k) wb w' := (Frm.refl _ _).drew.trans' hF'
    have hh : Frm (fun k => (Value.slice A s.b.length cap).ownBlock = some k ∨ k = c) wb w' := hFb.mono (fun _ _ h => .inl h)
    refine hK.out _ _ hh (fun hHeld => ?_)
    clear hK K
    try simp only [Act.put, setIfInBounds_toArray, set_cons_zero, set_cons_succ]
    refine wpAnyH_take (i := 13) (v := ?_) rfl (by kernel_rfl) (by kernel_rfl) (by kernel_rfl) (fun _ _ _ h => h) (Or.inl ⟨by rfl, ?_⟩) (by assumption) ?_; rotate_left; · (intro wq hSq; have hq := HTR.out wq hSq; go_split_ands; go_simp; (try with_reducible rfl))
    try simp only [Act.put, getElem_toArray, getElem_cons_zero, getElem_cons_succ, setIfInBounds_toArray, set_cons_zero, set_cons_succ]
    refine wpAnyH_take (i := 14) (v := ?_) rfl (by kernel_rfl) (by kernel_rfl) (by kernel_rfl) (fun _ _ _ h => h) (Or.inl ⟨by rfl, ?_⟩) (by assumption) ?_; rotate_left; · (intro wq hSq; have hq := HTR.out wq hSq; go_split_ands; go_simp; (try with_reducible rfl))
    try simp only [Act.put, getElem_toArray, getElem_cons_zero, getElem_cons_succ, setIfInBounds_toArray, set_cons_zero, set_cons_succ]
    have hcw := hFb.heap (HFB.out.heap HC.out (fun h => h)) (fun h => (HVB.out _ h).2 rfl)
    have kc3w : w'.cell? ⟨c, 3, none⟩ = some (.slice A s.b.length cap) := cell_at hcw
    have kcf := frees hcw
    have HCW := Lib.hid hcw
    have HO2 := Lib.hid hO'
    have HFB2 := Lib.hid hFb
    clear kc3 hO0 hsrc hsrc2 hF' hFb hcw hO' hbk
    refine wpAnyH_ready (rs := [15]) (by kernel_rfl) (by simp) ?_
    refine AllReadyH.cons rfl (fun K hK => ?_) AllReadyH.nil
    try simp only [getElem_toArray, getElem_cons_zero, getElem_cons_succ]
    go_simp
    refine hK.out _ _ (hHeld.setCell (fun _ => .inr rfl) _) (fun hHeld => ?_)
    clear hK K
    try simp only [Act.put, setIfInBounds_toArray, set_cons_zero, set_cons_succ]
    refine wpAnyH_done (by kernel_rfl) ?_ _
    have HH := Lib.hid hHeld
    clear hHeld hh kc3w kcf
    go_wp2_with fail
    go_meet
    have hbx := HFB2.out.heap HBX.out (fun h => Nat.lt_irrefl _ (HVW.out _ h))
    have hrt := HFB2.out.heap HRT.out (fun h => by have := HVW.out _ h; omega)
    have hwbl := HFB.out.size
    have hwl := HFB2.out.size
    have hty : ∀ k, (Value.slice A' (s.b.length + n) cap').ownBlock = some k → (k < w'.heap.size ∧ k ≠ c ∧ k ≠ w.heap.size ∧ k ≠ w.heap.size + 1) := fun k hk => by
      obtain ⟨_, cur, hcu⟩ := row_block HO2.out hk
      exact ⟨lt_of_block hcu, block_ne hcu HCW.out (by decide), block_ne hcu hbx (by decide), block_ne hcu hrt (by decide)⟩
    have hO8 : Own8 0 w' (.slice A' (s.b.length + n) cap') (s.b ++ f.part) := by
      unfold Own8
      rw [List.length_append, HPL.out, List.map_append]
      exact HO2.out
    refine ⟨A', cap', ?_, ?_, ?_, ?_, fun k hk => ?_, ?_⟩
    · show _ = some (Obj.cells #[.int .i64 s.waits, .int .u16 s.idx, .int .u8 s.sub, .slice A' (s.b.length + n) cap', .int .u8 s.turn, .bool s.last, .int .i64 s.size, vr, .int .u32 s.code, .bool s.has] 143 (0, 0))
      (apply heap_fin; (case h => (repeat (first | (with_reducible exact HCW.out) | (with_reducible apply heap_alloc_old) | (with_reducible apply heap_drewN') | (with_reducible apply heap_drew') | (with_reducible apply heap_set_same) | (with_reducible refine heap_set_other ?_ (by simp only []; omega)) | (with_reducible exact heap_new_at (by simp))))); (case e => rfl))
    · exact heap_set_other hbx (by show w.heap.size ≠ c; omega)
    · exact heap_set_other hrt (by show w.heap.size + 1 ≠ c; omega)
    · exact Frm.row (S := One c) ((Frm.refl _ _).set1 _) hO8 (fun k hk h => (hty k hk).2.1 h)
    · have h1 := hty k hk
      refine ⟨?_, h1.2⟩
      rcases HBK.out k hk with h | h
      · exact .inl (HVB.out k h).1
      · refine .inr ⟨by have : wb.drew.heap.size = wb.heap.size := rfl; omega, by simpa using h1.1⟩
    · refine Frm.setCell ?_ (fun _ => HM.out) _
      exact (HFB.out.mono (fun _ _ h => h.elim)).trans HFB2.out (fun i hi h => (HVB.out i h).1)
  case rest =>
    obtain ⟨A2, cap2, hFU⟩ := hcut
    have HFU := Lib.hid hFU
    have hlm : (s.b ++ f.part).length = s.b.length + n := by rw [List.length_append, HPL.out]
    generalize s.b.length + n = m at *
    have HLM := Lib.hid hlm
    have kc3 : wc.cell? ⟨c, 3, none⟩ = some (.slice A2 m cap2) := cell_at hFU.cell
    have kc4 : wc.cell? ⟨c, 4, none⟩ = some (.int .u8 s.turn) := cell_at hFU.cell
    have kc6 : wc.cell? ⟨c, 6, none⟩ = some (.int .i64 s.size) := cell_at hFU.cell
    have kcf := frees hFU.cell
    have kt0 : wc.cell? ⟨w.heap.size, 0, none⟩ = some (.int .u8 a0) := by rw [HA0.out]; exact cell_at hFU.box
    have hcb := lt_of_block hFU.ret
    have hml : m ≤ 9223372036854775807 := by have := HLB.out; have := HLM.out; rw [List.length_append, HPL.out] at this; omega
    have HGV := Lib.hid (fun W code (hF : Frm (fun _ => False) wc W) (hcd : 0 ≤ code ∧ code ≤ 4294967295) => cgives_any c _ _ vr code W (hF.heap hFU.cell (fun h => h)) HOK.out.hi hcd)
    have HEN := Lib.hid (fun W (hF : Frm (fun _ => False) wc W) => cends_any c _ A2 m cap2 0 W (hF.heap hFU.cell (fun h => h)) (clC_size _ _ _))
    have HMM := Lib.hid (fun Wz (h : Frm (One c) wc Wz) => hFU.frm.trans h (fun i hi hi2 => by rw [hi2]; exact HM.out))
    have HME : Hid (s.further f = if 65536 < m then s.gives 84148229 else if a0 % 2 = 0 then (⟨s.waits, s.idx, s.sub, s.b ++ f.part, 16 - s.turn, s.last, s.size, s.res, s.code, s.has⟩, ⟨96 + (16 - s.turn), 0, 0, 0, 0, 0, 0, 0⟩, true) else if 0 ≤ s.size ∧ s.size ≠ (m : Int) then s.gives 101122064 else (Cl.ends (s.b ++ f.part) 0, F8.zero, false)) := by
      unfold Hid Cl.further
      rw [HLM.out, HA0.out]
    clear hFU hlm HCC HTR HSL HK0 q1 q2 hpl b7 hf00 hf01
    by_cases hbig : 65536 < m
    · have HE : Hid (s.further f = s.gives 84148229) := by unfold Hid; rw [HME.out, if_pos hbig]
      have h1 : 65536 < (m : Int) := by omega
      clear hbig
      have hww : Frm (fun _ => False) wc wc := by (repeat' (first | (with_reducible exact Frm.refl _ _) | (with_reducible assumption) | (with_reducible refine Frm.alloc ?_ _) | (with_reducible refine Frm.drew ?_) | (with_reducible refine Frm.drewN ?_ _) | (with_reducible refine Frm.set1 ?_ _) | (with_reducible refine Frm.setCell ?_ ?_ _) | (exact fun h => absurd h (Nat.lt_irrefl _)) | (intro hlt; simp [World.size_alloc, One] at hlt ⊢; omega)))
      have hgv := HGV.out wc 84148229 hww (by decide)
      unfold Cl.gives at HE
      simp only at hgv
      obtain ⟨f2, hf2⟩ : ∃ f2, f2 = fr8 128 s.idx s.sub 84148229 := ⟨_, rfl⟩
      rw [← hf2] at hgv HE
      unfold ptr F8.v at hgv
      have HG := Lib.hid hgv
      clear hgv hf2
      go_wp2_with (first | (go_at_call 73; refine HG.out.mono ?_; rintro e w2 ⟨rfl, hc2, hF2⟩; have HC2 := Lib.hid hc2; have HF2 := Lib.hid ((hww.mono (fun _ _ h => h.elim) : Frm (One c) wc _).trans' hF2); have HR2 : Hid (w2.heap[w.heap.size + 1]? = some (.cells #[.int .u8 0, .int .u8 0, .int .u8 0, .int .u8 0, .int .u8 0, .int .u8 0, .int .u8 0, .int .u8 0] 73 (0, 0))) := hF2.heap (hww.heap HFU.out.ret (fun h => h)) (by simp only [One]; omega); clear hc2 hF2) | (refine wpl_store_whole rfl 73 (.tmp 4) (.tmp 30) rfl (w.heap.size + 1) f2.c rfl rfl 73 _ HR2.out info_f8 rfl (F8.one _) ?_; intro wz hwz hFz; have HW3 := Lib.hid hwz; have HF3 := Lib.hid hFz; clear hwz hFz))
      refine bodyPost_ret (ret_f8b rfl _ _ (w.heap.size + 1) f2.c rfl rfl HW3.out) rfl ?_
      unfold FurPost
      rw [HE.out]
      exact ⟨rfl, ClPost.lay H.out ((HMM.out _ HF2.out).trans HF3.out (fun i hi h => by simp only [One] at h; omega)) (ends_ok (Nat.zero_le _) (by decide)) (HF3.out.heap HC2.out (by simp only [One]; omega)) (nil_bytes _) (nil_bytes _) (fun k hk => absurd hk (nil_block k)) (fun k hk => absurd hk (nil_block k)) (fun h => by rcases h with h | h <;> exact absurd h (by show ¬ (0 : Int) = _; decide)) (fun _ => rfl)⟩
    · have h1 : ¬ 65536 < (m : Int) := by omega
      by_cases hs : a0 % 2 = 0
      · have HE : Hid (s.further f = (⟨s.waits, s.idx, s.sub, s.b ++ f.part, 16 - s.turn, s.last, s.size, s.res, s.code, s.has⟩, ⟨96 + (16 - s.turn), 0, 0, 0, 0, 0, 0, 0⟩, true)) := by unfold Hid; rw [HME.out, if_neg hbig, if_pos hs]
        have hb1 : (a0 % 2 == 0) = true := by simpa using hs
        have hb64 : m ≤ 65536 := by omega
        clear hbig hs
        go_wp2_with (refine wpl_store_whole rfl 73 (.tmp 4) (.tmp 49) rfl (w.heap.size + 1) (⟨96 + (16 - s.turn), 0, 0, 0, 0, 0, 0, 0⟩ : F8).c rfl rfl 73 F8.zero.c (by (apply heap_fin; (case h => (repeat (first | (with_reducible exact HFU.out.ret) | (with_reducible apply heap_alloc_old) | (with_reducible apply heap_drewN') | (with_reducible apply heap_drew') | (with_reducible apply heap_set_same) | (with_reducible refine heap_set_other ?_ (by simp only []; omega)) | (with_reducible exact heap_new_at (by simp))))); (case e => rfl))) info_f8 rfl (F8.one _) ?_; intro wz hwz hFz; have HW3 := Lib.hid hwz; have HF3 := Lib.hid hFz; clear hwz hFz)
        have hF4 : Frm (fun k => k = c ∨ k = w.heap.size + 1) wc wz := by
          refine Frm.trans (b := _) ?_ HF3.out (fun i hi h => .inr h)
          exact Frm.setCell (Frm.refl _ _) (fun _ => .inl rfl) _
        have hMz : Frm M w wz := HFU.out.frm.trans (hF4 : Frm (fun k => k = c ∨ k = w.heap.size + 1) wc wz) (fun i hi h => by rcases h with h | h; (rw [h]; exact HM.out); omega)
        have hO3 : Own8 0 wz (.slice A2 m cap2) (s.b ++ f.part) := hF4.row HFU.out.own (fun k hk h => by have := (HFU.out.blk k hk).2; omega)
        have hcw : wz.heap[c]? = some (.cells (clC ⟨s.waits, s.idx, s.sub, s.b ++ f.part, 16 - s.turn, s.last, s.size, s.res, s.code, s.has⟩ (.slice A2 m cap2) vr) 143 (0, 0)) := by
          refine HF3.out.heap ?_ (by simp only [One]; omega)
          show _ = some (Obj.cells #[.int .i64 s.waits, .int .u16 s.idx, .int .u8 s.sub, .slice A2 m cap2, .int .u8 (16 - s.turn), .bool s.last, .int .i64 s.size, vr, .int .u32 s.code, .bool s.has] 143 (0, 0))
          (apply heap_fin; (case h => (repeat (first | (with_reducible exact HFU.out.cell) | (with_reducible apply heap_alloc_old) | (with_reducible apply heap_drewN') | (with_reducible apply heap_drew') | (with_reducible apply heap_set_same) | (with_reducible refine heap_set_other ?_ (by simp only []; omega)) | (with_reducible exact heap_new_at (by simp))))); (case e => rfl))
        have HOK := HOK.out
        have hsz := hF4.size
        refine bodyPost_ret (ret_f8b rfl _ _ (w.heap.size + 1) (⟨96 + (16 - s.turn), 0, 0, 0, 0, 0, 0, 0⟩ : F8).c rfl rfl HW3.out) rfl ?_
        unfold FurPost
        rw [HE.out]
        exact ⟨rfl, ClPost.lay H.out hMz ⟨HOK.hw, HOK.hi, HOK.hs, by show 16 - s.turn = 0 ∨ 16 - s.turn = 16; have := HTN.out; omega, by show (s.b ++ f.part).length ≤ 65536; rw [HLM.out]; omega, HOK.hc, HOK.hz, HOK.hr⟩ hcw (BytesAt.of_row hO3) (HR.out.frm hMz (fun k hk => by rw [HN4.out] at hk; exact absurd hk (nil_block k))) (fun k hk => ⟨(HFU.out.blk k hk).1.imp id (fun h => ⟨h.1, by omega⟩), (HFU.out.blk k hk).2.1⟩) (fun k hk => by rw [HN4.out] at hk; exact absurd hk (nil_block k)) (fun _ => hO3) (fun _ => HN4.out)⟩
      · have hb1 : (a0 % 2 == 0) = false := by simpa using hs
        have HCS := Lib.hid (fun W (h : Frm (fun _ => False) wc W) => (⟨h.cell kc3 (fun h => h), h.cell kc6 (fun h => h)⟩ : _ ∧ _))
        have hb64 : m ≤ 65536 := by omega
        by_cases hz : 0 ≤ s.size
        · have hz1 : decide (0 ≤ s.size) = true := by simpa using hz
          by_cases hq : s.size = (m : Int)
          · have hb2 : (s.size != (m : Int)) = false := by simpa using hq
            have HE : Hid (s.further f = (Cl.ends (s.b ++ f.part) 0, F8.zero, false)) := by unfold Hid; rw [HME.out, if_neg hbig, if_neg hs, if_neg (fun h => h.2 hq)]
            clear hbig hs hq
            go_upto_region 7 with fail
            refine wp_region_held_drew (S := fun W => Frm (fun _ => False) wc W) (by kernel_rfl) ((Frm.refl _ _).drew) (fun hHeld => ?_)
            refine wpAnyH_take (i := 0) (v := ?_) rfl (by kernel_rfl) (by kernel_rfl) (by kernel_rfl) (fun _ _ _ h => h) (Or.inl ⟨by rfl, ?_⟩) (by assumption) ?_; rotate_left; · (intro wq hSq; have hq := HCS.out wq hSq; go_split_ands; go_simp; (try with_reducible rfl))
            try simp only [Act.put, getElem_toArray, getElem_cons_zero, getElem_cons_succ, setIfInBounds_toArray, set_cons_zero, set_cons_succ]
            refine wpAnyH_take (i := 1) (v := ?_) rfl (by kernel_rfl) (by kernel_rfl) (by kernel_rfl) (fun _ _ _ h => h) (Or.inl ⟨by rfl, ?_⟩) (by assumption) ?_; rotate_left; · (intro wq hSq; have hq := HCS.out wq hSq; go_split_ands; go_simp; (try with_reducible rfl))
            try simp only [Act.put, getElem_toArray, getElem_cons_zero, getElem_cons_succ, setIfInBounds_toArray, set_cons_zero, set_cons_succ]
            refine wpAnyH_take (i := 2) (v := ?_) rfl (by kernel_rfl) (by kernel_rfl) (by kernel_rfl) (fun _ _ _ h => h) (Or.inl ⟨by rfl, ?_⟩) (by assumption) ?_; rotate_left; · (intro wq hSq; have hq := HCS.out wq hSq; go_split_ands; go_simp; (try with_reducible rfl))
            try simp only [Act.put, getElem_toArray, getElem_cons_zero, getElem_cons_succ, setIfInBounds_toArray, set_cons_zero, set_cons_succ]
            refine wpAnyH_take (i := 3) (v := ?_) rfl (by kernel_rfl) (by kernel_rfl) (by kernel_rfl) (fun _ _ _ h => h) (Or.inl ⟨by rfl, ?_⟩) (by assumption) ?_; rotate_left; · (intro wq hSq; have hq := HCS.out wq hSq; go_split_ands; go_simp; (try with_reducible rfl))
            try simp only [Act.put, getElem_toArray, getElem_cons_zero, getElem_cons_succ, setIfInBounds_toArray, set_cons_zero, set_cons_succ]
            refine wpAnyH_take (i := 4) (v := ?_) rfl (by kernel_rfl) (by kernel_rfl) (by kernel_rfl) (fun _ _ _ h => h) (Or.inl ⟨by rfl, ?_⟩) (by assumption) ?_; rotate_left; · (intro wq hSq; have hq := HCS.out wq hSq; go_split_ands; go_simp; (try with_reducible rfl))
            try simp only [Act.put, getElem_toArray, getElem_cons_zero, getElem_cons_succ, setIfInBounds_toArray, set_cons_zero, set_cons_succ]
            refine wpAnyH_take (i := 5) (v := ?_) rfl (by kernel_rfl) (by kernel_rfl) (by kernel_rfl) (fun _ _ _ h => h) (Or.inl ⟨by rfl, ?_⟩) (by assumption) ?_; rotate_left; · (intro wq hSq; have hq := HCS.out wq hSq; go_split_ands; go_simp; (try with_reducible rfl))
            try simp only [Act.put, getElem_toArray, getElem_cons_zero, getElem_cons_succ, setIfInBounds_toArray, set_cons_zero, set_cons_succ]
            refine wpAnyH_take (i := 6) (v := ?_) rfl (by kernel_rfl) (by kernel_rfl) (by kernel_rfl) (fun _ _ _ h => h) (Or.inl ⟨by rfl, ?_⟩) (by assumption) ?_; rotate_left; · (intro wq hSq; have hq := HCS.out wq hSq; go_split_ands; go_simp; (try with_reducible rfl))
            try simp only [Act.put, getElem_toArray, getElem_cons_zero, getElem_cons_succ, setIfInBounds_toArray, set_cons_zero, set_cons_succ]
            refine wpAnyH_take (i := 7) (v := ?_) rfl (by kernel_rfl) (by kernel_rfl) (by kernel_rfl) (fun _ _ _ h => h) (Or.inl ⟨by rfl, ?_⟩) (by assumption) ?_; rotate_left; · (intro wq hSq; have hq := HCS.out wq hSq; go_split_ands; go_simp; (try with_reducible rfl))
            try simp only [Act.put, getElem_toArray, getElem_cons_zero, getElem_cons_succ, setIfInBounds_toArray, set_cons_zero, set_cons_succ]
            refine wpAnyH_take (i := 8) (v := ?_) rfl (by kernel_rfl) (by kernel_rfl) (by kernel_rfl) (fun _ _ _ h => h) (Or.inl ⟨by rfl, ?_⟩) (by assumption) ?_; rotate_left; · (intro wq hSq; have hq := HCS.out wq hSq; go_split_ands; go_simp; (try with_reducible rfl))
            try simp only [Act.put, getElem_toArray, getElem_cons_zero, getElem_cons_succ, setIfInBounds_toArray, set_cons_zero, set_cons_succ]
            refine wpAnyH_take (i := 9) (v := ?_) rfl (by kernel_rfl) (by kernel_rfl) (by kernel_rfl) (fun _ _ _ h => h) (Or.inl ⟨by rfl, ?_⟩) (by assumption) ?_; rotate_left; · (intro wq hSq; have hq := HCS.out wq hSq; go_split_ands; go_simp; (try with_reducible rfl))
            try simp only [Act.put, getElem_toArray, getElem_cons_zero, getElem_cons_succ, setIfInBounds_toArray, set_cons_zero, set_cons_succ]
            refine wpAnyH_take (i := 10) (v := ?_) rfl (by kernel_rfl) (by kernel_rfl) (by kernel_rfl) (fun _ _ _ h => h) (Or.inl ⟨by rfl, ?_⟩) (by assumption) ?_; rotate_left; · (intro wq hSq; have hq := HCS.out wq hSq; go_split_ands; go_simp; (try with_reducible rfl))
            try simp only [Act.put, getElem_toArray, getElem_cons_zero, getElem_cons_succ, setIfInBounds_toArray, set_cons_zero, set_cons_succ]
            refine wpAnyH_take (i := 11) (v := ?_) rfl (by kernel_rfl) (by kernel_rfl) (by kernel_rfl) (fun _ _ _ h => h) (Or.inl ⟨by rfl, ?_⟩) (by assumption) ?_; rotate_left; · (intro wq hSq; have hq := HCS.out wq hSq; go_split_ands; go_simp; (try with_reducible rfl))
            try simp only [Act.put, getElem_toArray, getElem_cons_zero, getElem_cons_succ, setIfInBounds_toArray, set_cons_zero, set_cons_succ]
            refine wpAnyH_take (i := 12) (v := ?_) rfl (by kernel_rfl) (by kernel_rfl) (by kernel_rfl) (fun _ _ _ h => h) (Or.inl ⟨by rfl, ?_⟩) (by assumption) ?_; rotate_left; · (intro wq hSq; have hq := HCS.out wq hSq; go_split_ands; go_simp; (try with_reducible rfl))
            try simp only [Act.put, getElem_toArray, getElem_cons_zero, getElem_cons_succ, setIfInBounds_toArray, set_cons_zero, set_cons_succ]
            refine wpAnyH_take (i := 13) (v := ?_) rfl (by kernel_rfl) (by kernel_rfl) (by kernel_rfl) (fun _ _ _ h => h) (Or.inl ⟨by rfl, ?_⟩) (by assumption) ?_; rotate_left; · (intro wq hSq; have hq := HCS.out wq hSq; go_split_ands; go_simp; (try with_reducible rfl))
            try simp only [Act.put, getElem_toArray, getElem_cons_zero, getElem_cons_succ, setIfInBounds_toArray, set_cons_zero, set_cons_succ]
            refine wpAnyH_take (i := 14) (v := ?_) rfl (by kernel_rfl) (by kernel_rfl) (by kernel_rfl) (fun _ _ _ h => h) (Or.inl ⟨by rfl, ?_⟩) (by assumption) ?_; rotate_left; · (intro wq hSq; have hq := HCS.out wq hSq; go_split_ands; go_simp; (try with_reducible rfl))
            try simp only [Act.put, getElem_toArray, getElem_cons_zero, getElem_cons_succ, setIfInBounds_toArray, set_cons_zero, set_cons_succ]
            refine wpAnyH_take (i := 15) (v := ?_) rfl (by kernel_rfl) (by kernel_rfl) (by kernel_rfl) (fun _ _ _ h => h) (Or.inl ⟨by rfl, ?_⟩) (by assumption) ?_; rotate_left; · (intro wq hSq; have hq := HCS.out wq hSq; go_split_ands; go_simp; (try with_reducible rfl))
            try simp only [Act.put, getElem_toArray, getElem_cons_zero, getElem_cons_succ, setIfInBounds_toArray, set_cons_zero, set_cons_succ]
            refine wpAnyH_take (i := 16) (v := ?_) rfl (by kernel_rfl) (by kernel_rfl) (by kernel_rfl) (fun _ _ _ h => h) (Or.inl ⟨by rfl, ?_⟩) (by assumption) ?_; rotate_left; · (intro wq hSq; have hq := HCS.out wq hSq; go_split_ands; go_simp; (try with_reducible rfl))
            try simp only [Act.put, getElem_toArray, getElem_cons_zero, getElem_cons_succ, setIfInBounds_toArray, set_cons_zero, set_cons_succ]
            refine wpAnyH_take (i := 17) (v := ?_) rfl (by kernel_rfl) (by kernel_rfl) (by kernel_rfl) (fun _ _ _ h => h) (Or.inl ⟨by rfl, ?_⟩) (by assumption) ?_; rotate_left; · (intro wq hSq; have hq := HCS.out wq hSq; go_split_ands; go_simp; (try with_reducible rfl))
            try simp only [Act.put, getElem_toArray, getElem_cons_zero, getElem_cons_succ, setIfInBounds_toArray, set_cons_zero, set_cons_succ]
            refine wpAnyH_done (by kernel_rfl) ?_ _
            have hww : Frm (fun _ => False) wc wc.drew := (Frm.refl _ _).drew
            have kd3 : wc.drew.cell? ⟨c, 3, none⟩ = some (.slice A2 m cap2) := kc3
            go_wp2_with (first | (go_at_call 95; refine (HEN.out _ (by (repeat' (first | (with_reducible exact Frm.refl _ _) | (with_reducible assumption) | (with_reducible refine Frm.alloc ?_ _) | (with_reducible refine Frm.drew ?_) | (with_reducible refine Frm.drewN ?_ _) | (with_reducible refine Frm.set1 ?_ _) | (with_reducible refine Frm.setCell ?_ ?_ _) | (exact fun h => absurd h (Nat.lt_irrefl _)) | (intro hlt; simp [World.size_alloc, One] at hlt ⊢; omega))))).mono ?_; rintro e w2 ⟨rfl, hc2, hF2⟩; have HC2 := Lib.hid hc2; have HF2 := Lib.hid (Frm.trans' ((Frm.refl (One c) wc).drew) hF2); have HR2 : Hid (w2.heap[w.heap.size + 1]? = some (.cells #[.int .u8 0, .int .u8 0, .int .u8 0, .int .u8 0, .int .u8 0, .int .u8 0, .int .u8 0, .int .u8 0] 73 (0, 0))) := hF2.heap HFU.out.ret (by simp only [One]; omega); clear hc2 hF2) | (refine wpl_store_whole rfl 73 (.tmp 4) (.tmp 78) rfl (w.heap.size + 1) F8.zero.c rfl rfl 73 _ HR2.out info_f8 rfl (F8.one _) ?_; intro wz hwz hFz; have HW3 := Lib.hid hwz; have HF3 := Lib.hid hFz; clear hwz hFz))
            have hF4 : Frm (fun k => k = c ∨ k = w.heap.size + 1) wc wz := (HF2.out.mono (fun _ _ h => .inl h)).trans HF3.out (fun i hi h => .inr h)
            have hMz : Frm M w wz := HFU.out.frm.trans hF4 (fun i hi h => by rcases h with h | h; (rw [h]; exact HM.out); omega)
            have hO3 : Own8 0 wz (.slice A2 m cap2) (s.b ++ f.part) := hF4.row HFU.out.own (fun k hk h => by have := (HFU.out.blk k hk).2; omega)
            have hsz := hF4.size
            refine bodyPost_ret (ret_f8b rfl _ _ (w.heap.size + 1) F8.zero.c rfl rfl HW3.out) rfl ?_
            unfold FurPost
            rw [HE.out]
            exact ⟨rfl, ClPost.lay H.out hMz (ends_ok (by rw [HLM.out]; omega) (by decide)) (HF3.out.heap HC2.out (by simp only [One]; omega)) (nil_bytes _) (BytesAt.of_row hO3) (fun k hk => absurd hk (nil_block k)) (fun k hk => ⟨(HFU.out.blk k hk).1.imp id (fun h => ⟨h.1, by omega⟩), (HFU.out.blk k hk).2.1⟩) (fun h => by rcases h with h | h <;> exact absurd h (by show ¬ (0 : Int) = _; decide)) (fun h => absurd rfl h)⟩
          · have hb2 : (s.size != (m : Int)) = true := by simpa using hq
            have HE : Hid (s.further f = s.gives 101122064) := by unfold Hid; rw [HME.out, if_neg hbig, if_neg hs, if_pos ⟨hz, hq⟩]
            clear hbig hs hq
            go_upto_region 7 with fail
            refine wp_region_held_drew (S := fun W => Frm (fun _ => False) wc W) (by kernel_rfl) ((Frm.refl _ _).drew) (fun hHeld => ?_)
            refine wpAnyH_take (i := 0) (v := ?_) rfl (by kernel_rfl) (by kernel_rfl) (by kernel_rfl) (fun _ _ _ h => h) (Or.inl ⟨by rfl, ?_⟩) (by assumption) ?_; rotate_left; · (intro wq hSq; have hq := HCS.out wq hSq; go_split_ands; go_simp; (try with_reducible rfl))
            try simp only [Act.put, getElem_toArray, getElem_cons_zero, getElem_cons_succ, setIfInBounds_toArray, set_cons_zero, set_cons_succ]
            refine wpAnyH_take (i := 1) (v := ?_) rfl (by kernel_rfl) (by kernel_rfl) (by kernel_rfl) (fun _ _ _ h => h) (Or.inl ⟨by rfl, ?_⟩) (by assumption) ?_; rotate_left; · (intro wq hSq; have hq := HCS.out wq hSq; go_split_ands; go_simp; (try with_reducible rfl))
            try simp only [Act.put, getElem_toArray, getElem_cons_zero, getElem_cons_succ, setIfInBounds_toArray, set_cons_zero, set_cons_succ]
            refine wpAnyH_take (i := 2) (v := ?_) rfl (by kernel_rfl) (by kernel_rfl) (by kernel_rfl) (fun _ _ _ h => h) (Or.inl ⟨by rfl, ?_⟩) (by assumption) ?_; rotate_left; · (intro wq hSq; have hq := HCS.out wq hSq; go_split_ands; go_simp; (try with_reducible rfl))
            try simp only [Act.put, getElem_toArray, getElem_cons_zero, getElem_cons_succ, setIfInBounds_toArray, set_cons_zero, set_cons_succ]
            refine wpAnyH_take (i := 3) (v := ?_) rfl (by kernel_rfl) (by kernel_rfl) (by kernel_rfl) (fun _ _ _ h => h) (Or.inl ⟨by rfl, ?_⟩) (by assumption) ?_; rotate_left; · (intro wq hSq; have hq := HCS.out wq hSq; go_split_ands; go_simp; (try with_reducible rfl))
            try simp only [Act.put, getElem_toArray, getElem_cons_zero, getElem_cons_succ, setIfInBounds_toArray, set_cons_zero, set_cons_succ]
            refine wpAnyH_take (i := 4) (v := ?_) rfl (by kernel_rfl) (by kernel_rfl) (by kernel_rfl) (fun _ _ _ h => h) (Or.inl ⟨by rfl, ?_⟩) (by assumption) ?_; rotate_left; · (intro wq hSq; have hq := HCS.out wq hSq; go_split_ands; go_simp; (try with_reducible rfl))
            try simp only [Act.put, getElem_toArray, getElem_cons_zero, getElem_cons_succ, setIfInBounds_toArray, set_cons_zero, set_cons_succ]
            refine wpAnyH_take (i := 5) (v := ?_) rfl (by kernel_rfl) (by kernel_rfl) (by kernel_rfl) (fun _ _ _ h => h) (Or.inl ⟨by rfl, ?_⟩) (by assumption) ?_; rotate_left; · (intro wq hSq; have hq := HCS.out wq hSq; go_split_ands; go_simp; (try with_reducible rfl))
            try simp only [Act.put, getElem_toArray, getElem_cons_zero, getElem_cons_succ, setIfInBounds_toArray, set_cons_zero, set_cons_succ]
            refine wpAnyH_take (i := 6) (v := ?_) rfl (by kernel_rfl) (by kernel_rfl) (by kernel_rfl) (fun _ _ _ h => h) (Or.inl ⟨by rfl, ?_⟩) (by assumption) ?_; rotate_left; · (intro wq hSq; have hq := HCS.out wq hSq; go_split_ands; go_simp; (try with_reducible rfl))
            try simp only [Act.put, getElem_toArray, getElem_cons_zero, getElem_cons_succ, setIfInBounds_toArray, set_cons_zero, set_cons_succ]
            refine wpAnyH_take (i := 7) (v := ?_) rfl (by kernel_rfl) (by kernel_rfl) (by kernel_rfl) (fun _ _ _ h => h) (Or.inl ⟨by rfl, ?_⟩) (by assumption) ?_; rotate_left; · (intro wq hSq; have hq := HCS.out wq hSq; go_split_ands; go_simp; (try with_reducible rfl))
            try simp only [Act.put, getElem_toArray, getElem_cons_zero, getElem_cons_succ, setIfInBounds_toArray, set_cons_zero, set_cons_succ]
            refine wpAnyH_take (i := 8) (v := ?_) rfl (by kernel_rfl) (by kernel_rfl) (by kernel_rfl) (fun _ _ _ h => h) (Or.inl ⟨by rfl, ?_⟩) (by assumption) ?_; rotate_left; · (intro wq hSq; have hq := HCS.out wq hSq; go_split_ands; go_simp; (try with_reducible rfl))
            try simp only [Act.put, getElem_toArray, getElem_cons_zero, getElem_cons_succ, setIfInBounds_toArray, set_cons_zero, set_cons_succ]
            refine wpAnyH_take (i := 9) (v := ?_) rfl (by kernel_rfl) (by kernel_rfl) (by kernel_rfl) (fun _ _ _ h => h) (Or.inl ⟨by rfl, ?_⟩) (by assumption) ?_; rotate_left; · (intro wq hSq; have hq := HCS.out wq hSq; go_split_ands; go_simp; (try with_reducible rfl))
            try simp only [Act.put, getElem_toArray, getElem_cons_zero, getElem_cons_succ, setIfInBounds_toArray, set_cons_zero, set_cons_succ]
            refine wpAnyH_take (i := 10) (v := ?_) rfl (by kernel_rfl) (by kernel_rfl) (by kernel_rfl) (fun _ _ _ h => h) (Or.inl ⟨by rfl, ?_⟩) (by assumption) ?_; rotate_left; · (intro wq hSq; have hq := HCS.out wq hSq; go_split_ands; go_simp; (try with_reducible rfl))
            try simp only [Act.put, getElem_toArray, getElem_cons_zero, getElem_cons_succ, setIfInBounds_toArray, set_cons_zero, set_cons_succ]
            refine wpAnyH_take (i := 11) (v := ?_) rfl (by kernel_rfl) (by kernel_rfl) (by kernel_rfl) (fun _ _ _ h => h) (Or.inl ⟨by rfl, ?_⟩) (by assumption) ?_; rotate_left; · (intro wq hSq; have hq := HCS.out wq hSq; go_split_ands; go_simp; (try with_reducible rfl))
            try simp only [Act.put, getElem_toArray, getElem_cons_zero, getElem_cons_succ, setIfInBounds_toArray, set_cons_zero, set_cons_succ]
            refine wpAnyH_take (i := 12) (v := ?_) rfl (by kernel_rfl) (by kernel_rfl) (by kernel_rfl) (fun _ _ _ h => h) (Or.inl ⟨by rfl, ?_⟩) (by assumption) ?_; rotate_left; · (intro wq hSq; have hq := HCS.out wq hSq; go_split_ands; go_simp; (try with_reducible rfl))
            try simp only [Act.put, getElem_toArray, getElem_cons_zero, getElem_cons_succ, setIfInBounds_toArray, set_cons_zero, set_cons_succ]
            refine wpAnyH_take (i := 13) (v := ?_) rfl (by kernel_rfl) (by kernel_rfl) (by kernel_rfl) (fun _ _ _ h => h) (Or.inl ⟨by rfl, ?_⟩) (by assumption) ?_; rotate_left; · (intro wq hSq; have hq := HCS.out wq hSq; go_split_ands; go_simp; (try with_reducible rfl))
            try simp only [Act.put, getElem_toArray, getElem_cons_zero, getElem_cons_succ, setIfInBounds_toArray, set_cons_zero, set_cons_succ]
            refine wpAnyH_take (i := 14) (v := ?_) rfl (by kernel_rfl) (by kernel_rfl) (by kernel_rfl) (fun _ _ _ h => h) (Or.inl ⟨by rfl, ?_⟩) (by assumption) ?_; rotate_left; · (intro wq hSq; have hq := HCS.out wq hSq; go_split_ands; go_simp; (try with_reducible rfl))
            try simp only [Act.put, getElem_toArray, getElem_cons_zero, getElem_cons_succ, setIfInBounds_toArray, set_cons_zero, set_cons_succ]
            refine wpAnyH_take (i := 15) (v := ?_) rfl (by kernel_rfl) (by kernel_rfl) (by kernel_rfl) (fun _ _ _ h => h) (Or.inl ⟨by rfl, ?_⟩) (by assumption) ?_; rotate_left; · (intro wq hSq; have hq := HCS.out wq hSq; go_split_ands; go_simp; (try with_reducible rfl))
            try simp only [Act.put, getElem_toArray, getElem_cons_zero, getElem_cons_succ, setIfInBounds_toArray, set_cons_zero, set_cons_succ]
            refine wpAnyH_take (i := 16) (v := ?_) rfl (by kernel_rfl) (by kernel_rfl) (by kernel_rfl) (fun _ _ _ h => h) (Or.inl ⟨by rfl, ?_⟩) (by assumption) ?_; rotate_left; · (intro wq hSq; have hq := HCS.out wq hSq; go_split_ands; go_simp; (try with_reducible rfl))
            try simp only [Act.put, getElem_toArray, getElem_cons_zero, getElem_cons_succ, setIfInBounds_toArray, set_cons_zero, set_cons_succ]
            refine wpAnyH_take (i := 17) (v := ?_) rfl (by kernel_rfl) (by kernel_rfl) (by kernel_rfl) (fun _ _ _ h => h) (Or.inl ⟨by rfl, ?_⟩) (by assumption) ?_; rotate_left; · (intro wq hSq; have hq := HCS.out wq hSq; go_split_ands; go_simp; (try with_reducible rfl))
            try simp only [Act.put, getElem_toArray, getElem_cons_zero, getElem_cons_succ, setIfInBounds_toArray, set_cons_zero, set_cons_succ]
            refine wpAnyH_done (by kernel_rfl) ?_ _
            have hww : Frm (fun _ => False) wc wc.drew := by (repeat' (first | (with_reducible exact Frm.refl _ _) | (with_reducible assumption) | (with_reducible refine Frm.alloc ?_ _) | (with_reducible refine Frm.drew ?_) | (with_reducible refine Frm.drewN ?_ _) | (with_reducible refine Frm.set1 ?_ _) | (with_reducible refine Frm.setCell ?_ ?_ _) | (exact fun h => absurd h (Nat.lt_irrefl _)) | (intro hlt; simp [World.size_alloc, One] at hlt ⊢; omega)))
            have hgv := HGV.out wc.drew 101122064 hww (by decide)
            unfold Cl.gives at HE
            simp only at hgv
            obtain ⟨f2, hf2⟩ : ∃ f2, f2 = fr8 128 s.idx s.sub 101122064 := ⟨_, rfl⟩
            rw [← hf2] at hgv HE
            unfold ptr F8.v at hgv
            have HG := Lib.hid hgv
            clear hgv hf2
            go_wp2_with (first | (go_at_call 73; refine HG.out.mono ?_; rintro e w2 ⟨rfl, hc2, hF2⟩; have HC2 := Lib.hid hc2; have HF2 := Lib.hid ((hww.mono (fun _ _ h => h.elim) : Frm (One c) wc _).trans' hF2); have HR2 : Hid (w2.heap[w.heap.size + 1]? = some (.cells #[.int .u8 0, .int .u8 0, .int .u8 0, .int .u8 0, .int .u8 0, .int .u8 0, .int .u8 0, .int .u8 0] 73 (0, 0))) := hF2.heap (hww.heap HFU.out.ret (fun h => h)) (by simp only [One]; omega); clear hc2 hF2) | (refine wpl_store_whole rfl 73 (.tmp 4) (.tmp 70) rfl (w.heap.size + 1) f2.c rfl rfl 73 _ HR2.out info_f8 rfl (F8.one _) ?_; intro wz hwz hFz; have HW3 := Lib.hid hwz; have HF3 := Lib.hid hFz; clear hwz hFz))
            refine bodyPost_ret (ret_f8b rfl _ _ (w.heap.size + 1) f2.c rfl rfl HW3.out) rfl ?_
            unfold FurPost
            rw [HE.out]
            exact ⟨rfl, ClPost.lay H.out ((HMM.out _ HF2.out).trans HF3.out (fun i hi h => by simp only [One] at h; omega)) (ends_ok (Nat.zero_le _) (by decide)) (HF3.out.heap HC2.out (by simp only [One]; omega)) (nil_bytes _) (nil_bytes _) (fun k hk => absurd hk (nil_block k)) (fun k hk => absurd hk (nil_block k)) (fun h => by rcases h with h | h <;> exact absurd h (by show ¬ (0 : Int) = _; decide)) (fun _ => rfl)⟩
        · have hz1 : decide (0 ≤ s.size) = false := by simpa using hz
          have HE : Hid (s.further f = (Cl.ends (s.b ++ f.part) 0, F8.zero, false)) := by unfold Hid; rw [HME.out, if_neg hbig, if_neg hs, if_neg (fun h => hz h.1)]
          clear hbig hs hz
          go_upto_region 7 with fail
          refine wp_region_held_drew (S := fun W => Frm (fun _ => False) wc W) (by kernel_rfl) ((Frm.refl _ _).drew) (fun hHeld => ?_)
          refine wpAnyH_take (i := 0) (v := ?_) rfl (by kernel_rfl) (by kernel_rfl) (by kernel_rfl) (fun _ _ _ h => h) (Or.inl ⟨by rfl, ?_⟩) (by assumption) ?_; rotate_left; · (intro wq hSq; have hq := HCS.out wq hSq; go_split_ands; go_simp; (try with_reducible rfl))
          try simp only [Act.put, getElem_toArray, getElem_cons_zero, getElem_cons_succ, setIfInBounds_toArray, set_cons_zero, set_cons_succ]
          refine wpAnyH_take (i := 1) (v := ?_) rfl (by kernel_rfl) (by kernel_rfl) (by kernel_rfl) (fun _ _ _ h => h) (Or.inl ⟨by rfl, ?_⟩) (by assumption) ?_; rotate_left; · (intro wq hSq; have hq := HCS.out wq hSq; go_split_ands; go_simp; (try with_reducible rfl))
          try simp only [Act.put, getElem_toArray, getElem_cons_zero, getElem_cons_succ, setIfInBounds_toArray, set_cons_zero, set_cons_succ]
          refine wpAnyH_take (i := 2) (v := ?_) rfl (by kernel_rfl) (by kernel_rfl) (by kernel_rfl) (fun _ _ _ h => h) (Or.inl ⟨by rfl, ?_⟩) (by assumption) ?_; rotate_left; · (intro wq hSq; have hq := HCS.out wq hSq; go_split_ands; go_simp; (try with_reducible rfl))
          try simp only [Act.put, getElem_toArray, getElem_cons_zero, getElem_cons_succ, setIfInBounds_toArray, set_cons_zero, set_cons_succ]
          refine wpAnyH_take (i := 3) (v := ?_) rfl (by kernel_rfl) (by kernel_rfl) (by kernel_rfl) (fun _ _ _ h => h) (Or.inl ⟨by rfl, ?_⟩) (by assumption) ?_; rotate_left; · (intro wq hSq; have hq := HCS.out wq hSq; go_split_ands; go_simp; (try with_reducible rfl))
          try simp only [Act.put, getElem_toArray, getElem_cons_zero, getElem_cons_succ, setIfInBounds_toArray, set_cons_zero, set_cons_succ]
          refine wpAnyH_take (i := 4) (v := ?_) rfl (by kernel_rfl) (by kernel_rfl) (by kernel_rfl) (fun _ _ _ h => h) (Or.inl ⟨by rfl, ?_⟩) (by assumption) ?_; rotate_left; · (intro wq hSq; have hq := HCS.out wq hSq; go_split_ands; go_simp; (try with_reducible rfl))
          try simp only [Act.put, getElem_toArray, getElem_cons_zero, getElem_cons_succ, setIfInBounds_toArray, set_cons_zero, set_cons_succ]
          refine wpAnyH_take (i := 5) (v := ?_) rfl (by kernel_rfl) (by kernel_rfl) (by kernel_rfl) (fun _ _ _ h => h) (Or.inl ⟨by rfl, ?_⟩) (by assumption) ?_; rotate_left; · (intro wq hSq; have hq := HCS.out wq hSq; go_split_ands; go_simp; (try with_reducible rfl))
          try simp only [Act.put, getElem_toArray, getElem_cons_zero, getElem_cons_succ, setIfInBounds_toArray, set_cons_zero, set_cons_succ]
          refine wpAnyH_take (i := 6) (v := undef) rfl (by kernel_rfl) (by kernel_rfl) (by kernel_rfl) (fun _ _ _ h => h) (Or.inr ⟨by rfl, rfl⟩) (by assumption) ?_
          try simp only [Act.put, getElem_toArray, getElem_cons_zero, getElem_cons_succ, setIfInBounds_toArray, set_cons_zero, set_cons_succ]
          refine wpAnyH_take (i := 7) (v := undef) rfl (by kernel_rfl) (by kernel_rfl) (by kernel_rfl) (fun _ _ _ h => h) (Or.inr ⟨by rfl, rfl⟩) (by assumption) ?_
          try simp only [Act.put, getElem_toArray, getElem_cons_zero, getElem_cons_succ, setIfInBounds_toArray, set_cons_zero, set_cons_succ]
          refine wpAnyH_take (i := 8) (v := undef) rfl (by kernel_rfl) (by kernel_rfl) (by kernel_rfl) (fun _ _ _ h => h) (Or.inr ⟨by rfl, rfl⟩) (by assumption) ?_
          try simp only [Act.put, getElem_toArray, getElem_cons_zero, getElem_cons_succ, setIfInBounds_toArray, set_cons_zero, set_cons_succ]
          refine wpAnyH_take (i := 9) (v := undef) rfl (by kernel_rfl) (by kernel_rfl) (by kernel_rfl) (fun _ _ _ h => h) (Or.inr ⟨by rfl, rfl⟩) (by assumption) ?_
          try simp only [Act.put, getElem_toArray, getElem_cons_zero, getElem_cons_succ, setIfInBounds_toArray, set_cons_zero, set_cons_succ]
          refine wpAnyH_take (i := 10) (v := undef) rfl (by kernel_rfl) (by kernel_rfl) (by kernel_rfl) (fun _ _ _ h => h) (Or.inr ⟨by rfl, rfl⟩) (by assumption) ?_
          try simp only [Act.put, getElem_toArray, getElem_cons_zero, getElem_cons_succ, setIfInBounds_toArray, set_cons_zero, set_cons_succ]
          refine wpAnyH_take (i := 11) (v := undef) rfl (by kernel_rfl) (by kernel_rfl) (by kernel_rfl) (fun _ _ _ h => h) (Or.inr ⟨by rfl, rfl⟩) (by assumption) ?_
          try simp only [Act.put, getElem_toArray, getElem_cons_zero, getElem_cons_succ, setIfInBounds_toArray, set_cons_zero, set_cons_succ]
          refine wpAnyH_take (i := 12) (v := undef) rfl (by kernel_rfl) (by kernel_rfl) (by kernel_rfl) (fun _ _ _ h => h) (Or.inr ⟨by rfl, rfl⟩) (by assumption) ?_
          try simp only [Act.put, getElem_toArray, getElem_cons_zero, getElem_cons_succ, setIfInBounds_toArray, set_cons_zero, set_cons_succ]
          refine wpAnyH_take (i := 13) (v := undef) rfl (by kernel_rfl) (by kernel_rfl) (by kernel_rfl) (fun _ _ _ h => h) (Or.inr ⟨by rfl, rfl⟩) (by assumption) ?_
          try simp only [Act.put, getElem_toArray, getElem_cons_zero, getElem_cons_succ, setIfInBounds_toArray, set_cons_zero, set_cons_succ]
          refine wpAnyH_take (i := 14) (v := undef) rfl (by kernel_rfl) (by kernel_rfl) (by kernel_rfl) (fun _ _ _ h => h) (Or.inr ⟨by rfl, rfl⟩) (by assumption) ?_
          try simp only [Act.put, getElem_toArray, getElem_cons_zero, getElem_cons_succ, setIfInBounds_toArray, set_cons_zero, set_cons_succ]
          refine wpAnyH_take (i := 15) (v := undef) rfl (by kernel_rfl) (by kernel_rfl) (by kernel_rfl) (fun _ _ _ h => h) (Or.inr ⟨by rfl, rfl⟩) (by assumption) ?_
          try simp only [Act.put, getElem_toArray, getElem_cons_zero, getElem_cons_succ, setIfInBounds_toArray, set_cons_zero, set_cons_succ]
          refine wpAnyH_take (i := 16) (v := ?_) rfl (by kernel_rfl) (by kernel_rfl) (by kernel_rfl) (fun _ _ _ h => h) (Or.inl ⟨by rfl, ?_⟩) (by assumption) ?_; rotate_left; · (intro wq hSq; have hq := HCS.out wq hSq; go_split_ands; go_simp; (try with_reducible rfl))
          try simp only [Act.put, getElem_toArray, getElem_cons_zero, getElem_cons_succ, setIfInBounds_toArray, set_cons_zero, set_cons_succ]
          refine wpAnyH_take (i := 17) (v := ?_) rfl (by kernel_rfl) (by kernel_rfl) (by kernel_rfl) (fun _ _ _ h => h) (Or.inl ⟨by rfl, ?_⟩) (by assumption) ?_; rotate_left; · (intro wq hSq; have hq := HCS.out wq hSq; go_split_ands; go_simp; (try with_reducible rfl))
          try simp only [Act.put, getElem_toArray, getElem_cons_zero, getElem_cons_succ, setIfInBounds_toArray, set_cons_zero, set_cons_succ]
          refine wpAnyH_done (by kernel_rfl) ?_ _
          have hww : Frm (fun _ => False) wc wc.drew := (Frm.refl _ _).drew
          have kd3 : wc.drew.cell? ⟨c, 3, none⟩ = some (.slice A2 m cap2) := kc3
          go_wp2_with (first | (go_at_call 95; refine (HEN.out _ (by (repeat' (first | (with_reducible exact Frm.refl _ _) | (with_reducible assumption) | (with_reducible refine Frm.alloc ?_ _) | (with_reducible refine Frm.drew ?_) | (with_reducible refine Frm.drewN ?_ _) | (with_reducible refine Frm.set1 ?_ _) | (with_reducible refine Frm.setCell ?_ ?_ _) | (exact fun h => absurd h (Nat.lt_irrefl _)) | (intro hlt; simp [World.size_alloc, One] at hlt ⊢; omega))))).mono ?_; rintro e w2 ⟨rfl, hc2, hF2⟩; have HC2 := Lib.hid hc2; have HF2 := Lib.hid (Frm.trans' ((Frm.refl (One c) wc).drew) hF2); have HR2 : Hid (w2.heap[w.heap.size + 1]? = some (.cells #[.int .u8 0, .int .u8 0, .int .u8 0, .int .u8 0, .int .u8 0, .int .u8 0, .int .u8 0, .int .u8 0] 73 (0, 0))) := hF2.heap HFU.out.ret (by simp only [One]; omega); clear hc2 hF2) | (refine wpl_store_whole rfl 73 (.tmp 4) (.tmp 78) rfl (w.heap.size + 1) F8.zero.c rfl rfl 73 _ HR2.out info_f8 rfl (F8.one _) ?_; intro wz hwz hFz; have HW3 := Lib.hid hwz; have HF3 := Lib.hid hFz; clear hwz hFz))
          have hF4 : Frm (fun k => k = c ∨ k = w.heap.size + 1) wc wz := (HF2.out.mono (fun _ _ h => .inl h)).trans HF3.out (fun i hi h => .inr h)
          have hMz : Frm M w wz := HFU.out.frm.trans hF4 (fun i hi h => by rcases h with h | h; (rw [h]; exact HM.out); omega)
          have hO3 : Own8 0 wz (.slice A2 m cap2) (s.b ++ f.part) := hF4.row HFU.out.own (fun k hk h => by have := (HFU.out.blk k hk).2; omega)
          have hsz := hF4.size
          refine bodyPost_ret (ret_f8b rfl _ _ (w.heap.size + 1) F8.zero.c rfl rfl HW3.out) rfl ?_
          unfold FurPost
          rw [HE.out]
          exact ⟨rfl, ClPost.lay H.out hMz (ends_ok (by rw [HLM.out]; omega) (by decide)) (HF3.out.heap HC2.out (by simp only [One]; omega)) (nil_bytes _) (BytesAt.of_row hO3) (fun k hk => absurd hk (nil_block k)) (fun k hk => ⟨(HFU.out.blk k hk).1.imp id (fun h => ⟨h.1, by omega⟩), (HFU.out.blk k hk).2.1⟩) (fun h => by rcases h with h | h <;> exact absurd h (by show ¬ (0 : Int) = _; decide)) (fun h => absurd rfl h)⟩
end Go.Proofs.Ytmkkeglcjbogcaa
