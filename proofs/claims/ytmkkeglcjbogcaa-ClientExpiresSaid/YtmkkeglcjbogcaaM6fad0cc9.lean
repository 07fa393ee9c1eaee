/-
  The client: its frame; giving up; what it waits for; whether an answer has its place. The client's segment: copying into a frame. What a client has in memory, before and after a call. read32: four bytes as a number.
-/
import Derived.Deep.DeepCutAuto
import Derived.Deep.RegionLaw
import Derived.Laws.CopyOwn
import Derived.Test.YtmkkeglcjbogcaaProg
import Derived.Deep.QuietTactic
import Derived.BigQuiet
import Derived.Laws.Bits64b
import Derived.Laws.BitsAllLaws
import Derived.Test.YtmkkeglcjbogcaaM7d461c19
set_option linter.unusedVariables false
set_option linter.unusedSimpArgs false
namespace Go.Proofs.Ytmkkeglcjbogcaa
open Go.RowKit
open List (getElem_toArray getElem_cons_zero getElem_cons_succ setIfInBounds_toArray set_cons_zero set_cons_succ)
set_option linter.unusedVariables false
set_option linter.unusedSimpArgs false

theorem byN {P : Int → Prop} (h : ∀ a : Fin 256, P (a.val : Int)) (x : Int) (h0 : 0 ≤ x) (h1 : x ≤ 255) : P x := by
  have := h ⟨x.toNat, by omega⟩
  have e : ((x.toNat : Nat) : Int) = x := by omega
  simpa [e] using this
theorem u8_and1 (x : Int) (h0 : 0 ≤ x) (h1 : x ≤ 255) : bits BinOp.and IntKind.u8 x 1 = x % 2 := by
  obtain ⟨n, rfl⟩ := Int.eq_ofNat_of_zero_le h0
  rw [show (1 : Int) = ((1 : Nat) : Int) from rfl, u8_and_nat n 1 (by omega) (by omega)]
  have := (show ∀ a : Fin 256, (a.val &&& 1) = a.val % 2 by decide +kernel) ⟨n, by omega⟩
  simp only at this
  omega
theorem u8_and2 (x : Int) (h0 : 0 ≤ x) (h1 : x ≤ 255) : bits BinOp.and IntKind.u8 x 2 = 2 * (x / 2 % 2) := by
  obtain ⟨n, rfl⟩ := Int.eq_ofNat_of_zero_le h0
  rw [show (2 : Int) = ((2 : Nat) : Int) from rfl, u8_and_nat n 2 (by omega) (by omega)]
  have := (show ∀ a : Fin 256, (a.val &&& 2) = 2 * (a.val / 2 % 2) by decide +kernel) ⟨n, by omega⟩
  simp only at this
  omega
theorem u8_and3 (x : Int) (h0 : 0 ≤ x) (h1 : x ≤ 255) : bits BinOp.and IntKind.u8 x 3 = x % 4 := by
  obtain ⟨n, rfl⟩ := Int.eq_ofNat_of_zero_le h0
  rw [show (3 : Int) = ((3 : Nat) : Int) from rfl, u8_and_nat n 3 (by omega) (by omega)]
  have := (show ∀ a : Fin 256, (a.val &&& 3) = a.val % 4 by decide +kernel) ⟨n, by omega⟩
  simp only at this
  omega
theorem u8_and7I (x : Int) (h0 : 0 ≤ x) (h1 : x ≤ 255) : bits BinOp.and IntKind.u8 x 7 = x % 8 := by
  obtain ⟨n, rfl⟩ := Int.eq_ofNat_of_zero_le h0
  rw [show (7 : Int) = ((7 : Nat) : Int) from rfl, u8_and_nat n 7 (by omega) (by omega)]
  have := (show ∀ a : Fin 256, (a.val &&& 7) = a.val % 8 by decide +kernel) ⟨n, by omega⟩
  simp only at this
  omega
theorem u8_and16 (x : Int) (h0 : 0 ≤ x) (h1 : x ≤ 255) : bits BinOp.and IntKind.u8 x 16 = 16 * (x / 16 % 2) := by
  obtain ⟨n, rfl⟩ := Int.eq_ofNat_of_zero_le h0
  rw [show (16 : Int) = ((16 : Nat) : Int) from rfl, u8_and_nat n 16 (by omega) (by omega)]
  have := (show ∀ a : Fin 256, (a.val &&& 16) = 16 * (a.val / 16 % 2) by decide +kernel) ⟨n, by omega⟩
  simp only at this
  omega
set_option maxRecDepth 100000 in
set_option maxHeartbeats 1000000 in
theorem cframe_any (c : Nat) (s : Cl) (vb vr : Value) (first n : Int) (w : World) (hc : w.heap[c]? = some (.cells (clC s vb vr) 143 (0, 0))) (hi : 0 ≤ s.idx ∧ s.idx ≤ 65535) (hn : 0 ≤ n ∧ n ≤ 4294967295) :
    Calls Try.prog 74 #[ptr c, .int .u8 first, .int .i64 n] w fun e w' => e = .returned (fr8 first s.idx s.sub n).v ∧ Frm (fun _ => False) w w' := by
  have HC := Lib.hid hc
  have c1 : w.cell? ⟨c, 1, none⟩ = some (.int .u16 s.idx) := cell_at hc
  have c2 : w.cell? ⟨c, 2, none⟩ = some (.int .u8 s.sub) := cell_at hc
  have hcl := lt_of_block hc
  obtain ⟨hi0, hi1⟩ := hi
  obtain ⟨hn0, hn1⟩ := hn
  generalize s.idx = idx at *
  generalize s.sub = sub at *
  have HCW := Lib.hid (fun W (h : Frm (fun _ => False) w W) => (⟨h.cell c1 (fun h => h), h.cell c2 (fun h => h)⟩ : _ ∧ _))
  unfold ptr
  clear hc c1 c2
  have q1 : IntKind.u8.wrap idx = idx % 256 := IntKind.wrap_u8 _
  have q2 : IntKind.u8.wrap (idx / 256) = idx / 256 := IntWalk.u8_in _ (by omega)
  have q3 : IntKind.u8.wrap n = n % 256 := IntKind.wrap_u8 _
  have q4 : IntKind.u8.wrap (n / 256) = n / 256 % 256 := IntKind.wrap_u8 _
  have q5 : IntKind.u8.wrap (n / 65536) = n / 65536 % 256 := IntKind.wrap_u8 _
  have q6 : IntKind.u8.wrap (n / 16777216) = n / 16777216 := IntWalk.u8_in _ (by omega)
  go_enter Try.func74, Try.ntmps74
  go_wp2
  refine wp_region_held_drew (S := fun W => Frm (fun _ => False) w W) (by kernel_rfl) (((Frm.refl _ _).alloc _).drew) (fun hHeld => ?_)
  refine wpAnyH_take (i := 0) (v := ?_) rfl (by kernel_rfl) (by kernel_rfl) (by kernel_rfl) (fun _ _ _ h => h) (Or.inl ⟨by rfl, ?_⟩) (by assumption) ?_; rotate_left; · (intro wq hSq; have hq := HCW.out wq hSq; go_split_ands; go_simp; (try with_reducible rfl))
  try simp only [Act.put, getElem_toArray, getElem_cons_zero, getElem_cons_succ, setIfInBounds_toArray, set_cons_zero, set_cons_succ]
  refine wpAnyH_take (i := 1) (v := ?_) rfl (by kernel_rfl) (by kernel_rfl) (by kernel_rfl) (fun _ _ _ h => h) (Or.inl ⟨by rfl, ?_⟩) (by assumption) ?_; rotate_left; · (intro wq hSq; have hq := HCW.out wq hSq; go_split_ands; go_simp; (try with_reducible rfl))
  try simp only [Act.put, getElem_toArray, getElem_cons_zero, getElem_cons_succ, setIfInBounds_toArray, set_cons_zero, set_cons_succ]
  refine wpAnyH_take (i := 2) (v := ?_) rfl (by kernel_rfl) (by kernel_rfl) (by kernel_rfl) (fun _ _ _ h => h) (Or.inl ⟨by rfl, ?_⟩) (by assumption) ?_; rotate_left; · (intro wq hSq; have hq := HCW.out wq hSq; go_split_ands; go_simp; (try with_reducible rfl))
  try simp only [Act.put, getElem_toArray, getElem_cons_zero, getElem_cons_succ, setIfInBounds_toArray, set_cons_zero, set_cons_succ]
  refine wpAnyH_take (i := 3) (v := ?_) rfl (by kernel_rfl) (by kernel_rfl) (by kernel_rfl) (fun _ _ _ h => h) (Or.inl ⟨by rfl, ?_⟩) (by assumption) ?_; rotate_left; · (intro wq hSq; have hq := HCW.out wq hSq; go_split_ands; go_simp; (try with_reducible rfl))
  try simp only [Act.put, getElem_toArray, getElem_cons_zero, getElem_cons_succ, setIfInBounds_toArray, set_cons_zero, set_cons_succ]
  refine wpAnyH_take (i := 4) (v := ?_) rfl (by kernel_rfl) (by kernel_rfl) (by kernel_rfl) (fun _ _ _ h => h) (Or.inl ⟨by rfl, ?_⟩) (by assumption) ?_; rotate_left; · (intro wq hSq; have hq := HCW.out wq hSq; go_split_ands; go_simp; (try with_reducible rfl))
  try simp only [Act.put, getElem_toArray, getElem_cons_zero, getElem_cons_succ, setIfInBounds_toArray, set_cons_zero, set_cons_succ]
  refine wpAnyH_take (i := 5) (v := ?_) rfl (by kernel_rfl) (by kernel_rfl) (by kernel_rfl) (fun _ _ _ h => h) (Or.inl ⟨by rfl, ?_⟩) (by assumption) ?_; rotate_left; · (intro wq hSq; have hq := HCW.out wq hSq; go_split_ands; go_simp; (try with_reducible rfl))
  try simp only [Act.put, getElem_toArray, getElem_cons_zero, getElem_cons_succ, setIfInBounds_toArray, set_cons_zero, set_cons_succ]
  refine wpAnyH_take (i := 6) (v := ?_) rfl (by kernel_rfl) (by kernel_rfl) (by kernel_rfl) (fun _ _ _ h => h) (Or.inl ⟨by rfl, ?_⟩) (by assumption) ?_; rotate_left; · (intro wq hSq; have hq := HCW.out wq hSq; go_split_ands; go_simp; (try with_reducible rfl))
  try simp only [Act.put, getElem_toArray, getElem_cons_zero, getElem_cons_succ, setIfInBounds_toArray, set_cons_zero, set_cons_succ]
  refine wpAnyH_take (i := 7) (v := ?_) rfl (by kernel_rfl) (by kernel_rfl) (by kernel_rfl) (fun _ _ _ h => h) (Or.inl ⟨by rfl, ?_⟩) (by assumption) ?_; rotate_left; · (intro wq hSq; have hq := HCW.out wq hSq; go_split_ands; go_simp; (try with_reducible rfl))
  try simp only [Act.put, getElem_toArray, getElem_cons_zero, getElem_cons_succ, setIfInBounds_toArray, set_cons_zero, set_cons_succ]
  refine wpAnyH_take (i := 8) (v := ?_) rfl (by kernel_rfl) (by kernel_rfl) (by kernel_rfl) (fun _ _ _ h => h) (Or.inl ⟨by rfl, ?_⟩) (by assumption) ?_; rotate_left; · (intro wq hSq; have hq := HCW.out wq hSq; go_split_ands; go_simp; (try with_reducible rfl))
  try simp only [Act.put, getElem_toArray, getElem_cons_zero, getElem_cons_succ, setIfInBounds_toArray, set_cons_zero, set_cons_succ]
  refine wpAnyH_take (i := 9) (v := ?_) rfl (by kernel_rfl) (by kernel_rfl) (by kernel_rfl) (fun _ _ _ h => h) (Or.inl ⟨by rfl, ?_⟩) (by assumption) ?_; rotate_left; · (intro wq hSq; have hq := HCW.out wq hSq; go_split_ands; go_simp; (try with_reducible rfl))
  try simp only [Act.put, getElem_toArray, getElem_cons_zero, getElem_cons_succ, setIfInBounds_toArray, set_cons_zero, set_cons_succ]
  refine wpAnyH_take (i := 10) (v := ?_) rfl (by kernel_rfl) (by kernel_rfl) (by kernel_rfl) (fun _ _ _ h => h) (Or.inl ⟨by rfl, ?_⟩) (by assumption) ?_; rotate_left; · (intro wq hSq; have hq := HCW.out wq hSq; go_split_ands; go_simp; (try with_reducible rfl))
  try simp only [Act.put, getElem_toArray, getElem_cons_zero, getElem_cons_succ, setIfInBounds_toArray, set_cons_zero, set_cons_succ]
  refine wpAnyH_take (i := 11) (v := ?_) rfl (by kernel_rfl) (by kernel_rfl) (by kernel_rfl) (fun _ _ _ h => h) (Or.inl ⟨by rfl, ?_⟩) (by assumption) ?_; rotate_left; · (intro wq hSq; have hq := HCW.out wq hSq; go_split_ands; go_simp; (try with_reducible rfl))
  try simp only [Act.put, getElem_toArray, getElem_cons_zero, getElem_cons_succ, setIfInBounds_toArray, set_cons_zero, set_cons_succ]
  refine wpAnyH_take (i := 12) (v := ?_) rfl (by kernel_rfl) (by kernel_rfl) (by kernel_rfl) (fun _ _ _ h => h) (Or.inl ⟨by rfl, ?_⟩) (by assumption) ?_; rotate_left; · (intro wq hSq; have hq := HCW.out wq hSq; go_split_ands; go_simp; (try with_reducible rfl))
  try simp only [Act.put, getElem_toArray, getElem_cons_zero, getElem_cons_succ, setIfInBounds_toArray, set_cons_zero, set_cons_succ]
  refine wpAnyH_take (i := 13) (v := ?_) rfl (by kernel_rfl) (by kernel_rfl) (by kernel_rfl) (fun _ _ _ h => h) (Or.inl ⟨by rfl, ?_⟩) (by assumption) ?_; rotate_left; · (intro wq hSq; have hq := HCW.out wq hSq; go_split_ands; go_simp; (try with_reducible rfl))
  try simp only [Act.put, getElem_toArray, getElem_cons_zero, getElem_cons_succ, setIfInBounds_toArray, set_cons_zero, set_cons_succ]
  refine wpAnyH_take (i := 14) (v := ?_) rfl (by kernel_rfl) (by kernel_rfl) (by kernel_rfl) (fun _ _ _ h => h) (Or.inl ⟨by rfl, ?_⟩) (by assumption) ?_; rotate_left; · (intro wq hSq; have hq := HCW.out wq hSq; go_split_ands; go_simp; (try with_reducible rfl))
  try simp only [Act.put, getElem_toArray, getElem_cons_zero, getElem_cons_succ, setIfInBounds_toArray, set_cons_zero, set_cons_succ]
  refine wpAnyH_take (i := 15) (v := ?_) rfl (by kernel_rfl) (by kernel_rfl) (by kernel_rfl) (fun _ _ _ h => h) (Or.inl ⟨by rfl, ?_⟩) (by assumption) ?_; rotate_left; · (intro wq hSq; have hq := HCW.out wq hSq; go_split_ands; go_simp; (try with_reducible rfl))
  try simp only [Act.put, getElem_toArray, getElem_cons_zero, getElem_cons_succ, setIfInBounds_toArray, set_cons_zero, set_cons_succ]
  refine wpAnyH_take (i := 16) (v := ?_) rfl (by kernel_rfl) (by kernel_rfl) (by kernel_rfl) (fun _ _ _ h => h) (Or.inl ⟨by rfl, ?_⟩) (by assumption) ?_; rotate_left; · (intro wq hSq; have hq := HCW.out wq hSq; go_split_ands; go_simp; (try with_reducible rfl))
  try simp only [Act.put, getElem_toArray, getElem_cons_zero, getElem_cons_succ, setIfInBounds_toArray, set_cons_zero, set_cons_succ]
  refine wpAnyH_take (i := 17) (v := ?_) rfl (by kernel_rfl) (by kernel_rfl) (by kernel_rfl) (fun _ _ _ h => h) (Or.inl ⟨by rfl, ?_⟩) (by assumption) ?_; rotate_left; · (intro wq hSq; have hq := HCW.out wq hSq; go_split_ands; go_simp; (try with_reducible rfl))
  try simp only [Act.put, getElem_toArray, getElem_cons_zero, getElem_cons_succ, setIfInBounds_toArray, set_cons_zero, set_cons_succ]
  refine wpAnyH_take (i := 18) (v := ?_) rfl (by kernel_rfl) (by kernel_rfl) (by kernel_rfl) (fun _ _ _ h => h) (Or.inl ⟨by rfl, ?_⟩) (by assumption) ?_; rotate_left; · (intro wq hSq; have hq := HCW.out wq hSq; go_split_ands; go_simp; (try with_reducible rfl))
  try simp only [Act.put, getElem_toArray, getElem_cons_zero, getElem_cons_succ, setIfInBounds_toArray, set_cons_zero, set_cons_succ]
  refine wpAnyH_take (i := 19) (v := ?_) rfl (by kernel_rfl) (by kernel_rfl) (by kernel_rfl) (fun _ _ _ h => h) (Or.inl ⟨by rfl, ?_⟩) (by assumption) ?_; rotate_left; · (intro wq hSq; have hq := HCW.out wq hSq; go_split_ands; go_simp; (try with_reducible rfl))
  try simp only [Act.put, getElem_toArray, getElem_cons_zero, getElem_cons_succ, setIfInBounds_toArray, set_cons_zero, set_cons_succ]
  refine wpAnyH_take (i := 20) (v := ?_) rfl (by kernel_rfl) (by kernel_rfl) (by kernel_rfl) (fun _ _ _ h => h) (Or.inl ⟨by rfl, ?_⟩) (by assumption) ?_; rotate_left; · (intro wq hSq; have hq := HCW.out wq hSq; go_split_ands; go_simp; (try with_reducible rfl))
  try simp only [Act.put, getElem_toArray, getElem_cons_zero, getElem_cons_succ, setIfInBounds_toArray, set_cons_zero, set_cons_succ]
  refine wpAnyH_take (i := 21) (v := ?_) rfl (by kernel_rfl) (by kernel_rfl) (by kernel_rfl) (fun _ _ _ h => h) (Or.inl ⟨by rfl, ?_⟩) (by assumption) ?_; rotate_left; · (intro wq hSq; have hq := HCW.out wq hSq; go_split_ands; go_simp; (try with_reducible rfl))
  try simp only [Act.put, getElem_toArray, getElem_cons_zero, getElem_cons_succ, setIfInBounds_toArray, set_cons_zero, set_cons_succ]
  refine wpAnyH_take (i := 22) (v := ?_) rfl (by kernel_rfl) (by kernel_rfl) (by kernel_rfl) (fun _ _ _ h => h) (Or.inl ⟨by rfl, ?_⟩) (by assumption) ?_; rotate_left; · (intro wq hSq; have hq := HCW.out wq hSq; go_split_ands; go_simp; (try with_reducible rfl))
  try simp only [Act.put, getElem_toArray, getElem_cons_zero, getElem_cons_succ, setIfInBounds_toArray, set_cons_zero, set_cons_succ]
  refine wpAnyH_take (i := 23) (v := ?_) rfl (by kernel_rfl) (by kernel_rfl) (by kernel_rfl) (fun _ _ _ h => h) (Or.inl ⟨by rfl, ?_⟩) (by assumption) ?_; rotate_left; · (intro wq hSq; have hq := HCW.out wq hSq; go_split_ands; go_simp; (try with_reducible rfl))
  try simp only [Act.put, getElem_toArray, getElem_cons_zero, getElem_cons_succ, setIfInBounds_toArray, set_cons_zero, set_cons_succ]
  refine wpAnyH_take (i := 24) (v := ?_) rfl (by kernel_rfl) (by kernel_rfl) (by kernel_rfl) (fun _ _ _ h => h) (Or.inl ⟨by rfl, ?_⟩) (by assumption) ?_; rotate_left; · (intro wq hSq; have hq := HCW.out wq hSq; go_split_ands; go_simp; (try with_reducible rfl))
  try simp only [Act.put, getElem_toArray, getElem_cons_zero, getElem_cons_succ, setIfInBounds_toArray, set_cons_zero, set_cons_succ]
  refine wpAnyH_take (i := 25) (v := ?_) rfl (by kernel_rfl) (by kernel_rfl) (by kernel_rfl) (fun _ _ _ h => h) (Or.inl ⟨by rfl, ?_⟩) (by assumption) ?_; rotate_left; · (intro wq hSq; have hq := HCW.out wq hSq; go_split_ands; go_simp; (try with_reducible rfl))
  try simp only [Act.put, getElem_toArray, getElem_cons_zero, getElem_cons_succ, setIfInBounds_toArray, set_cons_zero, set_cons_succ]
  refine wpAnyH_take (i := 26) (v := ?_) rfl (by kernel_rfl) (by kernel_rfl) (by kernel_rfl) (fun _ _ _ h => h) (Or.inl ⟨by rfl, ?_⟩) (by assumption) ?_; rotate_left; · (intro wq hSq; have hq := HCW.out wq hSq; go_split_ands; go_simp; (try with_reducible rfl))
  try simp only [Act.put, getElem_toArray, getElem_cons_zero, getElem_cons_succ, setIfInBounds_toArray, set_cons_zero, set_cons_succ]
  refine wpAnyH_take (i := 27) (v := ?_) rfl (by kernel_rfl) (by kernel_rfl) (by kernel_rfl) (fun _ _ _ h => h) (Or.inl ⟨by rfl, ?_⟩) (by assumption) ?_; rotate_left; · (intro wq hSq; have hq := HCW.out wq hSq; go_split_ands; go_simp; (try with_reducible rfl))
  try simp only [Act.put, getElem_toArray, getElem_cons_zero, getElem_cons_succ, setIfInBounds_toArray, set_cons_zero, set_cons_succ]
  refine wpAnyH_ready (rs := [28]) (by kernel_rfl) (by simp) ?_
  refine AllReadyH.cons rfl (fun K hK => ?_) AllReadyH.nil
  refine wp_store_whole 73 (.tmp 6) (.tmp 34) rfl w.heap.size (fr8 first idx sub n).c rfl rfl 73 _ (heap_drew' (heap_new w _)) info_f8 rfl (F8.one _) ?_
  intro w2 hw2 hF2
  refine hK.out _ _ (hHeld.trans hF2 (fun i hi h => by rw [h] at hi; exact absurd hi (Nat.lt_irrefl _))) (fun hHeld => ?_)
  clear hK K
  try simp only [Act.put, setIfInBounds_toArray, set_cons_zero, set_cons_succ]
  refine wpAnyH_done (by kernel_rfl) ?_ _
  go_wp2
  exact bodyPost_ret (ret_f8 rfl _ _ w.heap.size (fr8 first idx sub n).c rfl rfl hw2) rfl ⟨rfl, hHeld⟩
def GivesCut (wa : World) (f : F8) (pv : Value) (wx : World) : Prop := ∃ g, pv = .pointer (some ⟨g, 0, none⟩) ∧ wx.heap[g]? = some (.cells f.c 73 (0, 0)) ∧ Frm (fun _ => False) wa wx
set_option maxRecDepth 100000 in
set_option maxHeartbeats 1000000 in
theorem cgives_any (c : Nat) (s : Cl) (vb vr : Value) (code : Int) (w : World) (hc : w.heap[c]? = some (.cells (clC s vb vr) 143 (0, 0))) (hi : 0 ≤ s.idx ∧ s.idx ≤ 65535) (hn : 0 ≤ code ∧ code ≤ 4294967295) :
    Calls Try.prog 73 #[ptr c, .int .u32 code] w fun e w' => e = .returned (.tuple #[(fr8 128 s.idx s.sub code).v, .bool true]) ∧ w'.heap[c]? = some (.cells (clC (Cl.ends [] code) (.slice none 0 0) (.slice none 0 0)) 143 (0, 0)) ∧ Frm (One c) w w' := by
  have HC := Lib.hid hc
  have c1 : w.cell? ⟨c, 1, none⟩ = some (.int .u16 s.idx) := cell_at hc
  have c2 : w.cell? ⟨c, 2, none⟩ = some (.int .u8 s.sub) := cell_at hc
  have hcl := lt_of_block hc
  have HAB := Lib.hid (fun W => abort_any s.idx s.sub code W hi hn)
  have HCW := Lib.hid (fun W (h : Frm (fun _ => False) w W) => (⟨h.cell c1 (fun h => h), h.cell c2 (fun h => h)⟩ : _ ∧ _))
  generalize fr8 128 s.idx s.sub code = f at *
  generalize s.idx = idx at *
  generalize s.sub = sub at *
  unfold F8.v at *
  unfold ptr at *
  clear hc c1 c2 hi hn
  go_enter Try.func73, Try.ntmps73
  go_upto_region 1 with fail
  have ht0 : (w.alloc (.cells #[.int .u8 0, .int .u8 0, .int .u8 0, .int .u8 0, .int .u8 0, .int .u8 0, .int .u8 0, .int .u8 0] 73 (0, 0))).heap[w.heap.size]? = some (.cells #[.int .u8 0, .int .u8 0, .int .u8 0, .int .u8 0, .int .u8 0, .int .u8 0, .int .u8 0, .int .u8 0] 73 (0, 0)) := heap_new w _
  have hF0 : Frm (fun _ => False) w (w.alloc (.cells #[.int .u8 0, .int .u8 0, .int .u8 0, .int .u8 0, .int .u8 0, .int .u8 0, .int .u8 0, .int .u8 0] 73 (0, 0))) := (Frm.refl _ _).alloc _
  obtain ⟨wa, hwa⟩ : ∃ wa, wa = w.alloc (.cells #[.int .u8 0, .int .u8 0, .int .u8 0, .int .u8 0, .int .u8 0, .int .u8 0, .int .u8 0, .int .u8 0] 73 (0, 0)) := ⟨_, rfl⟩
  rw [← hwa] at ht0 hF0 ⊢
  have HT0 := Lib.hid ht0
  have HF0 := Lib.hid hF0
  clear hwa ht0 hF0
  go_cut [6] (fun pv wx => GivesCut wa f pv wx)
  case first =>
    refine wp_region_held_drew (S := fun W => Frm (fun _ => False) wa W) (by kernel_rfl) ((Frm.refl _ _).drew) (fun hHeld => ?_)
    refine wpAnyH_take (i := 0) (v := ?_) rfl (by kernel_rfl) (by kernel_rfl) (by kernel_rfl) (fun _ _ _ h => h) (Or.inl ⟨by rfl, ?_⟩) (by assumption) ?_; rotate_left; · (intro wq hSq; have hq := (fun W h => HCW.out W (HF0.out.trans' h)) wq hSq; go_split_ands; go_simp; (try with_reducible rfl))
    try simp only [Act.put, getElem_toArray, getElem_cons_zero, getElem_cons_succ, setIfInBounds_toArray, set_cons_zero, set_cons_succ]
    refine wpAnyH_take (i := 1) (v := ?_) rfl (by kernel_rfl) (by kernel_rfl) (by kernel_rfl) (fun _ _ _ h => h) (Or.inl ⟨by rfl, ?_⟩) (by assumption) ?_; rotate_left; · (intro wq hSq; have hq := (fun W h => HCW.out W (HF0.out.trans' h)) wq hSq; go_split_ands; go_simp; (try with_reducible rfl))
    try simp only [Act.put, getElem_toArray, getElem_cons_zero, getElem_cons_succ, setIfInBounds_toArray, set_cons_zero, set_cons_succ]
    refine wpAnyH_take (i := 2) (v := ?_) rfl (by kernel_rfl) (by kernel_rfl) (by kernel_rfl) (fun _ _ _ h => h) (Or.inl ⟨by rfl, ?_⟩) (by assumption) ?_; rotate_left; · (intro wq hSq; have hq := (fun W h => HCW.out W (HF0.out.trans' h)) wq hSq; go_split_ands; go_simp; (try with_reducible rfl))
    try simp only [Act.put, getElem_toArray, getElem_cons_zero, getElem_cons_succ, setIfInBounds_toArray, set_cons_zero, set_cons_succ]
    refine wpAnyH_take (i := 3) (v := ?_) rfl (by kernel_rfl) (by kernel_rfl) (by kernel_rfl) (fun _ _ _ h => h) (Or.inl ⟨by rfl, ?_⟩) (by assumption) ?_; rotate_left; · (intro wq hSq; have hq := (fun W h => HCW.out W (HF0.out.trans' h)) wq hSq; go_split_ands; go_simp; (try with_reducible rfl))
    try simp only [Act.put, getElem_toArray, getElem_cons_zero, getElem_cons_succ, setIfInBounds_toArray, set_cons_zero, set_cons_succ]
    refine wpAnyH_take (i := 4) (v := ?_) rfl (by kernel_rfl) (by kernel_rfl) (by kernel_rfl) (fun _ _ _ h => h) (Or.inl ⟨by rfl, ?_⟩) (by assumption) ?_; rotate_left; · (intro wq hSq; have hq := (fun W h => HCW.out W (HF0.out.trans' h)) wq hSq; go_split_ands; go_simp; (try with_reducible rfl))
    try simp only [Act.put, getElem_toArray, getElem_cons_zero, getElem_cons_succ, setIfInBounds_toArray, set_cons_zero, set_cons_succ]
    refine wpAnyH_take (i := 5) (v := ?_) rfl (by kernel_rfl) (by kernel_rfl) (by kernel_rfl) (fun _ _ _ h => h) (Or.inl ⟨by rfl, ?_⟩) (by assumption) ?_; rotate_left; · (intro wq hSq; have hq := (fun W h => HCW.out W (HF0.out.trans' h)) wq hSq; go_split_ands; go_simp; (try with_reducible rfl))
    try simp only [Act.put, getElem_toArray, getElem_cons_zero, getElem_cons_succ, setIfInBounds_toArray, set_cons_zero, set_cons_succ]
    refine wpAnyH_take (i := 6) (v := ?_) rfl (by kernel_rfl) (by kernel_rfl) (by kernel_rfl) (fun _ _ _ h => h) (Or.inl ⟨by rfl, ?_⟩) (by assumption) ?_; rotate_left; · (intro wq hSq; have hq := (fun W h => HCW.out W (HF0.out.trans' h)) wq hSq; go_split_ands; go_simp; (try with_reducible rfl))
    try simp only [Act.put, getElem_toArray, getElem_cons_zero, getElem_cons_succ, setIfInBounds_toArray, set_cons_zero, set_cons_succ]
    refine wpAnyH_take (i := 7) (v := ?_) rfl (by kernel_rfl) (by kernel_rfl) (by kernel_rfl) (fun _ _ _ h => h) (Or.inl ⟨by rfl, ?_⟩) (by assumption) ?_; rotate_left; · (intro wq hSq; have hq := (fun W h => HCW.out W (HF0.out.trans' h)) wq hSq; go_split_ands; go_simp; (try with_reducible rfl))
    try simp only [Act.put, getElem_toArray, getElem_cons_zero, getElem_cons_succ, setIfInBounds_toArray, set_cons_zero, set_cons_succ]
    refine wpAnyH_take (i := 8) (v := ?_) rfl (by kernel_rfl) (by kernel_rfl) (by kernel_rfl) (fun _ _ _ h => h) (Or.inl ⟨by rfl, ?_⟩) (by assumption) ?_; rotate_left; · (intro wq hSq; have hq := (fun W h => HCW.out W (HF0.out.trans' h)) wq hSq; go_split_ands; go_simp; (try with_reducible rfl))
    try simp only [Act.put, getElem_toArray, getElem_cons_zero, getElem_cons_succ, setIfInBounds_toArray, set_cons_zero, set_cons_succ]
    refine wpAnyH_ready (rs := [9, 10]) (by kernel_rfl) (by simp) ?_
    refine AllReadyH.cons rfl (fun K hK => ?_) (AllReadyH.cons rfl (fun K hK => ?_) AllReadyH.nil)
    · try simp only [getElem_toArray, getElem_cons_zero, getElem_cons_succ]
      go_simp
      refine (HAB.out _).mono ?_
      rintro e w1 ⟨rfl, hF1⟩
      go_wp2_with fail
      refine hK.out _ _ (hHeld.trans' hF1) (fun hHeld => ?_)
      clear hK K
      try simp only [Act.put, setIfInBounds_toArray, set_cons_zero, set_cons_succ]
      refine wpAnyH_ready (rs := [10]) (by kernel_rfl) (by simp) ?_
      refine AllReadyH.cons rfl (fun K hK => ?_) AllReadyH.nil
      try simp only [getElem_toArray, getElem_cons_zero, getElem_cons_succ]
      go_simp
      refine hK.out _ _ (hHeld.alloc _) (fun hHeld => ?_)
      clear hK K
      try simp only [Act.put, setIfInBounds_toArray, set_cons_zero, set_cons_succ]
      refine wpAnyH_ready (rs := [11]) (by kernel_rfl) (by simp) ?_
      refine AllReadyH.cons rfl (fun K hK => ?_) AllReadyH.nil
      refine wp_store_whole 73 (.tmp 6) (.tmp 16) rfl w1.heap.size f.c rfl rfl 73 _ (heap_new w1 _) info_f8 rfl (F8.one _) ?_
      intro w2 hw2 hF2
      have hh := hHeld.trans hF2 (fun i hi h => by have h5 := hF1.size; rw [h] at hi; have h6 : wa.heap.size ≤ w1.heap.size := h5; omega)
      refine hK.out _ _ hh (fun hHeld => ?_)
      clear hK K
      try simp only [Act.put, setIfInBounds_toArray, set_cons_zero, set_cons_succ]
      refine wpAnyH_done (by kernel_rfl) ?_ _
      go_wp2_with fail
      go_meet
      exact ⟨_, rfl, hw2, hh⟩
    · try simp only [getElem_toArray, getElem_cons_zero, getElem_cons_succ]
      go_simp
      refine hK.out _ _ (hHeld.alloc _) (fun hHeld => ?_)
      clear hK K
      try simp only [Act.put, setIfInBounds_toArray, set_cons_zero, set_cons_succ]
      refine wpAnyH_ready (rs := [9]) (by kernel_rfl) (by simp) ?_
      refine AllReadyH.cons rfl (fun K hK => ?_) AllReadyH.nil
      try simp only [getElem_toArray, getElem_cons_zero, getElem_cons_succ]
      go_simp
      refine (HAB.out _).mono ?_
      rintro e w1 ⟨rfl, hF1⟩
      have hk : w1.heap[wa.heap.size]? = some (.cells #[.int .u8 0, .int .u8 0, .int .u8 0, .int .u8 0, .int .u8 0, .int .u8 0, .int .u8 0, .int .u8 0] 73 (0, 0)) := hF1.heap (by first | exact heap_drew' (heap_new wa _) | exact heap_new wa _) (fun h => h)
      go_wp2_with fail
      refine hK.out _ _ (hHeld.trans' hF1) (fun hHeld => ?_)
      clear hK K
      try simp only [Act.put, setIfInBounds_toArray, set_cons_zero, set_cons_succ]
      refine wpAnyH_ready (rs := [11]) (by kernel_rfl) (by simp) ?_
      refine AllReadyH.cons rfl (fun K hK => ?_) AllReadyH.nil
      refine wp_store_whole 73 (.tmp 6) (.tmp 16) rfl wa.heap.size f.c rfl rfl 73 _ hk info_f8 rfl (F8.one _) ?_
      intro w2 hw2 hF2
      have hh := hHeld.trans hF2 (fun i hi h => by rw [h] at hi; exact absurd hi (Nat.lt_irrefl _))
      refine hK.out _ _ hh (fun hHeld => ?_)
      clear hK K
      try simp only [Act.put, setIfInBounds_toArray, set_cons_zero, set_cons_succ]
      refine wpAnyH_done (by kernel_rfl) ?_ _
      go_wp2_with fail
      go_meet
      exact ⟨_, rfl, hw2, hh⟩
  case rest =>
    obtain ⟨g, rfl, hg, hFg⟩ := hcut
    have hcc := (HF0.out.trans' hFg).heap HC.out (fun h => h)
    have htt := hFg.heap HT0.out (fun h => h)
    have hE := cends_any c _ none 0 0 code wc hcc (clC_size _ _ _)
    have HE := Lib.hid hE
    have HG := Lib.hid hg
    have HTT := Lib.hid htt
    have HFW := Lib.hid (HF0.out.trans' hFg)
    have hgc : g ≠ c := fun e => by rw [e] at hg; rw [hg] at hcc; simp at hcc
    have htc : w.heap.size ≠ c := fun e => by rw [← e] at hcc; rw [htt] at hcc; simp at hcc
    clear hg hFg hcc htt hE
    go_wp2_with fail
    refine HE.out.mono ?_
    rintro e w3 ⟨rfl, hc3, hF3⟩
    have HC3 := Lib.hid hc3
    have HG3 := Lib.hid (hF3.heap HG.out hgc)
    have HT3 := Lib.hid (hF3.heap HTT.out htc)
    have HF3 := Lib.hid (((HFW.out.mono (fun _ _ h => h.elim)).trans hF3 (fun i hi h => h) : Frm (One c) w w3))
    clear hc3 hF3 HE HG HTT HFW
    go_wp2_with (first | (refine wpList_load_row rfl 73 (.tmp 6) rfl g rfl 73 f.c (0, 0) _ HG3.out Try.underlying73 rfl (by rw [F8.size]; exact info_f8) ?_) | (refine wpl_store_whole rfl 73 (.tmp 4) (.tmp 20) rfl w.heap.size f.c rfl rfl 73 _ HT3.out info_f8 rfl f.one ?_; intro w4 hw4 hF4; have HW4 := Lib.hid hw4; have HF4 := Lib.hid hF4; clear hw4 hF4))
    exact bodyPost_ret (ret_f8b rfl _ _ w.heap.size f.c rfl rfl HW4.out) rfl ⟨rfl, HF4.out.heap HC3.out (fun h => htc h.symm), HF3.out.trans HF4.out (fun i hi h => by rw [h] at hi; exact absurd hi (Nat.lt_irrefl _))⟩
set_option maxRecDepth 100000 in
theorem chead_any (c : Nat) (s : Cl) (vb vr : Value) (w : World) (hc : w.heap[c]? = some (.cells (clC s vb vr) 143 (0, 0))) (hw : 0 ≤ s.waits ∧ s.waits ≤ 5) :
    Calls Try.prog 97 #[ptr c] w fun e w' => e = .returned (.int .u8 s.head) ∧ w' = w := by
  have c0 : w.cell? ⟨c, 0, none⟩ = some (.int .i64 s.waits) := cell_at hc
  have HH : Hid (s.head = if s.waits = 1 ∨ s.waits = 2 then 3 else if s.waits = 3 then 1 else if s.waits = 4 then 2 else 0) := rfl
  have hx : s.waits = 0 ∨ s.waits = 1 ∨ s.waits = 2 ∨ s.waits = 3 ∨ s.waits = 4 ∨ s.waits = 5 := by omega
  generalize s.head = hd at *
  generalize s.waits = x at *
  unfold ptr
  clear hc hw
  rcases hx with rfl | rfl | rfl | rfl | rfl | rfl
  all_goals
    go_enter Try.func97, Try.ntmps97
    go_wp2
    go_ret
    exact ⟨by rw [HH.out]; rfl, rfl⟩
end Go.Proofs.Ytmkkeglcjbogcaa
namespace Go.Proofs.Ytmkkeglcjbogcaa
open Go.RowKit
open List (getElem_toArray getElem_cons_zero getElem_cons_succ setIfInBounds_toArray set_cons_zero set_cons_succ)
set_option linter.unusedVariables false
set_option linter.unusedSimpArgs false

theorem wp_copy_frm {P : Program} {o : Oper} {a : Act} {w : World} {K : Act → World → Prop} {Q : Exit → Act → World → Prop} (d s : Operand) (dT sT : TypeId)
    (ho : o.op = .call { callee := .builtin .copy, args := #[d, s], argTypes := #[dT, sT] }) (elem : TypeId) (hu : P.underlying dT = some (.slice elem)) (hsz : (P.info? elem).map (·.size) = some 1)
    (dp sp : Option Addr) (dLen dCap sLen sCap : Nat) (hd : a.eval d = .slice dp dLen dCap) (hs : a.eval s = .slice sp sLen sCap)
    (g off : Nat) (cur : List Value) (t : TypeId) (hg : w.heap[g]? = some (.cells cur.toArray t (0, 0))) (cs : List Value) (hn : cs.length = Nat.min sLen dLen)
    (hpos : 0 < cs.length → dp = some ⟨g, off, none⟩ ∧ ∃ ad, sp = some ad ∧ ∀ j v, cs[j]? = some v → w.cell? (ad.add j) = some v)
    (hfit : off + cs.length ≤ cur.length) (h1 : ∀ v ∈ cs, v.oneCell' = true)
    (h : ∀ w', w'.heap[g]? = some (.cells (splice cur off cs).toArray t (0, 0)) → Frm (One g) w w' → K (a.put o.dst (goInt cs.length)) w') : o.wp P a w K Q := by
  by_cases h0 : cs.length = 0
  · obtain rfl : cs = [] := List.eq_nil_of_length_eq_zero h0
    have hrun := run_copy_none (P := P) w dT sT o.type elem dp sp dLen dCap sLen sCap hu hsz (by simpa using hn.symm)
    unfold Oper.wp
    simp [execOp, ho, resolve, invoke, builtin, hd, hs, hrun, Result.andThen]
    exact h w (show _ = _ by simpa [splice] using hg) (Frm.refl _ _)
  · obtain ⟨rfl, ad, rfl, hsrc⟩ := hpos (by omega)
    have hrun := run_copy_row (P := P) w dT sT o.type elem g off dLen dCap ad sLen sCap cur.toArray t cs hu hsz hg hn hsrc (by simpa using hfit) h1
    unfold Oper.wp
    simp [execOp, ho, resolve, invoke, builtin, hd, hs, hrun, Result.andThen]
    exact h _ (show _ = _ by simpa [splice] using setRow_heap w g _ _ t _ hg) ⟨rfl, rfl, rfl, by simp, fun k _ hk => setRow_other w g k _ hk⟩
theorem wpl_copy_frm {P : Program} {ops : Array Oper} {rest : List Oper} {o : Oper} {a : Act} {w : World} {Q : Exit → Act → World → Prop} (hgd : o.guard = none) (d s : Operand) (dT sT : TypeId)
    (ho : o.op = .call { callee := .builtin .copy, args := #[d, s], argTypes := #[dT, sT] }) (elem : TypeId) (hu : P.underlying dT = some (.slice elem)) (hsz : (P.info? elem).map (·.size) = some 1)
    (dp sp : Option Addr) (dLen dCap sLen sCap : Nat) (hd : a.eval d = .slice dp dLen dCap) (hs : a.eval s = .slice sp sLen sCap)
    (g off : Nat) (cur : List Value) (t : TypeId) (hg : w.heap[g]? = some (.cells cur.toArray t (0, 0))) (cs : List Value) (hn : cs.length = Nat.min sLen dLen)
    (hpos : 0 < cs.length → dp = some ⟨g, off, none⟩ ∧ ∃ ad, sp = some ad ∧ ∀ j v, cs[j]? = some v → w.cell? (ad.add j) = some v)
    (hfit : off + cs.length ≤ cur.length) (h1 : ∀ v ∈ cs, v.oneCell' = true)
    (h : ∀ w', w'.heap[g]? = some (.cells (splice cur off cs).toArray t (0, 0)) → Frm (One g) w w' → wpList P ops Q rest (a.put o.dst (goInt cs.length)) w') : wpList P ops Q (o :: rest) a w :=
  wpList_plain hgd fun _ hK => wp_copy_frm d s dT sT ho elem hu hsz dp sp dLen dCap sLen sCap hd hs g off cur t hg cs hn hpos hfit h1 fun w' h2 h3 => hK _ _ (h w' h2 h3)
theorem info_u8 : (Try.prog.info? 5).map (·.size) = some 1 := by kernel_rfl
/-- A frame of which bytes stand from place 1 on. -/
def segF (x : Int) (bs : List UInt8) : F8 := ⟨x, atI bs 0, atI bs 1, atI bs 2, atI bs 3, atI bs 4, atI bs 5, atI bs 6⟩
theorem splice_seg (bs : List UInt8) : (splice F8.zero.c.toList 1 ((bs.take 7).map encB)).toArray = (segF 0 bs).c := by
  match bs with
  | [] => rfl
  | [_] => rfl
  | [_, _] => rfl
  | [_, _, _] => rfl
  | [_, _, _, _] => rfl
  | [_, _, _, _, _] => rfl
  | [_, _, _, _, _, _] => rfl
  | a :: b :: c :: d :: e :: f :: g :: r => rfl
theorem bytes_from7 (bs : List UInt8) (n : Nat) (hn : n = Nat.min 7 bs.length) : bs.drop n = bs.drop 7 := by
  by_cases h : 7 ≤ bs.length
  · rw [hn.trans (Nat.min_eq_left h)]
  · rw [hn.trans (Nat.min_eq_right (by omega)), List.drop_length, List.drop_eq_nil_of_le (by omega)]
/-- Bytes, for a copy. -/
theorem BytesAt.src {w : World} {A : Option Addr} {N cap : Nat} {bs : List UInt8} (h : BytesAt w (.slice A N cap) bs) (k : Nat) (hk : k ≤ N) :
    0 < ((bs.take k).map encB).length → ∃ ad, A = some ad ∧ ∀ j v, ((bs.take k).map encB)[j]? = some v → w.cell? (ad.add j) = some v := by
  intro h0
  obtain ⟨A', cap', e, h1, h2, h3⟩ := h
  simp only [Value.slice.injEq] at e
  obtain ⟨rfl, rfl, rfl⟩ := e
  rw [List.length_map, List.length_take] at h0
  obtain ⟨g, off, rfl, hc⟩ := h3 (by omega)
  refine ⟨_, rfl, fun j v hv => ?_⟩
  rw [add_off]
  rw [List.getElem?_map, Option.map_eq_some_iff] at hv
  obtain ⟨x, hx, rfl⟩ := hv
  rw [List.getElem?_take] at hx
  split at hx
  · have hj : j < bs.length := (List.getElem?_eq_some_iff.1 hx).1
    rw [hc j hj, List.getD_eq_getElem?_getD, hx]
    rfl
  · cases hx
theorem BytesAt.take7 {w : World} {A : Option Addr} {cap : Nat} {bs : List UInt8} (h : BytesAt w (.slice A bs.length cap) bs) (h0 : 0 < ((bs.take 7).map encB).length) : ∃ ad, A = some ad ∧ ∀ j v, ((bs.take 7).map encB)[j]? = some v → w.cell? (ad.add j) = some v := by
  by_cases hk : 7 ≤ bs.length
  · exact h.src 7 hk h0
  · have e : bs.take 7 = bs.take bs.length := by rw [List.take_of_length_le (by omega), List.take_length]
    rw [e] at h0 ⊢
    exact h.src _ (Nat.le_refl _) h0
theorem oneB' (bs : List UInt8) : ∀ v ∈ bs.map encB, v.oneCell' = true := by
  intro v hv
  obtain ⟨x, _, rfl⟩ := List.mem_map.1 hv
  rfl
theorem bytes_backS {W0 : World} {A : Option Addr} {bs : List UInt8} {cap : Nat} (q : IntKind) (h : BytesAt W0 (.slice A bs.length cap) bs) (j : Nat) (hj : j ≤ bs.length) :
    ∃ A1, (∀ W, (Instr.slice 22 (.slice A bs.length cap) (some (.int q (j : Int))) none none).run Try.prog W = .ok (.slice A1 (bs.length - j) (cap - j)) W) ∧ BytesAt W0 (.slice A1 (bs.length - j) (cap - j)) (bs.drop j) ∧ ∀ k, (Value.slice A1 (bs.length - j) (cap - j)).ownBlock = some k → (Value.slice A bs.length cap).ownBlock = some k := by
  have ht : Try.prog.underlying 22 = some (.slice (Try.prog.elem 22)) := by kernel_rfl
  have he : Try.prog.elem 22 = 5 := by kernel_rfl
  obtain ⟨A', cap', e, h1, h2, h3⟩ := h
  simp only [Value.slice.injEq] at e
  obtain ⟨rfl, -, rfl⟩ := e
  refine ⟨if cap = j then A else A.map (·.add (j * 1)), fun W => ?_, ⟨_, cap - j, by rw [List.length_drop], by rw [List.length_drop]; omega, by omega, fun h0 => ?_⟩, fun k hk => ?_⟩
  · rw [run_slice_l W 22 _ _ _ ht q _ (by omega) (by omega), he, size_u8]
    simp [Result.andThen, sliced]
  · rw [List.length_drop] at h0
    obtain ⟨g, off, rfl, hc⟩ := h3 (by omega)
    rw [if_neg (by omega)]
    refine ⟨g, off + j, ?_, fun i hi => ?_⟩
    · simp only [Option.map_some, Addr.add]
      by_cases h1 : j = 0
      · simp [h1]
      · simp [h1]
    · rw [List.length_drop] at hi
      have := hc (j + i) (by omega)
      rw [Nat.add_assoc, this]
      simp [List.getD_eq_getElem?_getD]
  · cases A with
    | none => split at hk <;> simp [Value.ownBlock] at hk
    | some ad =>
      split at hk
      · exact hk
      · simp only [Option.map_some, Value.ownBlock, Addr.add] at hk ⊢
        split at hk <;> exact hk

theorem or_turn (tn : Int) (n : Nat) (ht : tn = 0 ∨ tn = 16) (hn : n ≤ 7) : bits BinOp.or IntKind.u8 tn ((7 - (n : Int)) * 2) = tn + 2 * (7 - (n : Int)) := by
  have e : ∀ m : Fin 8, bits BinOp.or IntKind.u8 0 ((7 - (m.val : Int)) * 2) = 0 + 2 * (7 - (m.val : Int)) ∧ bits BinOp.or IntKind.u8 16 ((7 - (m.val : Int)) * 2) = 16 + 2 * (7 - (m.val : Int)) := by decide +kernel
  have := e ⟨n, by omega⟩
  rcases ht with rfl | rfl
  · exact this.1
  · exact this.2
theorem or_last (tn : Int) (n : Nat) (ht : tn = 0 ∨ tn = 16) (hn : n ≤ 7) : bits BinOp.or IntKind.u8 (tn + 2 * (7 - (n : Int))) 1 = tn + 2 * (7 - (n : Int)) + 1 := by
  have e : ∀ m : Fin 8, bits BinOp.or IntKind.u8 (0 + 2 * (7 - (m.val : Int))) 1 = 0 + 2 * (7 - (m.val : Int)) + 1 ∧ bits BinOp.or IntKind.u8 (16 + 2 * (7 - (m.val : Int))) 1 = 16 + 2 * (7 - (m.val : Int)) + 1 := by decide +kernel
  have := e ⟨n, by omega⟩
  rcases ht with rfl | rfl
  · exact this.1
  · exact this.2
theorem seg_eq {bs : List UInt8} {n : Nat} {tn : Int} (hn : n = Nat.min 7 bs.length) : seg8 tn bs = segF (tn + 2 * (7 - (n : Int)) + if bs.length ≤ 7 then 1 else 0) bs := by rw [hn]; rfl
def SegPost (c : Nat) (s : Cl) (vb vr : Value) (w : World) (e : Ending) (w' : World) : Prop :=
  e = .returned (seg8 s.turn s.b).v ∧ ∃ vb', w'.heap[c]? = some (.cells (clC s.segment.1 vb' vr) 143 (0, 0)) ∧ BytesAt w' vb' (s.b.drop 7) ∧ (∀ k, vb'.ownBlock = some k → vb.ownBlock = some k) ∧ Frm (One c) w w'
set_option maxRecDepth 100000 in
set_option maxHeartbeats 2000000 in
theorem csegment_any (c : Nat) (s : Cl) (vb vr : Value) (w : World) (hc : w.heap[c]? = some (.cells (clC s vb vr) 143 (0, 0))) (hb : BytesAt w vb s.b) (hvb : ∀ k, vb.ownBlock = some k → k ≠ c) (ht : s.turn = 0 ∨ s.turn = 16) :
    Calls Try.prog 114 #[ptr c] w (SegPost c s vb vr w) := by
  obtain ⟨A, cap, rfl, hc1, hc2, _⟩ := bytes_cell hb
  have HC := Lib.hid hc
  have HB := Lib.hid hb
  have HVB := Lib.hid hvb
  have hcl := lt_of_block hc
  obtain ⟨s0, s1, s2, bs, tn, s5, s6, s7, s8, s9⟩ := s
  simp only at *
  have hm : bs.length ≤ 9223372036854775807 := Nat.le_trans hc1 hc2
  obtain ⟨n, hn⟩ : ∃ n, n = Nat.min 7 bs.length := ⟨_, rfl⟩
  have HN := Lib.hid hn
  have hn7 : n ≤ 7 := by rw [hn]; exact Nat.min_le_left _ _
  have hnl : n ≤ bs.length := by rw [hn]; exact Nat.min_le_right _ _
  obtain ⟨A1, hsl, hB1, hob⟩ := bytes_backS .i64 hb n hnl
  have HB1 := Lib.hid hB1
  have HOB := Lib.hid hob
  have c3 : w.cell? ⟨c, 3, none⟩ = some (.slice A bs.length cap) := cell_at hc
  have HCW := Lib.hid (fun W (h : Frm (fun _ => False) w W) => h.cell c3 (fun h => h))
  unfold ptr
  clear hc hb hn hvb hB1 hob c3 hc1 hc2
  go_enter Try.func114, Try.ntmps114
  go_upto_region 2 with fail
  have h1 : ((w.alloc (.cells #[.int .u8 0, .int .u8 0, .int .u8 0, .int .u8 0, .int .u8 0, .int .u8 0, .int .u8 0, .int .u8 0] 73 (0, 0))).alloc (.cells #[.int .u8 0, .int .u8 0, .int .u8 0, .int .u8 0, .int .u8 0, .int .u8 0, .int .u8 0, .int .u8 0] 73 (0, 0))).heap[w.heap.size]? = some (.cells #[.int .u8 0, .int .u8 0, .int .u8 0, .int .u8 0, .int .u8 0, .int .u8 0, .int .u8 0, .int .u8 0] 73 (0, 0)) := heap_alloc_old (heap_new w _)
  have h2 : ((w.alloc (.cells #[.int .u8 0, .int .u8 0, .int .u8 0, .int .u8 0, .int .u8 0, .int .u8 0, .int .u8 0, .int .u8 0] 73 (0, 0))).alloc (.cells #[.int .u8 0, .int .u8 0, .int .u8 0, .int .u8 0, .int .u8 0, .int .u8 0, .int .u8 0, .int .u8 0] 73 (0, 0))).heap[w.heap.size + 1]? = some (.cells #[.int .u8 0, .int .u8 0, .int .u8 0, .int .u8 0, .int .u8 0, .int .u8 0, .int .u8 0, .int .u8 0] 73 (0, 0)) := heap_new_at (by simp)
  have h3 : Frm (fun _ => False) w ((w.alloc (.cells #[.int .u8 0, .int .u8 0, .int .u8 0, .int .u8 0, .int .u8 0, .int .u8 0, .int .u8 0, .int .u8 0] 73 (0, 0))).alloc (.cells #[.int .u8 0, .int .u8 0, .int .u8 0, .int .u8 0, .int .u8 0, .int .u8 0, .int .u8 0, .int .u8 0] 73 (0, 0))) := by (repeat' (first | (with_reducible exact Frm.refl _ _) | (with_reducible assumption) | (with_reducible refine Frm.alloc ?_ _) | (with_reducible refine Frm.drew ?_) | (with_reducible refine Frm.drewN ?_ _) | (with_reducible refine Frm.set1 ?_ _) | (with_reducible refine Frm.setCell ?_ ?_ _) | (exact fun h => absurd h (Nat.lt_irrefl _)) | (intro hlt; simp [World.size_alloc, One] at hlt ⊢; omega)))
  obtain ⟨wa, hwa⟩ : ∃ wa, wa = (w.alloc (.cells #[.int .u8 0, .int .u8 0, .int .u8 0, .int .u8 0, .int .u8 0, .int .u8 0, .int .u8 0, .int .u8 0] 73 (0, 0))).alloc (.cells #[.int .u8 0, .int .u8 0, .int .u8 0, .int .u8 0, .int .u8 0, .int .u8 0, .int .u8 0, .int .u8 0] 73 (0, 0)) := ⟨_, rfl⟩
  rw [← hwa] at h1 h2 h3 ⊢
  have HR := Lib.hid h1
  have HT := Lib.hid h2
  have HF0 := Lib.hid h3
  have htw : w.heap.size + 1 < wa.heap.size := lt_of_block h2
  clear hwa h1 h2 h3
  have HTK := Lib.hid (show ((bs.take 7).map encB).length = Nat.min bs.length 7 by rw [List.length_map, List.length_take]; exact Nat.min_comm _ _)
  have HTN : Hid (((bs.take 7).map encB).length = n) := by unfold Hid; rw [HN.out, List.length_map, List.length_take]
  go_cut [4] (fun nv wx => nv = .int .i64 (n : Int) ∧ wx.heap[w.heap.size + 1]? = some (.cells (segF 0 bs).c 73 (0, 0)) ∧ Frm (One (w.heap.size + 1)) wa wx)
  case first =>
    refine wp_region_held_drew (S := (fun W => Frm (One (w.heap.size + 1)) wa W)) (by kernel_rfl) ((Frm.refl _ _).drew) (fun hHeld => ?_)
    have HCC := Lib.hid (fun W (h : Frm (One (w.heap.size + 1)) wa W) => h.cell (HCW.out wa HF0.out) (fun h => by simp only [One] at h; omega))
    refine wpAnyH_take (i := 0) (v := ?_) rfl (by kernel_rfl) (by kernel_rfl) (by kernel_rfl) (fun _ _ _ h => h) (Or.inl ⟨by rfl, ?_⟩) (by assumption) ?_; rotate_left; · (intro wq hSq; have hq := HCC.out wq hSq; go_split_ands; go_simp; (try with_reducible rfl))
    try simp only [Act.put, getElem_toArray, getElem_cons_zero, getElem_cons_succ, setIfInBounds_toArray, set_cons_zero, set_cons_succ]
    refine wpAnyH_take (i := 1) (v := ?_) rfl (by kernel_rfl) (by kernel_rfl) (by kernel_rfl) (fun _ _ _ h => h) (Or.inl ⟨by rfl, ?_⟩) (by assumption) ?_; rotate_left; · (intro wq hSq; have hq := HCC.out wq hSq; go_split_ands; go_simp; (try with_reducible rfl))
    try simp only [Act.put, getElem_toArray, getElem_cons_zero, getElem_cons_succ, setIfInBounds_toArray, set_cons_zero, set_cons_succ]
    refine wpAnyH_take (i := 2) (v := ?_) rfl (by kernel_rfl) (by kernel_rfl) (by kernel_rfl) (fun _ _ _ h => h) (Or.inl ⟨by rfl, ?_⟩) (by assumption) ?_; rotate_left; · (intro wq hSq; have hq := HCC.out wq hSq; go_split_ands; go_simp; (try with_reducible rfl))
    try simp only [Act.put, getElem_toArray, getElem_cons_zero, getElem_cons_succ, setIfInBounds_toArray, set_cons_zero, set_cons_succ]
    refine wpAnyH_take (i := 3) (v := ?_) rfl (by kernel_rfl) (by kernel_rfl) (by kernel_rfl) (fun _ _ _ h => h) (Or.inl ⟨by rfl, ?_⟩) (by assumption) ?_; rotate_left; · (intro wq hSq; have hq := HCC.out wq hSq; go_split_ands; go_simp; (try with_reducible rfl))
    try simp only [Act.put, getElem_toArray, getElem_cons_zero, getElem_cons_succ, setIfInBounds_toArray, set_cons_zero, set_cons_succ]
    refine wpAnyH_take (i := 4) (v := ?_) rfl (by kernel_rfl) (by kernel_rfl) (by kernel_rfl) (fun _ _ _ h => h) (Or.inl ⟨by rfl, ?_⟩) (by assumption) ?_; rotate_left; · (intro wq hSq; have hq := HCC.out wq hSq; go_split_ands; go_simp; (try with_reducible rfl))
    try simp only [Act.put, getElem_toArray, getElem_cons_zero, getElem_cons_succ, setIfInBounds_toArray, set_cons_zero, set_cons_succ]
    refine wpAnyH_ready (rs := [5]) (by kernel_rfl) (by simp) ?_
    refine AllReadyH.cons rfl (fun K hK => ?_) AllReadyH.nil
    refine wp_copy_frm (.tmp 5) (.tmp 9) 22 22 rfl 5 Try.underlying22 info_u8 _ _ 7 7 bs.length cap rfl rfl (w.heap.size + 1) 1 F8.zero.c.toList 73 (heap_drew' HT.out) ((bs.take 7).map encB) HTK.out (fun h0 => ⟨rfl, (HB.out.grow (HF0.out.drew)).take7 h0⟩) (by rw [HTN.out, show F8.zero.c.toList.length = 8 from rfl]; omega) (oneB' _) ?_
    intro w2 hw2 hF2
    rw [splice_seg] at hw2
    rw [HTN.out]
    have hh : Frm (One (w.heap.size + 1)) wa w2 := hHeld.trans' hF2
    refine hK.out _ _ hh (fun hHeld => ?_)
    clear hK K
    try simp only [Act.put, setIfInBounds_toArray, set_cons_zero, set_cons_succ]
    refine wpAnyH_take (i := 6) (v := ?_) rfl (by kernel_rfl) (by kernel_rfl) (by kernel_rfl) (fun _ _ _ h => h) (Or.inl ⟨by rfl, ?_⟩) (by assumption) ?_; rotate_left; · (intro wq hSq; have hq := (fun W (h : Frm (One (w.heap.size + 1)) wa W) => trivial) wq hSq; go_split_ands; go_simp; (try with_reducible rfl))
    try simp only [Act.put, getElem_toArray, getElem_cons_zero, getElem_cons_succ, setIfInBounds_toArray, set_cons_zero, set_cons_succ]
    refine wpAnyH_done (by kernel_rfl) ?_ _
    go_wp2_with fail
    go_meet
    exact ⟨rfl, hw2, hh⟩
  case rest =>
    obtain ⟨rfl, ht3, hF3⟩ := hcut
    have htc : c ≠ w.heap.size + 1 := by omega
    have htd : c ≠ w.heap.size := by omega
    have hcc := hF3.heap (HF0.out.heap HC.out (fun h => h)) htc
    have hrr := hF3.heap HR.out (by simp [One])
    have HCC := Lib.hid hcc
    have HRR := Lib.hid hrr
    have HT3 := Lib.hid ht3
    have HFW : Hid (Frm (fun _ => False) w wc) := Lib.hid (HF0.out.trans hF3 (fun i hi h => by simp only [One] at h; omega))
    have kc3 : wc.cell? ⟨c, 3, none⟩ = some (.slice A bs.length cap) := cell_at hcc
    have kc4 : wc.cell? ⟨c, 4, none⟩ = some (.int .u8 tn) := cell_at hcc
    have kc5 : wc.cell? ⟨c, 5, none⟩ = some (.bool s5) := cell_at hcc
    have kcf := frees hcc
    have kt0 : wc.cell? ⟨w.heap.size + 1, 0, none⟩ = some (.int .u8 0) := cell_at ht3
    have ktf := frees ht3
    have hor := or_turn tn n ht hn7
    have hor1 := or_last tn n ht hn7
    have htr : 0 ≤ tn ∧ tn ≤ 16 := by omega
    obtain ⟨htr0, htr1⟩ := htr
    by_cases hle : bs.length ≤ 7
    · have hn : n = bs.length := by rw [HN.out]; exact Nat.min_eq_right hle
      have HLE := Lib.hid hle
      have hz : bs.length - n = 0 := by omega
      rw [hz] at hsl HB1 HOB
      have HNB := Lib.hid hn
      clear hz hn hle hcc hrr ht3 hF3 HCW HTK HTN HF0 HR HT ht
      go_wp2_with (first | (refine wpList_load_row rfl 73 (.tmp 3) rfl (w.heap.size + 1) rfl 73 (segF (tn + 2 * (7 - (n : Int)) + 1) bs).c (0, 0) _ (by (apply heap_fin; (case h => (repeat (first | (with_reducible exact HT3.out) | (with_reducible apply heap_alloc_old) | (with_reducible apply heap_drewN') | (with_reducible apply heap_drew') | (with_reducible apply heap_set_same) | (with_reducible refine heap_set_other ?_ (by simp only []; omega)) | (with_reducible exact heap_new_at (by simp))))); (case e => rfl))) Try.underlying73 rfl (by exact info_f8) ?_) | (refine wpl_store_whole rfl 73 (.tmp 2) (.tmp 47) rfl w.heap.size (segF (tn + 2 * (7 - (n : Int)) + 1) bs).c rfl rfl 73 F8.zero.c (by (apply heap_fin; (case h => (repeat (first | (with_reducible exact HRR.out) | (with_reducible apply heap_alloc_old) | (with_reducible apply heap_drewN') | (with_reducible apply heap_drew') | (with_reducible apply heap_set_same) | (with_reducible refine heap_set_other ?_ (by simp only []; omega)) | (with_reducible exact heap_new_at (by simp))))); (case e => rfl))) info_f8 rfl (F8.one _) ?_; intro wz hwz hFz; have HWZ := Lib.hid hwz; have HFZ := Lib.hid hFz; clear hwz hFz))
      have hFx : Frm (One c) w wz := by
        refine Frm.trans (b := _) ?_ HFZ.out (fun i hi h => by simp only [One] at h ⊢; omega)
        repeat' (first | exact HFW.out | exact HFW.out.mono (fun _ _ h => h.elim) | refine Frm.setCell ?_ ?_ _)
        all_goals (intro h; simp only [One] at h ⊢ <;> omega)
      refine bodyPost_ret (ret_f8 rfl _ _ w.heap.size (segF (tn + 2 * (7 - (n : Int)) + 1) bs).c rfl rfl HWZ.out) rfl ⟨?_, .slice A1 0 (cap - n), HFZ.out.heap ?_ htd, ?_, HOB.out, ?_⟩
      · rw [seg_eq HN.out]
        simp only [HLE.out, if_true, if_false]
        first | rfl | (rw [Int.add_zero]; rfl)
      · show _ = some (Obj.cells #[.int .i64 s0, .int .u16 s1, .int .u8 s2, .slice A1 0 (cap - n), .int .u8 tn, .bool (decide (bs.length ≤ 7)), .int .i64 s6, vr, .int .u32 s8, .bool s9] 143 (0, 0))
        simp only [HLE.out, decide_true, decide_false]
        (apply heap_fin; (case h => (repeat (first | (with_reducible exact HCC.out) | (with_reducible apply heap_alloc_old) | (with_reducible apply heap_drewN') | (with_reducible apply heap_drew') | (with_reducible apply heap_set_same) | (with_reducible refine heap_set_other ?_ (by simp only []; omega)) | (with_reducible exact heap_new_at (by simp))))); (case e => rfl))
      · rw [← bytes_from7 bs n HN.out]
        exact HB1.out.frm hFx (fun k hk h => HVB.out k (HOB.out k hk) h)
      · exact hFx
    · have HLE := Lib.hid hle
      have hz : bs.length - n ≠ 0 := by have := HN.out; have : n = 7 := this.trans (Nat.min_eq_left (by omega)); omega
      generalize hmm : bs.length - n = m at *
      clear hmm
      have hz1 : ((m : Int) == 0) = false := by simpa using hz
      clear hz hle hcc hrr ht3 hF3 HCW HTK HTN HF0 HR HT ht
      go_wp2_with (first | (refine wpList_load_row rfl 73 (.tmp 3) rfl (w.heap.size + 1) rfl 73 (segF (tn + 2 * (7 - (n : Int))) bs).c (0, 0) _ (by (apply heap_fin; (case h => (repeat (first | (with_reducible exact HT3.out) | (with_reducible apply heap_alloc_old) | (with_reducible apply heap_drewN') | (with_reducible apply heap_drew') | (with_reducible apply heap_set_same) | (with_reducible refine heap_set_other ?_ (by simp only []; omega)) | (with_reducible exact heap_new_at (by simp))))); (case e => rfl))) Try.underlying73 rfl (by exact info_f8) ?_) | (refine wpl_store_whole rfl 73 (.tmp 2) (.tmp 47) rfl w.heap.size (segF (tn + 2 * (7 - (n : Int))) bs).c rfl rfl 73 F8.zero.c (by (apply heap_fin; (case h => (repeat (first | (with_reducible exact HRR.out) | (with_reducible apply heap_alloc_old) | (with_reducible apply heap_drewN') | (with_reducible apply heap_drew') | (with_reducible apply heap_set_same) | (with_reducible refine heap_set_other ?_ (by simp only []; omega)) | (with_reducible exact heap_new_at (by simp))))); (case e => rfl))) info_f8 rfl (F8.one _) ?_; intro wz hwz hFz; have HWZ := Lib.hid hwz; have HFZ := Lib.hid hFz; clear hwz hFz))
      have hFx : Frm (One c) w wz := by
        refine Frm.trans (b := _) ?_ HFZ.out (fun i hi h => by simp only [One] at h ⊢; omega)
        repeat' (first | exact HFW.out | exact HFW.out.mono (fun _ _ h => h.elim) | refine Frm.setCell ?_ ?_ _)
        all_goals (intro h; simp only [One] at h ⊢ <;> omega)
      refine bodyPost_ret (ret_f8 rfl _ _ w.heap.size (segF (tn + 2 * (7 - (n : Int))) bs).c rfl rfl HWZ.out) rfl ⟨?_, .slice A1 m (cap - n), HFZ.out.heap ?_ htd, ?_, HOB.out, ?_⟩
      · rw [seg_eq HN.out]
        simp only [HLE.out, if_true, if_false]
        first | rfl | (rw [Int.add_zero]; rfl)
      · show _ = some (Obj.cells #[.int .i64 s0, .int .u16 s1, .int .u8 s2, .slice A1 m (cap - n), .int .u8 tn, .bool (decide (bs.length ≤ 7)), .int .i64 s6, vr, .int .u32 s8, .bool s9] 143 (0, 0))
        simp only [HLE.out, decide_true, decide_false]
        (apply heap_fin; (case h => (repeat (first | (with_reducible exact HCC.out) | (with_reducible apply heap_alloc_old) | (with_reducible apply heap_drewN') | (with_reducible apply heap_drew') | (with_reducible apply heap_set_same) | (with_reducible refine heap_set_other ?_ (by simp only []; omega)) | (with_reducible exact heap_new_at (by simp))))); (case e => rfl))
      · rw [← bytes_from7 bs n HN.out]
        exact HB1.out.frm hFx (fun k hk h => HVB.out k (HOB.out k hk) h)
      · exact hFx
end Go.Proofs.Ytmkkeglcjbogcaa
namespace Go.Proofs.Ytmkkeglcjbogcaa
open Go.RowKit
set_option linter.unusedVariables false
set_option linter.unusedSimpArgs false

/-- The client at block c, in state s; its blocks are in M. -/
def ClHas (M : Nat → Prop) (w : World) (c : Nat) (s : Cl) : Prop :=
  s.ok ∧ M c ∧ (∀ k, M k → k < w.heap.size) ∧ ∃ vb vr, w.heap[c]? = some (.cells (clC s vb vr) 143 (0, 0)) ∧ BytesAt w vb s.b ∧ BytesAt w vr s.res ∧
    (∀ k, vb.ownBlock = some k → M k ∧ k ≠ c) ∧ (∀ k, vr.ownBlock = some k → M k ∧ k ≠ c) ∧ (s.waits = 4 ∨ s.waits = 5 → Own8 0 w vb s.b) ∧ (s.waits ≠ 0 → vr = .slice none 0 0)
/-- Behind a call: the client is in state s; what it wrote is its own, or new. -/
def ClPost (M : Nat → Prop) (w : World) (c : Nat) (s : Cl) (w' : World) : Prop := ∃ M', ClHas M' w' c s ∧ Frm M w w' ∧ ∀ k, M' k → M k ∨ w.heap.size ≤ k
theorem ClHas.frm {M S : Nat → Prop} {w w' : World} {c : Nat} {s : Cl} (h : ClHas M w c s) (hF : Frm S w w') (hS : ∀ k, M k → ¬ S k) : ClHas M w' c s := by
  obtain ⟨h1, h2, h3, vb, vr, h4, h5, h6, h7, h8, h9, h10⟩ := h
  exact ⟨h1, h2, fun k hk => Nat.lt_of_lt_of_le (h3 k hk) hF.size, vb, vr, hF.heap h4 (hS c h2), h5.frm hF (fun k hk => hS k (h7 k hk).1), h6.frm hF (fun k hk => hS k (h8 k hk).1), h7, h8, fun hw => hF.row (h9 hw) (fun k hk => hS k (h7 k hk).1), h10⟩
theorem ClHas.grow {M : Nat → Prop} {w w' : World} {c : Nat} {s : Cl} (h : ClHas M w c s) (hF : Frm (fun _ => False) w w') : ClHas M w' c s := h.frm hF (fun _ _ h => h)
theorem ClPost.same {M : Nat → Prop} {w w' : World} {c : Nat} {s : Cl} (h : ClHas M w c s) (hF : Frm (fun _ => False) w w') : ClPost M w c s w' := ⟨M, h.grow hF, hF.mono (fun _ _ h => h.elim), fun _ h => .inl h⟩
theorem ClPost.trans {M : Nat → Prop} {w w1 w2 : World} {c : Nat} {s1 s2 : Cl} (h1 : ClPost M w c s1 w1) (h2 : ∀ M1, ClHas M1 w1 c s1 → ClPost M1 w1 c s2 w2) : ClPost M w c s2 w2 := by
  obtain ⟨M1, h3, h4, h5⟩ := h1
  obtain ⟨M2, h6, h7, h8⟩ := h2 M1 h3
  refine ⟨M2, h6, h4.trans h7 (fun i hi h => (h5 i h).resolve_right (by omega)), fun k hk => ?_⟩
  rcases h8 k hk with h | h
  · exact h5 k h
  · exact .inr (Nat.le_trans h4.size h)
/-- A state is laid anew. -/
theorem ClPost.lay {M : Nat → Prop} {w w' : World} {c : Nat} {s s' : Cl} {vb vr : Value} (h : ClHas M w c s) (hF : Frm M w w') (hok : s'.ok) (hc : w'.heap[c]? = some (.cells (clC s' vb vr) 143 (0, 0)))
    (hb : BytesAt w' vb s'.b) (hr : BytesAt w' vr s'.res) (hvb : ∀ k, vb.ownBlock = some k → (M k ∨ w.heap.size ≤ k ∧ k < w'.heap.size) ∧ k ≠ c) (hvr : ∀ k, vr.ownBlock = some k → (M k ∨ w.heap.size ≤ k ∧ k < w'.heap.size) ∧ k ≠ c)
    (ho : s'.waits = 4 ∨ s'.waits = 5 → Own8 0 w' vb s'.b) (hn : s'.waits ≠ 0 → vr = .slice none 0 0) : ClPost M w c s' w' := by
  obtain ⟨_, h2, h3, _⟩ := h
  refine ⟨fun k => M k ∨ w.heap.size ≤ k ∧ k < w'.heap.size, ⟨hok, .inl h2, fun k hk => ?_, vb, vr, hc, hb, hr, hvb, hvr, ho, hn⟩, hF, fun k hk => ?_⟩
  · rcases hk with hk | hk
    · exact Nat.lt_of_lt_of_le (h3 k hk) hF.size
    · exact hk.2
  · exact hk.imp id (fun h => h.1)
theorem nil_bytes (w : World) : BytesAt w (.slice none 0 0) [] := ⟨none, 0, rfl, Nat.le_refl _, by unfold maxLen; omega, fun h => absurd h (by simp)⟩
theorem nil_block (k : Nat) : ¬ (Value.slice none 0 0).ownBlock = some k := fun h => nomatch h
theorem Own8.blk {B : Nat} {w : World} {v : Value} {bs : List UInt8} (h : Own8 B w v bs) {k : Nat} (hk : v.ownBlock = some k) : B ≤ k ∧ k < w.heap.size := by
  obtain ⟨h1, cur, h2⟩ := row_block h hk
  exact ⟨h1, lt_of_block h2⟩
theorem ends_ok {bs : List UInt8} {code : Int} (hb : bs.length ≤ 65543) (hc : 0 ≤ code ∧ code ≤ 4294967295) : (Cl.ends bs code).ok :=
  ⟨⟨Int.le_refl _, by show (0 : Int) ≤ 5; decide⟩, ⟨Int.le_refl _, by show (0 : Int) ≤ 65535; decide⟩, ⟨Int.le_refl _, by show (0 : Int) ≤ 255; decide⟩, .inl rfl, Nat.zero_le _, hc, ⟨by show (-1 : Int) ≤ 0; decide, by show (0 : Int) ≤ 65536; decide⟩, hb⟩
/-- It has ended with a code. -/
theorem ClPost.over {M : Nat → Prop} {w w' : World} {c : Nat} {s : Cl} {code : Int} (h : ClHas M w c s) (hF : Frm (One c) w w') (hcd : 0 ≤ code ∧ code ≤ 4294967295) (hc : w'.heap[c]? = some (.cells (clC (Cl.ends [] code) (.slice none 0 0) (.slice none 0 0)) 143 (0, 0))) : ClPost M w c (Cl.ends [] code) w' :=
  ClPost.lay h (hF.mono (fun i _ hi => by rw [hi]; exact h.2.1)) (ends_ok (Nat.zero_le _) hcd) hc (nil_bytes _) (nil_bytes _) (fun k hk => absurd hk (nil_block k)) (fun k hk => absurd hk (nil_block k)) (fun h => by rcases h with h | h <;> exact absurd h (by show ¬ (0 : Int) = _; decide)) (fun _ => rfl)
end Go.Proofs.Ytmkkeglcjbogcaa
namespace Go.Proofs.Ytmkkeglcjbogcaa
open Go.RowKit
set_option linter.unusedVariables false

theorem or_mul (a b i m : Nat) (hm : m = 2 ^ i) (h : a < m) : a ||| (b * m) = a + b * m := by
  subst hm
  rw [Nat.or_comm, ← Nat.shiftLeft_eq, ← Nat.shiftLeft_add_eq_or_of_lt h, Nat.add_comm]
theorem le32_sum (n0 n1 n2 n3 : Nat) (b0 : n0 < 256) (b1 : n1 < 256) (b2 : n2 < 256) (b3 : n3 < 256) :
    bits BinOp.or IntKind.u64 (bits BinOp.or IntKind.u64 (bits BinOp.or IntKind.u64 (n0 : Int) ((n1 : Int) * 256)) ((n2 : Int) * 65536)) ((n3 : Int) * 16777216) = (n0 : Int) + 256 * ((n1 : Int) + 256 * ((n2 : Int) + 256 * (n3 : Int))) := by
  have e1 : ((n1 : Int) * 256) = ((n1 * 256 : Nat) : Int) := by omega
  have e2 : ((n2 : Int) * 65536) = ((n2 * 65536 : Nat) : Int) := by omega
  have e3 : ((n3 : Int) * 16777216) = ((n3 * 16777216 : Nat) : Int) := by omega
  rw [e1, e2, e3, bits_or_u64_nat n0 (n1 * 256) (by omega) (by omega), or_mul n0 n1 8 256 (by decide) (by omega), bits_or_u64_nat _ (n2 * 65536) (by omega) (by omega), or_mul _ n2 16 65536 (by decide) (by omega), bits_or_u64_nat _ (n3 * 16777216) (by omega) (by omega), or_mul _ n3 24 16777216 (by decide) (by omega)]
  omega
theorem le16_sum (n0 n1 : Nat) (b0 : n0 < 256) (b1 : n1 < 256) : bits BinOp.or IntKind.u16 (n0 : Int) ((n1 : Int) * 256) = (n0 : Int) + 256 * (n1 : Int) := by
  have e1 : ((n1 : Int) * 256) = ((n1 * 256 : Nat) : Int) := by omega
  rw [e1, u16_or_nat n0 (n1 * 256) (by omega) (by omega), or_mul n0 n1 8 256 (by decide) (by omega)]
  omega

set_option maxHeartbeats 1000000 in
theorem read32_any (v : Value) (bs : List UInt8) (w : World) (h : BytesAt w v bs) (h4 : 4 ≤ bs.length) :
    Calls Try.prog 55 #[v] w fun e w' => e = .returned (.int .u64 (numOf (bs.take 4))) ∧ ∃ m, w' = w.drewN m := by
  obtain ⟨A, cap, rfl, h1, h2, hc⟩ := bytes_cell h
  obtain ⟨g, off, rfl, hc2⟩ := hc (by omega)
  have hm : bs.length ≤ 9223372036854775807 := Nat.le_trans h1 h2
  match bs, h4 with
  | c0 :: c1 :: c2 :: c3 :: r, _ =>
    have d0 : w.cell? ⟨g, off, none⟩ = some (.int .u8 c0.toNat) := hc2 0 (by simp)
    have d1 : w.cell? ⟨g, off + 1, none⟩ = some (.int .u8 c1.toNat) := hc2 1 (by simp)
    have d2 : w.cell? ⟨g, off + 2, none⟩ = some (.int .u8 c2.toNat) := hc2 2 (by simp)
    have d3 : w.cell? ⟨g, off + 3, none⟩ = some (.int .u8 c3.toNat) := hc2 3 (by simp)
    have b0 := c0.toNat_lt
    have b1 := c1.toNat_lt
    have b2 := c2.toNat_lt
    have b3 := c3.toNat_lt
    clear hc hc2 h h1 h2
    simp only [List.length_cons] at hm ⊢
    go_enter Try.func55, Try.ntmps55
    go_wp2
    go_quiet (fail)
    go_wp2
    go_ret
    refine ⟨?_, nq, rfl⟩
    have E := le32_sum c0.toNat c1.toNat c2.toNat c3.toNat b0 b1 b2 b3
    show Ending.returned (.int .u64 (bits BinOp.or IntKind.u64 (bits BinOp.or IntKind.u64 (bits BinOp.or IntKind.u64 (c0.toNat : Int) ((c1.toNat : Int) * 256)) ((c2.toNat : Int) * 65536)) ((c3.toNat : Int) * 16777216))) = _
    rw [E]
    simp [numOf]
end Go.Proofs.Ytmkkeglcjbogcaa
