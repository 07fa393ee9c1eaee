/-
  Bytes and items in memory: laws that every text of the items uses. No Go function is named here.
-/
import Derived.Test.YtemjdmgfilbfaaaProg
import Derived.Test.YtemjdmgfilbfaaaCore3
namespace Go.Proofs.Ytemjdmgfilbfaaa
open Go.RowKit
set_option linter.unusedVariables false

theorem bytes_cell {w : World} {v : Value} {bs : List UInt8} (h : BytesAt w v bs) : ∃ A cap, v = .slice A bs.length cap ∧ bs.length ≤ cap ∧ cap ≤ maxLen ∧ (0 < bs.length → ∃ g off, A = some ⟨g, off, none⟩ ∧ ∀ i (hi : i < bs.length), w.cell? ⟨g, off + i, none⟩ = some (.int .u8 (bs[i].toNat : Int))) := by
  obtain ⟨A, cap, rfl, h1, h2, hc⟩ := h
  refine ⟨A, cap, rfl, h1, h2, fun h0 => ?_⟩
  obtain ⟨g, off, rfl, hc2⟩ := hc h0
  refine ⟨g, off, rfl, fun i hi => ?_⟩
  have := hc2 i hi
  rwa [List.getD_eq_getElem?_getD, List.getElem?_eq_getElem hi] at this
theorem el_u8 : El Try.prog 33 5 1 1 := El.of Try.underlying33 (z := .int .u8 0) (by kernel_rfl) rfl (by decide)
/-- Bytes of one's own. -/
def Own8 (B : Nat) (w : World) (v : Value) (bs : List UInt8) : Prop := w.ownsRow B 5 1 v bs.length (bs.map encB)
theorem BytesAt.sub {w : World} {g off cap : Nat} {bs : List UInt8} (h : BytesAt w (.slice (some ⟨g, off, none⟩) bs.length cap) bs) (k : Nat) (hk : k ≤ bs.length) : BytesAt w (.slice (some ⟨g, off + k, none⟩) (bs.length - k) (cap - k)) (bs.drop k) := by
  obtain ⟨A, cap2, e, h1, h2, hc⟩ := h
  simp only [Value.slice.injEq] at e
  obtain ⟨rfl, _, rfl⟩ := e
  refine ⟨_, _, by rw [List.length_drop], by rw [List.length_drop]; omega, by omega, fun h0 => ⟨g, off + k, rfl, fun i hi => ?_⟩⟩
  rw [List.length_drop] at hi
  obtain ⟨g2, off2, e2, hc2⟩ := hc (by omega)
  simp only [Option.some.injEq, Addr.mk.injEq] at e2
  obtain ⟨rfl, rfl, _⟩ := e2
  have := hc2 (k + i) (by omega)
  rw [Nat.add_assoc, this]
  simp [List.getD_eq_getElem?_getD, List.getElem?_drop]
theorem BytesAt.pre {w : World} {g off cap N : Nat} {bs : List UInt8} (hN : bs.length = N) (h : BytesAt w (.slice (some ⟨g, off, none⟩) N cap) bs) (k : Nat) (hk : k ≤ bs.length) : BytesAt w (.slice (some ⟨g, off, none⟩) k cap) (bs.take k) := by
  obtain ⟨A, cap2, e, h1, h2, hc⟩ := h
  simp only [Value.slice.injEq] at e
  obtain ⟨rfl, _, rfl⟩ := e
  have hl : (bs.take k).length = k := by simp; omega
  refine ⟨some ⟨g, off, none⟩, cap, by rw [hl], by rw [hl]; omega, h2, fun h0 => ⟨g, off, rfl, fun i hi => ?_⟩⟩
  rw [hl] at hi
  obtain ⟨g2, off2, e2, hc2⟩ := hc (by omega)
  simp only [Option.some.injEq, Addr.mk.injEq] at e2
  obtain ⟨rfl, rfl, _⟩ := e2
  have := hc2 i (by omega)
  rw [this]
  simp [List.getD_eq_getElem?_getD, hi]
theorem BytesAt.from {w : World} {g off cap N : Nat} {bs : List UInt8} (hN : bs.length = N) (h : BytesAt w (.slice (some ⟨g, off, none⟩) N cap) bs) (k : Nat) (hk : k ≤ bs.length) : BytesAt w (.slice (some ⟨g, if cap = k then off else off + k, none⟩) (N - k) (cap - k)) (bs.drop k) := by
  subst hN
  by_cases e : cap = k
  · rw [if_pos e]
    have hd : bs.drop k = [] := by
      obtain ⟨A, cap2, e2, h1, h2, hc⟩ := h
      simp only [Value.slice.injEq] at e2
      exact List.drop_eq_nil_of_le (by omega)
    have hl : bs.length - k = 0 := by have := congrArg List.length hd; simpa using this
    rw [hd, hl, e]
    exact ⟨some ⟨g, off, none⟩, 0, by simp, Nat.le_refl _, by unfold maxLen; omega, fun h => absurd h (by simp)⟩
  · rw [if_neg e]
    exact h.sub k hk
theorem size_u8 (w : World) : (Go.sizeOf 5).run Try.prog w = .ok 1 w := by
  have h : (Try.prog.info? 5).map (·.size) = some 1 := by kernel_rfl
  obtain ⟨i, hi, h1⟩ := Option.map_eq_some_iff.1 h
  simp [Go.sizeOf, typeInfo, hi, h1]
theorem slice_to (W : World) (g o N c k : Nat) (h : k ≤ c) : (Instr.slice 33 (.slice (some ⟨g, o, none⟩) N c) none (some (.int .u64 (k : Int))) none).run Try.prog W = .ok (.slice (some ⟨g, o, none⟩) k c) W := by
  have ht : Try.prog.underlying 33 = some (.slice (Try.prog.elem 33)) := by kernel_rfl
  have he : Try.prog.elem 33 = 5 := by kernel_rfl
  rw [run_slice_h W 33 _ _ _ ht .u64 _ (by omega) (by omega), he, size_u8]
  simp [Result.andThen, sliced, Addr.add]
theorem slice_from (W : World) (g o N c k : Nat) (h : k ≤ N) (hc : N ≤ c) : (Instr.slice 33 (.slice (some ⟨g, o, none⟩) N c) (some (.int .u64 (k : Int))) none none).run Try.prog W = .ok (.slice (some ⟨g, if c = k then o else o + k, none⟩) (N - k) (c - k)) W := by
  have ht : Try.prog.underlying 33 = some (.slice (Try.prog.elem 33)) := by kernel_rfl
  have he : Try.prog.elem 33 = 5 := by kernel_rfl
  rw [run_slice_l W 33 _ _ _ ht .u64 _ (by omega) (by omega), he, size_u8]
  by_cases e : c = k
  · simp [Result.andThen, sliced, Addr.add, e]
  · by_cases e0 : k = 0
    · simp [Result.andThen, sliced, Addr.add, e, e0]
    · simp [Result.andThen, sliced, Addr.add, e, e0]
/-- An item in memory: its place, its slice's value, its bytes. -/
abbrev Itm := Int × Int × Value × List UInt8
def encIt (x : Itm) : List Value := [.int .u16 x.1, .int .u8 x.2.1, x.2.2.1]
theorem encIt_len (x : Itm) : (encIt x).length = 3 := rfl
def bare (x : Itm) : Int × Int × List UInt8 := (x.1, x.2.1, x.2.2.2)
/-- Items, wherever they lie. -/
def ItemsAt (w : World) (v : Value) (xs : List Itm) : Prop := SlAt encIt 3 w v xs ∧ ∀ x ∈ xs, BytesAt w x.2.2.1 x.2.2.2
theorem BytesAt.drewN {w : World} {v : Value} {bs : List UInt8} (h : BytesAt w v bs) (n : Nat) : BytesAt (w.drewN n) v bs := h.grow (Frm.drewN (Frm.refl _ _) n)
/-- An item: its place, its bytes. -/
abbrev It := Int × Int × List UInt8
/-- A number in so many bytes, lowest first. -/
def leOf (n : Int) : Nat → List UInt8
  | 0 => []
  | k + 1 => UInt8.ofNat (n % 256).toNat :: leOf (n / 256) k
def encIt8 (x : It) : List UInt8 := leOf x.1 2 ++ [UInt8.ofNat x.2.1.toNat] ++ leOf x.2.2.length 4 ++ x.2.2
def encOf (l : List It) : List UInt8 := leOf l.length 4 ++ l.flatMap encIt8
theorem el_Item : El Try.prog 73 126 3 32 := El.of Try.underlying73 (z := .agg #[.int .u16 0, .int .u8 0, .slice none 0 0]) (by kernel_rfl) rfl (by decide)
theorem cellsOf_snoc {α : Type} {enc : α → List Value} (xs : List α) (x : α) : cellsOf enc (xs ++ [x]) = cellsOf enc xs ++ enc x := by simp [cellsOf]
/-- Items of one's own. -/
def ItemsRow (B : Nat) (w : World) (v : Value) (xs : List Itm) : Prop := w.ownsRow B 126 3 v xs.length (cellsOf encIt xs) ∧ ∀ x ∈ xs, Own8 B w x.2.2.1 x.2.2.2
theorem ItemsRow.at_ {B : Nat} {w : World} {v : Value} {xs : List Itm} (h : ItemsRow B w v xs) : ItemsAt w v xs := ⟨SlAt.of_row encIt_len h.1, fun x hx => BytesAt.of_row (h.2 x hx)⟩
theorem ItemsRow.grow {B : Nat} {w w' : World} {v : Value} {xs : List Itm} (h : ItemsRow B w v xs) (hF : Frm (fun _ => False) w w') : ItemsRow B w' v xs :=
  ⟨hF.row h.1 (fun _ _ h => h), fun x hx => hF.row (h.2 x hx) (fun _ _ h => h)⟩
theorem ItemsRow.nil (B : Nat) (w : World) : ItemsRow B w (.slice none 0 0) [] := ⟨World.ownsRow_nil _ _ _ _, fun x hx => by cases hx⟩
theorem ItemsRow.base {B C : Nat} {w : World} {v : Value} {xs : List Itm} (h : ItemsRow B w v xs) (hb : C ≤ B) : ItemsRow C w v xs := ⟨row_base h.1 hb, fun x hx => row_base (h.2 x hx) hb⟩
/-- One item more. -/
theorem ItemsRow.push {B n : Nat} {w w' : World} {v v' : Value} {xs : List Itm} (h : ItemsRow B w v xs) (x : Itm) (hx : Own8 B w x.2.2.1 x.2.2.2) (hF : Frm (fun k => v.ownBlock = some k) w w') (hn : n = xs.length)
    (hr : w'.ownsRow B 126 3 v' (n + 1) (cellsOf encIt xs ++ encIt x)) : ItemsRow B w' v' (xs ++ [x]) := by
  subst hn
  have hk : ∀ y : Itm, Own8 B w y.2.2.1 y.2.2.2 → Own8 B w' y.2.2.1 y.2.2.2 := fun y hy => hF.row hy fun k hk hs => by
    obtain ⟨_, c1, h1⟩ := row_block hy hk
    obtain ⟨_, c2, h2⟩ := row_block h.1 hs
    exact block_ne h1 h2 (by decide) rfl
  refine ⟨by rw [cellsOf_snoc, List.length_append]; exact hr, fun y hy => ?_⟩
  rcases List.mem_append.1 hy with hy | hy
  · exact hk y (h.2 y hy)
  · obtain rfl : y = x := by simpa using hy
    exact hk y hx
theorem ItemsAt.open_ {w : World} {v : Value} {xs : List Itm} (h : ItemsAt w v xs) : ∃ A cap, v = .slice A xs.length cap ∧ xs.length ≤ maxLen ∧ ∀ k (hk : k < xs.length), ∃ g off Ab cb, A = some ⟨g, off, none⟩ ∧ xs[k].2.2.1 = .slice Ab xs[k].2.2.2.length cb ∧ xs[k].2.2.2.length ≤ maxLen ∧
    w.cell? ⟨g, off + k * 3, none⟩ = some (.int .u16 xs[k].1) ∧ w.cell? ⟨g, off + k * 3 + 1, none⟩ = some (.int .u8 xs[k].2.1) ∧ w.cell? ⟨g, off + k * 3 + 2, none⟩ = some (.slice Ab xs[k].2.2.2.length cb) := by
  obtain ⟨⟨A, cap, rfl, h1, h2, hA⟩, hb⟩ := h
  refine ⟨A, cap, rfl, Nat.le_trans h1 h2, fun k hk => ?_⟩
  obtain ⟨g, off, rfl, _, hc⟩ := hA (by omega)
  have hbk := hb _ (List.getElem_mem hk)
  obtain ⟨Ab, cb, hv, h3, h4, _⟩ := bytes_cell hbk
  refine ⟨g, off, Ab, cb, rfl, hv, Nat.le_trans h3 h4, hc k hk 0 (by decide), hc k hk 1 (by decide), ?_⟩
  rw [hc k hk 2 (by decide), ← hv]
  rfl
theorem ItemsAt.frm {w w' : World} {v : Value} {xs : List Itm} (h : ItemsAt w v xs) (hF : Frm (fun _ => False) w w') : ItemsAt w' v xs := ⟨h.1.frm encIt_len hF, fun x hx => (h.2 x hx).grow hF⟩
theorem leOf_length (n : Int) (k : Nat) : (leOf n k).length = k := by
  induction k generalizing n with
  | zero => rfl
  | succ k ih => simp [leOf, ih]
theorem encB_mod (n : Int) : encB (UInt8.ofNat (n % 256).toNat) = .int .u8 (n % 256) := by
  unfold encB
  have : (n % 256).toNat < 256 := by omega
  rw [UInt8.toNat_ofNat', Nat.mod_eq_of_lt this, Int.toNat_of_nonneg (by omega)]
/-- The number of bytes, lowest first. -/
def numOf : List UInt8 → Int
  | [] => 0
  | b :: r => (b.toNat : Int) + 256 * numOf r

theorem numOf_bound (bs : List UInt8) : 0 ≤ numOf bs ∧ numOf bs < 256 ^ bs.length := by
  induction bs with
  | nil => simp [numOf]
  | cons b r ih =>
    have := b.toNat_lt
    simp only [numOf, List.length_cons, Int.pow_succ]
    omega

end Go.Proofs.Ytemjdmgfilbfaaa
