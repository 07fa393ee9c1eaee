/-
  Numbers in bytes, lowest first: read32, the document's read, low32, the document's number.
-/
import Derived.Test.YtmkkeglcjbogcaaProg
import Derived.Test.YtmkkeglcjbogcaaCore3
import Derived.Deep.QuietTactic
import Derived.BigQuiet
import Derived.Laws.Bits64b
import Derived.Laws.BitsAllLaws
namespace Go.Proofs.Ytmkkeglcjbogcaa
open Go.RowKit
set_option linter.unusedVariables false

/-- The number of bytes, lowest first. -/
def numOf : List UInt8 → Int
  | [] => 0
  | b :: r => (b.toNat : Int) + 256 * numOf r

theorem bytes_cell {w : World} {v : Value} {bs : List UInt8} (h : BytesAt w v bs) : ∃ A cap, v = .slice A bs.length cap ∧ bs.length ≤ cap ∧ cap ≤ maxLen ∧ (0 < bs.length → ∃ g off, A = some ⟨g, off, none⟩ ∧ ∀ i (hi : i < bs.length), w.cell? ⟨g, off + i, none⟩ = some (.int .u8 (bs[i].toNat : Int))) := by
  obtain ⟨A, cap, rfl, h1, h2, hc⟩ := h
  refine ⟨A, cap, rfl, h1, h2, fun h0 => ?_⟩
  obtain ⟨g, off, rfl, hc2⟩ := hc h0
  refine ⟨g, off, rfl, fun i hi => ?_⟩
  have := hc2 i hi
  rwa [List.getD_eq_getElem?_getD, List.getElem?_eq_getElem hi] at this

set_option maxHeartbeats 1000000 in
theorem rread_any (v : Value) (bs : List UInt8) (at' size : Nat) (w : World) (h : BytesAt w v bs) (hs : at' + size ≤ bs.length) (h4 : size ≤ 4) :
    Calls Try.prog 57 #[v, .int .i64 at', .int .i64 size] w fun e w' => e = .returned (.int .i64 (numOf ((bs.drop at').take size))) ∧ w' = w := by
  obtain ⟨A, cap, rfl, h1, h2, hc⟩ := bytes_cell h
  have HC := Lib.hid hc
  have hm : bs.length ≤ 9223372036854775807 := Nat.le_trans h1 h2
  clear hc h h1 h2
  go_enter Try.func57, Try.ntmps57
  go_wp2
  go_loopw [7, 8] (fun n i wr => ∃ k : Nat, k ≤ size ∧ i = .int .i64 ((size : Int) - k - 1) ∧ n = .int .i64 (numOf ((bs.drop (at' + size - k)).take k)) ∧ 0 ≤ numOf ((bs.drop (at' + size - k)).take k) ∧ numOf ((bs.drop (at' + size - k)).take k) < 256 ^ k ∧ wr = w) (fun _ i _ => (intOf i + 1).toNat)
  case atStart => exact ⟨0, Nat.zero_le _, by go_num, by simp [numOf], by simp [numOf], by simp [numOf], rfl⟩
  case round =>
    obtain ⟨k, hk, rfl, rfl, hn0, hn1, rfl⟩ := hrel
    by_cases hlt : k < size
    · obtain ⟨g, off, rfl, hc⟩ := HC.out (by omega)
      have c0 := hc (at' + (size - k - 1)) (by omega)
      have hd : (bs.drop (at' + size - (k + 1))).take (k + 1) = bs[at' + (size - k - 1)] :: (bs.drop (at' + size - k)).take k := by
        rw [show at' + size - (k + 1) = at' + (size - k - 1) by omega, List.drop_eq_getElem_cons (by omega), List.take_succ_cons, show at' + (size - k - 1) + 1 = at' + size - k by omega]
      have hb := (bs[at' + (size - k - 1)]).toNat_lt
      have HD := Lib.hid hd
      have hx : numOf ((bs.drop (at' + size - (k + 1))).take (k + 1)) = (bs[at' + (size - k - 1)].toNat : Int) + 256 * numOf ((bs.drop (at' + size - k)).take k) := by rw [hd]; rfl
      have HX := Lib.hid hx
      clear hd hx hc
      generalize numOf ((bs.drop (at' + size - k)).take k) = nk at *
      obtain ⟨c, hcc⟩ : ∃ c : Int, c = (bs[at' + (size - k - 1)].toNat : Int) := ⟨_, rfl⟩
      rw [← hcc] at c0 HX
      have hc0 : 0 ≤ c := by omega
      have hc1 : c ≤ 255 := by omega
      have hp : (256 : Int) ^ k ≤ 16777216 := by
        have : k = 0 ∨ k = 1 ∨ k = 2 ∨ k = 3 := by omega
        rcases this with rfl | rfl | rfl | rfl <;> decide
      have HN1 := Lib.hid hn1
      have hn2 : nk < 16777216 := by omega
      have hat : ((at' : Int) + ((size : Int) - k - 1)).toNat = at' + (size - k - 1) := by omega
      clear hcc hb hn1 hp
      go_wp2
      go_roundw
      case rel =>
        refine ⟨k + 1, by omega, by go_num, by rw [HX.out]; go_num, by rw [HX.out]; omega, ?_, trivial⟩
        rw [HX.out, Int.pow_succ]
        have := HN1.out
        omega
      case measure => simp [intOf]; omega
    · obtain rfl : k = size := by omega
      go_wp2
      go_ret
      refine ⟨?_, rfl⟩
      rw [show at' + k - k = at' by omega]
      rfl

theorem or_mul (a b i m : Nat) (hm : m = 2 ^ i) (h : a < m) : a ||| (b * m) = a + b * m := by
  subst hm
  rw [Nat.or_comm, ← Nat.shiftLeft_eq, ← Nat.shiftLeft_add_eq_or_of_lt h, Nat.add_comm]
theorem le32_sum (n0 n1 n2 n3 : Nat) (b0 : n0 < 256) (b1 : n1 < 256) (b2 : n2 < 256) (b3 : n3 < 256) :
    bits BinOp.or IntKind.u64 (bits BinOp.or IntKind.u64 (bits BinOp.or IntKind.u64 (n0 : Int) ((n1 : Int) * 256)) ((n2 : Int) * 65536)) ((n3 : Int) * 16777216) = (n0 : Int) + 256 * ((n1 : Int) + 256 * ((n2 : Int) + 256 * (n3 : Int))) := by
  have e1 : ((n1 : Int) * 256) = ((n1 * 256 : Nat) : Int) := by omega
  have e2 : ((n2 : Int) * 65536) = ((n2 * 65536 : Nat) : Int) := by omega
  have e3 : ((n3 : Int) * 16777216) = ((n3 * 16777216 : Nat) : Int) := by omega
  rw [e1, e2, e3, bits_or_u64_nat n0 (n1 * 256) (by omega) (by omega), or_mul n0 n1 8 256 (by decide) (by omega), bits_or_u64_nat _ (n2 * 65536) (by omega) (by omega), or_mul _ n2 16 65536 (by decide) (by omega), bits_or_u64_nat _ (n3 * 16777216) (by omega) (by omega), or_mul _ n3 24 16777216 (by decide) (by omega)]
  omega
theorem le16_sum (n0 n1 : Nat) (b0 : n0 < 256) (b1 : n1 < 256) : bits BinOp.or IntKind.u16 (n0 : Int) ((n1 : Int) * 256) = (n0 : Int) + 256 * (n1 : Int) := by
  have e1 : ((n1 : Int) * 256) = ((n1 * 256 : Nat) : Int) := by omega
  rw [e1, u16_or_nat n0 (n1 * 256) (by omega) (by omega), or_mul n0 n1 8 256 (by decide) (by omega)]
  omega

set_option maxHeartbeats 1000000 in
theorem read32_any (v : Value) (bs : List UInt8) (w : World) (h : BytesAt w v bs) (h4 : 4 ≤ bs.length) :
    Calls Try.prog 55 #[v] w fun e w' => e = .returned (.int .u64 (numOf (bs.take 4))) ∧ ∃ m, w' = w.drewN m := by
  obtain ⟨A, cap, rfl, h1, h2, hc⟩ := bytes_cell h
  obtain ⟨g, off, rfl, hc2⟩ := hc (by omega)
  have hm : bs.length ≤ 9223372036854775807 := Nat.le_trans h1 h2
  match bs, h4 with
  | c0 :: c1 :: c2 :: c3 :: r, _ =>
    have d0 : w.cell? ⟨g, off, none⟩ = some (.int .u8 c0.toNat) := hc2 0 (by simp)
    have d1 : w.cell? ⟨g, off + 1, none⟩ = some (.int .u8 c1.toNat) := hc2 1 (by simp)
    have d2 : w.cell? ⟨g, off + 2, none⟩ = some (.int .u8 c2.toNat) := hc2 2 (by simp)
    have d3 : w.cell? ⟨g, off + 3, none⟩ = some (.int .u8 c3.toNat) := hc2 3 (by simp)
    have b0 := c0.toNat_lt
    have b1 := c1.toNat_lt
    have b2 := c2.toNat_lt
    have b3 := c3.toNat_lt
    clear hc hc2 h h1 h2
    simp only [List.length_cons] at hm ⊢
    go_enter Try.func55, Try.ntmps55
    go_wp2
    go_quiet (fail)
    go_wp2
    go_ret
    refine ⟨?_, nq, rfl⟩
    have E := le32_sum c0.toNat c1.toNat c2.toNat c3.toNat b0 b1 b2 b3
    show Ending.returned (.int .u64 (bits BinOp.or IntKind.u64 (bits BinOp.or IntKind.u64 (bits BinOp.or IntKind.u64 (c0.toNat : Int) ((c1.toNat : Int) * 256)) ((c2.toNat : Int) * 65536)) ((c3.toNat : Int) * 16777216))) = _
    rw [E]
    simp [numOf]
end Go.Proofs.Ytmkkeglcjbogcaa
