/-
  Items in memory; the law's own Same, of items that are one.
-/
import Derived.Test.YtmkkeglcjbogcaaDcfI
import Derived.Laws.BytesArg
namespace Go.Proofs.Ytmkkeglcjbogcaa
open Go.RowKit
set_option linter.unusedVariables false

/-- An item in memory: its place, its slice's value, its bytes. -/
abbrev Itm := Int × Int × Value × List UInt8
def encIt (x : Itm) : List Value := [.int .u16 x.1, .int .u8 x.2.1, x.2.2.1]
theorem encIt_len (x : Itm) : (encIt x).length = 3 := rfl
def bare (x : Itm) : Int × Int × List UInt8 := (x.1, x.2.1, x.2.2.2)

/-- The string of bytes. -/
def strB (bs : List UInt8) : ByteArray := strOfNums (bs.map fun b => (b.toNat : Int))
theorem conv_bytes {w : World} {v : Value} {bs : List UInt8} (h : BytesAt w v bs) : (convert 22 9 v).run Try.prog w = .ok (.string (strB bs)) w := by
  obtain ⟨A, cap, rfl, h1, h2, hc⟩ := bytes_cell h
  by_cases h0 : 0 < bs.length
  · obtain ⟨g, off, rfl, hc2⟩ := hc h0
    exact run_convert_bytes_arg (P := Try.prog) w 22 5 Try.underlying22 Try.underlying5 g off bs.length cap (bs.map fun b => (b.toNat : Int)) (by simp) (fun i hi => by
      rw [hc2 i hi]
      simp [List.getD_eq_getElem?_getD, hi]) 9 Try.underlying9
  · obtain rfl : bs = [] := List.eq_nil_of_length_eq_zero (by omega)
    cases A with
    | none => exact run_convert_bytes_nil (P := Try.prog) w 22 5 Try.underlying22 Try.underlying5 _ _ 9 Try.underlying9
    | some a =>
      rw [run_convert_bytes_string w 22 9 5 (some a) _ _ Try.underlying22 Try.underlying5 Try.underlying9]
      exact run_bytesToString w a 0 cap [] (by simp [loadCells, loadCellsFrom])

/-- Items, wherever they lie. -/
def ItemsAt (w : World) (v : Value) (xs : List Itm) : Prop := SlAt encIt 3 w v xs ∧ ∀ x ∈ xs, BytesAt w x.2.2.1 x.2.2.2
theorem BytesAt.drewN {w : World} {v : Value} {bs : List UInt8} (h : BytesAt w v bs) (n : Nat) : BytesAt (w.drewN n) v bs := h.grow (Frm.drewN (Frm.refl _ _) n)

set_option maxRecDepth 100000 in
set_option maxHeartbeats 1000000 in
theorem same_items (u v : Value) (xs ys : List Itm) (w : World) (hx : ItemsAt w u xs) (hy : ItemsAt w v ys) (he : xs.map bare = ys.map bare) :
    Calls Try.prog 16 #[u, v] w fun e w' => e = .returned (.bool true) ∧ ∃ n, w' = w.drewN n := by
  obtain ⟨⟨A, cap, rfl, h1, h2, hA⟩, hbx⟩ := hx
  obtain ⟨⟨B, cap2, rfl, g1, g2, hB⟩, hby⟩ := hy
  have hl : ys.length = xs.length := by have := congrArg List.length he; simpa using this.symm
  have HA := Lib.hid hA
  have HB := Lib.hid hB
  have HX := Lib.hid hbx
  have HY := Lib.hid hby
  have HE := Lib.hid he
  have hm : xs.length ≤ 9223372036854775807 := Nat.le_trans h1 h2
  rw [hl]
  have HL := Lib.hid hl
  clear hA hB hbx hby he hl h1 h2 g1 g2
  go_enter Try.func16, Try.ntmps16
  go_wp2_with fail
  go_loopw [5] (fun i wr => ∃ k n : Nat, k ≤ xs.length ∧ i = .int .i64 k ∧ wr = w.drewN n) (fun i _ => xs.length - (intOf i).toNat)
  case atStart => exact ⟨0, 0, Nat.zero_le _, rfl, rfl⟩
  case round =>
    obtain ⟨k, n, hk, rfl, rfl⟩ := hrel
    by_cases hlt : k < xs.length
    · have hlt2 : k < ys.length := by rw [HL.out]; exact hlt
      obtain ⟨g, off, rfl, _, hc⟩ := HA.out (by omega)
      obtain ⟨g2, off2, rfl, _, hc2⟩ := HB.out (by omega)
      have e := congrArg (fun l => l[k]?) HE.out
      simp only [List.getElem?_map, List.getElem?_eq_getElem hlt, List.getElem?_eq_getElem hlt2, Option.map_some, Option.some.injEq, bare, Prod.mk.injEq] at e
      have hq0 := hc k hlt 0 (by decide)
      have hq1 := hc k hlt 1 (by decide)
      have hq2 := hc k hlt 2 (by decide)
      have hr0 := hc2 k hlt2 0 (by decide)
      have hr1 := hc2 k hlt2 1 (by decide)
      have hr2 := hc2 k hlt2 2 (by decide)
      have bx := HX.out _ (List.getElem_mem hlt)
      have by' := HY.out _ (List.getElem_mem hlt2)
      clear hc hc2
      generalize xs[k] = x at *
      generalize ys[k] = y at *
      obtain ⟨x0, x1, xv, xb⟩ := x
      obtain ⟨y0, y1, yv, yb⟩ := y
      obtain ⟨e0, e1, e2⟩ := e
      simp only at e0 e1 e2 bx by'
      have sx : ∃ A c, xv = Value.slice A xb.length c := by obtain ⟨A, c, h, _⟩ := bytes_cell bx; exact ⟨A, c, h⟩
      have sy : ∃ A c, yv = Value.slice A yb.length c := by obtain ⟨A, c, h, _⟩ := bytes_cell by'; exact ⟨A, c, h⟩
      obtain ⟨Ax, cax, hxv⟩ := sx
      obtain ⟨Ay, cay, hyv⟩ := sy
      subst hxv
      subst hyv
      have n0 : (x0 != y0) = false := by simpa using e0
      have n1 : (x1 != y1) = false := by simpa using e1
      subst e2
      clear e0 e1
      have q0 : w.cell? ⟨g, off + k * 3, none⟩ = some (.int .u16 x0) := hq0
      have q1 : w.cell? ⟨g, off + k * 3 + 1, none⟩ = some (.int .u8 x1) := hq1
      have q2 : w.cell? ⟨g, off + k * 3 + 2, none⟩ = some (.slice Ax xb.length cax) := hq2
      have r0 : w.cell? ⟨g2, off2 + k * 3, none⟩ = some (.int .u16 y0) := hr0
      have r1 : w.cell? ⟨g2, off2 + k * 3 + 1, none⟩ = some (.int .u8 y1) := hr1
      have r2 : w.cell? ⟨g2, off2 + k * 3 + 2, none⟩ = some (.slice Ay xb.length cay) := hr2
      clear hq0 hq1 hq2 hr0 hr1 hr2
      have cx := fun q => conv_bytes (bx.drewN q)
      have cy := fun q => conv_bytes (by'.drewN q)
      have k0 : (0 : Int) ≤ (k : Int) := Int.natCast_nonneg _
      have k1 : (k : Int) < (xs.length : Int) := by omega
      clear bx by'
      generalize strB xb = sx at *
      go_wp2_with fail
      go_quiet (fail)
      go_wp2_with fail
      go_roundw
      case rel => exact ⟨k + 1, _, by omega, by go_num, rfl⟩
      case measure => simp [intOf]; omega
    · go_wp2_with fail
      go_ret
      exact ⟨rfl, _, rfl⟩

end Go.Proofs.Ytmkkeglcjbogcaa
