/-
  The document's Encode: its walk. A string of bytes. Rows of items; Decode's walk. Items in memory; the law's own Same, of items that are one. That the law's own look at the living ('lives') is true.
-/
import Derived.Deep.RegionHeld3
import Derived.IntWalk
import Derived.Laws.BytesArg
import Derived.Deep.RegionLaw
import Derived.Deep.DeepCutAuto
import Derived.Test.YtmkkeglcjbogcaaM2a984ab5
import Derived.Test.YtmkkeglcjbogcaaM26eb4b05
import Derived.Test.YtmkkeglcjbogcaaMd99ed25a
set_option linter.unusedVariables false
set_option linter.unusedSimpArgs false
namespace Go.Proofs.Ytmkkeglcjbogcaa
open Go.RowKit
set_option linter.unusedVariables false

theorem news_of_row {w : World} {B n e : Nat} {A : Option Addr} {cap : Nat} {bs : List UInt8} (h : w.ownsRow B e 1 (.slice A n cap) n (bs.map encB)) (h0 : 0 < n) : NewsOf w A (bs.map encB) := by
  obtain ⟨A2, c2, e2, _, _, hc⟩ := row_open h
  simp only [Value.slice.injEq] at e2
  obtain ⟨rfl, _, rfl⟩ := e2
  obtain ⟨g, rfl, _, _, _, hc⟩ := hc h0
  have hl := h.1
  refine ⟨g, 0, rfl, fun j u hj => ?_⟩
  have hj' : j < n * 1 := by rw [← hl]; exact (List.getElem?_eq_some_iff.1 hj).1
  rw [Nat.zero_add, hc j hj']; exact hj
def NumPost (bs : List UInt8) (size : Nat) (w : World) (e : Ending) (w' : World) : Prop := Frm (fun _ => False) w w' ∧ ∃ g cap, e = .returned (.slice (some ⟨g, 0, none⟩) size cap) ∧ w'.ownsRow w.heap.size 5 1 (.slice (some ⟨g, 0, none⟩) size cap) size (bs.map encB)

set_option maxRecDepth 100000 in
set_option maxHeartbeats 1000000 in
theorem number_any (n : Int) (size : Nat) (w : World) (h0 : 0 ≤ n) (h1 : n ≤ 140737488351232) (hs : size ≤ 4) :
    Calls Try.prog 63 #[.int .i64 n, .int .i64 size] w (NumPost (leOf n size) size w) := by
  go_enter Try.func63, Try.ntmps63
  go_wp2_with fail
  go_loopw [0, 5, 6] (fun nv bv i wr => ∃ (k j : Nat) (m : Int) (pre : List UInt8), k + j = size ∧ i = .int .i64 k ∧ nv = .int .i64 m ∧ 0 ≤ m ∧ m ≤ n ∧ pre.length = k ∧ leOf n size = pre ++ leOf m j ∧
    (∃ g cap, bv = .slice (some ⟨g, 0, none⟩) k cap ∧ Own8 w.heap.size wr bv pre) ∧ Frm (fun _ => False) w wr) (fun _ _ i _ => size - (intOf i).toNat)
  case atStart => exact ⟨0, size, n, [], by omega, rfl, rfl, h0, Int.le_refl _, rfl, rfl, ⟨_, _, rfl, row_new rfl rfl rfl (by decide) (Nat.le_refl _)⟩, by (repeat' (first | (with_reducible exact Frm.refl _ _) | (with_reducible assumption) | (with_reducible refine Frm.alloc ?_ _) | (with_reducible refine Frm.drew ?_) | (with_reducible refine Frm.drewN ?_ _) | (with_reducible refine Frm.set1 ?_ _) | (with_reducible refine Frm.setCell ?_ ?_ _) | (exact fun h => absurd h (Nat.lt_irrefl _)) | (intro hlt; simp [World.size_alloc, One] at hlt ⊢; omega)))⟩
  case round =>
    obtain ⟨k, j, m, pre, hkj, rfl, rfl, hm0, hm1, hpl, hle, ⟨gb, capb, rfl, hO⟩, hF⟩ := hrel
    have HLE := Lib.hid hle
    have HPL := Lib.hid hpl
    have HKJ := Lib.hid hkj
    unfold Own8 at hO
    rw [hpl] at hO
    have HO := Lib.hid hO
    have HF := Lib.hid hF
    have hsz := hF.size
    clear hle hpl hO hF
    by_cases hlt : k < size
    · obtain ⟨j, rfl⟩ : ∃ i, j = i + 1 := ⟨j - 1, by omega⟩
      have hm3 : k + 1 ≤ maxLen := by unfold maxLen; omega
      have hm4 : (k + 1) * 1 ≤ 140737488355328 := by omega
      clear hkj
      go_wp2_with (at_builtin; go_loud (refine wpl_app rfl el_u8 (.tmp 13) (.tmp 17) rfl (B := w.heap.size) (e2 := 5) (fr := (0, 0)) (arr := #[.int .u8 (m % 256)]) rfl rfl (Frm.row (S := fun _ => False) (w := wr) (by (repeat' (first | (with_reducible exact Frm.refl _ _) | (with_reducible assumption) | (with_reducible refine Frm.alloc ?_ _) | (with_reducible refine Frm.drew ?_) | (with_reducible refine Frm.drewN ?_ _) | (with_reducible refine Frm.set1 ?_ _) | (with_reducible refine Frm.setCell ?_ ?_ _) | (exact fun h => absurd h (Nat.lt_irrefl _)) | (intro hlt; simp [World.size_alloc, One] at hlt ⊢; omega)))) HO.out (fun _ _ h => h)) (heap_new_at (by simp)) rfl (by simp [Value.oneCell']) (by decide) hm3 hm4 (by simp; omega) ?_; intro g5 cap5 w5 hown5 hfr5 hat5 hlt5))
      go_roundw
      case rel =>
        have hkj := HKJ.out
        refine ⟨k + 1, j, m / 256, pre ++ [UInt8.ofNat (m % 256).toNat], by omega, by go_num, rfl, by omega, by omega, by simp [HPL.out], ?_, ⟨g5, cap5, by first | rfl | simp, ?_⟩, ?_⟩
        · rw [HLE.out, leOf_succD]; simp
        · unfold Own8
          rw [List.length_append, List.map_append, HPL.out]
          simp only [List.map_cons, List.map_nil, encB_mod, List.length_singleton]
          exact hown5
        · exact (HF.out.trans' (Frm.alloc (Frm.refl _ _) _)).trans hfr5 (fun i hi hs => absurd (row_block HO.out hs).1 (by omega))
      case measure => simp [intOf]; omega
    · obtain rfl : j = 0 := by omega
      obtain rfl : k = size := by omega
      go_wp2_with fail
      go_ret
      have hp : leOf n k = pre := by rw [HLE.out]; simp [leOf]
      refine ⟨HF.out, gb, capb, rfl, ?_⟩
      rw [hp]
      exact HO.out

set_option maxRecDepth 100000 in
set_option maxHeartbeats 2000000 in
theorem rencode_long1 (v : Value) (xs : List Itm) (w : World) (h : ItemsAt w v xs) (hb : 1024 < xs.length) : Calls Try.prog 28 #[v] w (EncBad w) := by
  obtain ⟨A, cap, rfl, _⟩ := h.open_
  clear h
  go_enter Try.func28, Try.ntmps28
  go_wp2_with fail
  go_ret2
  exact ⟨Frm.refl _ _, rfl⟩

/-- What the document's Encode answers. -/
def REncPost (xs : List Itm) (w : World) (e : Ending) (w' : World) : Prop := ((∃ x ∈ xs, 65536 < x.2.2.2.length) → EncBad w e w') ∧ ((∀ x ∈ xs, x.2.2.2.length ≤ 65536) → EncOk (encOf (xs.map bare)) w e w')

set_option maxRecDepth 100000 in
set_option maxHeartbeats 4000000 in
theorem rencode_any (v : Value) (xs : List Itm) (w : World) (h : ItemsAt w v xs) (hn : xs.length ≤ 1024) (hr : ∀ x ∈ xs, Rng (bare x)) :
    Calls Try.prog 28 #[v] w (REncPost xs w) := by
  have HI := Lib.hid h
  obtain ⟨A, cap, rfl, _, ho⟩ := h.open_
  have HO := Lib.hid ho
  have HR := Lib.hid hr
  have HL := Lib.hid (fun W => number_any (xs.length : Int) 4 W (by omega) (by omega) (by omega))
  clear h ho hr
  go_enter Try.func28, Try.ntmps28
  go_wp2_with (go_at_call 63; refine (HL.out _).mono ?_; rintro e w2 ⟨hF2, g2, cap2, rfl, hO2⟩)
  go_loopw [4, 5] (fun bv i wr => ∃ (k : Nat) (g cap : Nat), k ≤ xs.length ∧ i = .int .i64 k ∧ bv = .slice (some ⟨g, 0, none⟩) (EncRow xs k).length cap ∧ Own8 w.heap.size wr bv (EncRow xs k) ∧ Frm (fun _ => False) w wr ∧ ∀ x ∈ xs.take k, x.2.2.2.length ≤ 65536) (fun _ i _ => xs.length - (intOf i).toNat)
  case atStart =>
    have hl : EncRow xs 0 = leOf xs.length 4 := by simp [EncRow]
    refine ⟨0, g2, cap2, Nat.zero_le _, rfl, by rw [hl, leOf_length], ?_, hF2, by simp⟩
    rw [hl]
    unfold Own8
    rw [leOf_length]
    exact hO2
  case round =>
    clear hF2 hO2
    obtain ⟨k, gr, capr, hk, rfl, rfl, hO, hF, hall⟩ := hrel
    by_cases hlt : k < xs.length
    · obtain ⟨g, off, Ab, cb, rfl, hxv, hml, c0, c1, c2⟩ := HO.out k hlt
      have d0 := hF.cell c0 (fun h => h)
      have d1 := hF.cell c1 (fun h => h)
      have d2 := hF.cell c2 (fun h => h)
      have C0 := Lib.hid c0
      have C1 := Lib.hid c1
      have C2 := Lib.hid c2
      have hgl : g < w.heap.size := World.block_lt_of_cell? w _ c0
      have hrk := HR.out _ (List.getElem_mem hlt)
      have hBA := HI.out.2 _ (List.getElem_mem hlt)
      rw [hxv] at hBA
      have hek : EncRow xs (k + 1) = EncRow xs k ++ encIt8 (bare xs[k]) := by
        unfold EncRow
        rw [List.take_succ_eq_append_getElem hlt, List.map_append, List.flatMap_append]
        simp
      have htk := List.take_succ_eq_append_getElem hlt
      have hel : (EncRow xs k).length ≤ 67117060 := by
        unfold EncRow
        rw [List.length_append, leOf_length]
        have := enc8s_length ((xs.take k).map bare) (fun y hy => by
          obtain ⟨z, hz, rfl⟩ := List.mem_map.1 hy
          exact hall z hz)
        rw [List.length_map, List.length_take] at this
        omega
      have hmem : xs[k] ∈ xs := List.getElem_mem hlt
      have HMEM := Lib.hid hmem
      have HEK := Lib.hid hek
      have HTK := Lib.hid htk
      have HALL := Lib.hid hall
      clear c0 c1 c2 hxv hek hmem htk hall
      generalize xs[k] = x at *
      obtain ⟨x0, x1, xv, xb⟩ := x
      simp only at d0 d1 d2 hml hBA C0 C1 C2
      obtain ⟨A9, c9, e9, _, _, hnews⟩ := hBA.open_
      simp only [Value.slice.injEq] at e9
      obtain ⟨rfl, _, rfl⟩ := e9
      have HNEWS := Lib.hid hnews
      have hrk' := hrk
      obtain ⟨r0, r1, r2, r3⟩ := hrk'
      simp only [bare] at r0 r1 r2 r3
      have HRK := Lib.hid hrk
      have HROW := Lib.hid hO
      have HF := Lib.hid hF
      have hsz := hF.size
      obtain ⟨m, hm⟩ : ∃ m, (EncRow xs k).length = m := ⟨_, rfl⟩
      unfold Own8 at HROW
      rw [hm] at HROW hel
      simp only [hm]
      have HM := Lib.hid hm
      unfold maxLen at hml
      clear hF hO hBA hnews hm hrk
      by_cases hbig : 65536 < xb.length
      · have HX : Hid (∃ x ∈ xs, 65536 < x.2.2.2.length) := ⟨_, HMEM.out, hbig⟩
        go_wp2_with fail
        go_ret2
        exact ⟨fun _ => ⟨HF.out, rfl⟩, fun h => by obtain ⟨y, hy, hy2⟩ := HX.out; have := h y hy; omega⟩
      · have hbk : xb.length ≤ 65536 := by omega
        have HL4 := Lib.hid (fun W => number_any (xb.length : Int) 4 W (by omega) (by omega) (by omega))
        have HL2 : Hid (∀ W, Calls Try.prog 63 #[.int .i64 (IntKind.i64.wrap x0), .int .i64 2] W (NumPost (leOf x0 2) 2 W)) := fun W => by
          rw [IntWalk.i64_in x0 (by omega)]
          exact number_any x0 2 W (by omega) (by omega) (by omega)
        have hm1 : m + 2 ≤ maxLen := by unfold maxLen; omega
        have hm2 : (m + 2) * 1 ≤ 140737488355328 := by omega
        have hm3 : m + 2 + 1 ≤ maxLen := by unfold maxLen; omega
        have hm4 : (m + 2 + 1) * 1 ≤ 140737488355328 := by omega
        have hm5 : m + 3 + 4 ≤ maxLen := by unfold maxLen; omega
        have hm6 : (m + 3 + 4) * 1 ≤ 140737488355328 := by omega
        have hm7 : m + 3 + 4 + xb.length ≤ maxLen := by unfold maxLen; omega
        have hm8 : (m + 3 + 4 + xb.length) * 1 ≤ 140737488355328 := by omega
        have HLEN : Hid ((xb.map encB).length = xb.length * 1) := by unfold Hid; simp
        have HONEB := Lib.hid (oneB xb)
        clear hbig
        go_upto_region 9 with fail
        go_cut [4] (fun bv wx => ∃ g3 cap3, bv = .slice (some ⟨g3, 0, none⟩) (m + 3) cap3 ∧ wx.ownsRow w.heap.size 5 1 bv (m + 3) (((EncRow xs k).map encB ++ (leOf x0 2).map encB) ++ [.int .u8 x1]) ∧ Frm (fun _ => False) w wx)
        case first =>
          have hgr : gr < wr.heap.size := by obtain ⟨_, cur, hc⟩ := row_block HROW.out rfl; exact lt_of_block hc
          have hgw : w.heap.size ≤ gr := (row_block HROW.out rfl).1
          have HEL2 : Hid (((leOf x0 2).map encB).length = 2 * 1) := by unfold Hid; simp [leOf_length]
          have HON2 := Lib.hid (oneB (leOf x0 2))
          go_region_held3 (fun w' => w'.cell? ⟨g, off + k * 3, none⟩ = some (.int .u16 x0) ∧ w'.cell? ⟨g, off + k * 3 + 1, none⟩ = some (.int .u8 x1))
            (first | (refine ⟨?_, ?_⟩ <;> (repeat (first | (with_reducible assumption) | (with_reducible apply cell_alloc_old) | (with_reducible apply cell_drew')))))
            (first
              | (refine step_call 63 (by rfl) (by rfl) Try.func63 (by rfl) (by rfl) (by rfl) ((HL2.out _).mono ?_); rintro e w3 ⟨hF3, g4, cap4, rfl, hO4⟩; have hF3' : Frm (fun _ => False) wr w3 := (Frm.trans' (by (repeat' (first | (with_reducible exact Frm.refl _ _) | (with_reducible assumption) | (with_reducible refine Frm.alloc ?_ _) | (with_reducible refine Frm.drew ?_) | (with_reducible refine Frm.drewN ?_ _) | (with_reducible refine Frm.set1 ?_ _) | (with_reducible refine Frm.setCell ?_ ?_ _) | (exact fun h => absurd h (Nat.lt_irrefl _)) | (intro hlt; simp [World.size_alloc, One] at hlt ⊢; omega)))) hF3); have hz3 := hF3'.size; have hz3' := hF3.size; (try simp at hz3'); (try (have hb3 := hF3.heap (heap_new _ _) (fun h => h))); have e0 := hF3'.cell d0 (fun h => h); have e1 := hF3'.cell d1 (fun h => h); have HO4 := Lib.hid hO4; clear hO4 hF3; refine CallK.ret ?_)
              | (refine step_app_src (by rfl) el_u8 (.tmp 25) (.tmp 32) (by rfl) (by rfl) (by rfl) (B := w.heap.size) (news := (leOf x0 2).map encB) (Frm.row (S := fun _ => False) (w := wr) (by (repeat' (first | (with_reducible exact Frm.refl _ _) | (with_reducible assumption) | (with_reducible refine Frm.alloc ?_ _) | (with_reducible refine Frm.drew ?_) | (with_reducible refine Frm.drewN ?_ _) | (with_reducible refine Frm.set1 ?_ _) | (with_reducible refine Frm.setCell ?_ ?_ _) | (exact fun h => absurd h (Nat.lt_irrefl _)) | (intro hlt; simp [World.size_alloc, One] at hlt ⊢; omega)))) HROW.out (fun _ _ h => h)) HEL2.out (fun h0 => (news_of_row HO4.out h0).grow (by (repeat' (first | (with_reducible exact Frm.refl _ _) | (with_reducible assumption) | (with_reducible refine Frm.alloc ?_ _) | (with_reducible refine Frm.drew ?_) | (with_reducible refine Frm.drewN ?_ _) | (with_reducible refine Frm.set1 ?_ _) | (with_reducible refine Frm.setCell ?_ ?_ _) | (exact fun h => absurd h (Nat.lt_irrefl _)) | (intro hlt; simp [World.size_alloc, One] at hlt ⊢; omega))))) HON2.out hm1 hm2 (by first | omega | (simp; omega)) ?_; intro A5 cap5 w5 hown5 hfr5; have hz5 := hfr5.size; (try simp at hz5); have hF5 : Frm (fun _ => False) w w5 := ((HF.out.trans' (by (repeat' (first | (with_reducible exact Frm.refl _ _) | (with_reducible assumption) | (with_reducible refine Frm.alloc ?_ _) | (with_reducible refine Frm.drew ?_) | (with_reducible refine Frm.drewN ?_ _) | (with_reducible refine Frm.set1 ?_ _) | (with_reducible refine Frm.setCell ?_ ?_ _) | (exact fun h => absurd h (Nat.lt_irrefl _)) | (intro hlt; simp [World.size_alloc, One] at hlt ⊢; omega))))).trans hfr5 (fun i hi hs => absurd (Option.some.inj hs) (by simp only; omega))); (try (have hb5 := hfr5.heap hb3 (fun hs => absurd (Option.some.inj hs) (by simp only; omega)))); (try (have hb5 := hfr5.heap (heap_new _ _) (fun hs => absurd (Option.some.inj hs) (by simp only; omega)))); have f0 := hfr5.cell (by first | exact e0 | exact cell_alloc_old e0) (fun hs => absurd (Option.some.inj hs) (by simp only; omega)); have f1 := hfr5.cell (by first | exact e1 | exact cell_alloc_old e1) (fun hs => absurd (Option.some.inj hs) (by simp only; omega)); have HO5 := Lib.hid hown5; clear hown5)
              | (refine step_app (by rfl) el_u8 (.tmp 33) (.tmp 39) (by rfl) (by rfl) (by rfl) (B := w.heap.size) (arr := #[.int .u8 x1]) (e2 := 5) (fr := (0, 0)) (Frm.row (S := fun _ => False) (w := w5) (by (repeat' (first | (with_reducible exact Frm.refl _ _) | (with_reducible assumption) | (with_reducible refine Frm.alloc ?_ _) | (with_reducible refine Frm.drew ?_) | (with_reducible refine Frm.drewN ?_ _) | (with_reducible refine Frm.set1 ?_ _) | (with_reducible refine Frm.setCell ?_ ?_ _) | (exact fun h => absurd h (Nat.lt_irrefl _)) | (intro hlt; simp [World.size_alloc, One] at hlt ⊢; omega)))) HO5.out (fun _ _ h => h)) (by first | exact hb5 | exact heap_new _ _) (by rfl) (by simp [Value.oneCell']) (by decide) hm3 hm4 (by first | omega | (simp; omega)) ?_; intro g7 cap7 w7 hown7 hfr7 hat7 hlt7; have hno7 : ∀ q, q < w.heap.size → ¬ (Value.slice A5 (m + 2) cap5).ownBlock = some q := (fun q hq hs => absurd (row_block HO5.out hs).1 (by omega)); have hF7 : Frm (fun _ => False) w w7 := ((hF5.trans' (by (repeat' (first | (with_reducible exact Frm.refl _ _) | (with_reducible assumption) | (with_reducible refine Frm.alloc ?_ _) | (with_reducible refine Frm.drew ?_) | (with_reducible refine Frm.drewN ?_ _) | (with_reducible refine Frm.set1 ?_ _) | (with_reducible refine Frm.setCell ?_ ?_ _) | (exact fun h => absurd h (Nat.lt_irrefl _)) | (intro hlt; simp [World.size_alloc, One] at hlt ⊢; omega))))).trans hfr7 (fun i hi hs => hno7 i hi hs)); have k0 := hF7.cell C0.out (fun h => h); have k1 := hF7.cell C1.out (fun h => h)))
          all_goals
            go_wp2_with fail
            go_meet
            exact ⟨g7, cap7, rfl, hown7, hF7⟩
        case rest =>
          obtain ⟨g3, cap3, rfl, hO3, hF3⟩ := hcut
          have c2 := hF3.cell C2.out (fun h => h)
          have hgr : g3 < wc.heap.size := by obtain ⟨_, cur, hc⟩ := row_block hO3 rfl; exact lt_of_block hc
          have hgw : w.heap.size ≤ g3 := (row_block hO3 rfl).1
          have hsz3 := hF3.size
          have HO3 := Lib.hid hO3
          have HF3 := Lib.hid hF3
          have HEL4 : Hid (((leOf xb.length 4).map encB).length = 4 * 1) := by unfold Hid; simp [leOf_length]
          have HON4 := Lib.hid (oneB (leOf xb.length 4))
          clear hO3 hF3
          go_wp2_with fail
          go_region_held3 (fun w' => w'.cell? ⟨g, off + k * 3 + 2, none⟩ = some (.slice Ab xb.length cb))
            (first | (repeat (first | (with_reducible assumption) | (with_reducible apply cell_alloc_old) | (with_reducible apply cell_drew'))))
            (first
              | (refine step_call 63 (by rfl) (by rfl) Try.func63 (by rfl) (by rfl) (by rfl) ((HL4.out _).mono ?_); rintro e w3 ⟨hF4, g4, cap4, rfl, hO4⟩; have hF4' : Frm (fun _ => False) wc w3 := (Frm.trans' (by (repeat' (first | (with_reducible exact Frm.refl _ _) | (with_reducible assumption) | (with_reducible refine Frm.alloc ?_ _) | (with_reducible refine Frm.drew ?_) | (with_reducible refine Frm.drewN ?_ _) | (with_reducible refine Frm.set1 ?_ _) | (with_reducible refine Frm.setCell ?_ ?_ _) | (exact fun h => absurd h (Nat.lt_irrefl _)) | (intro hlt; simp [World.size_alloc, One] at hlt ⊢; omega)))) hF4); have hz4 := hF4'.size; have hz4' := hF4.size; (try simp at hz4'); have e0 := hF4'.cell c2 (fun h => h); have HO4 := Lib.hid hO4; clear hO4 hF4; refine CallK.ret ?_)
              | (refine step_app_src (by rfl) el_u8 (.tmp 41) (.tmp 48) (by rfl) (by rfl) (by rfl) (B := w.heap.size) (news := (leOf xb.length 4).map encB) (Frm.row (S := fun _ => False) (w := wc) (by (repeat' (first | (with_reducible exact Frm.refl _ _) | (with_reducible assumption) | (with_reducible refine Frm.alloc ?_ _) | (with_reducible refine Frm.drew ?_) | (with_reducible refine Frm.drewN ?_ _) | (with_reducible refine Frm.set1 ?_ _) | (with_reducible refine Frm.setCell ?_ ?_ _) | (exact fun h => absurd h (Nat.lt_irrefl _)) | (intro hlt; simp [World.size_alloc, One] at hlt ⊢; omega)))) HO3.out (fun _ _ h => h)) HEL4.out (fun h0 => (news_of_row HO4.out h0).grow (by (repeat' (first | (with_reducible exact Frm.refl _ _) | (with_reducible assumption) | (with_reducible refine Frm.alloc ?_ _) | (with_reducible refine Frm.drew ?_) | (with_reducible refine Frm.drewN ?_ _) | (with_reducible refine Frm.set1 ?_ _) | (with_reducible refine Frm.setCell ?_ ?_ _) | (exact fun h => absurd h (Nat.lt_irrefl _)) | (intro hlt; simp [World.size_alloc, One] at hlt ⊢; omega))))) HON4.out hm5 hm6 (by omega) ?_; intro A5 cap5 w5 hown5 hfr5; have hz5 := hfr5.size; have hF5 : Frm (fun _ => False) w w5 := ((HF3.out.trans' (by (repeat' (first | (with_reducible exact Frm.refl _ _) | (with_reducible assumption) | (with_reducible refine Frm.alloc ?_ _) | (with_reducible refine Frm.drew ?_) | (with_reducible refine Frm.drewN ?_ _) | (with_reducible refine Frm.set1 ?_ _) | (with_reducible refine Frm.setCell ?_ ?_ _) | (exact fun h => absurd h (Nat.lt_irrefl _)) | (intro hlt; simp [World.size_alloc, One] at hlt ⊢; omega))))).trans hfr5 (fun i hi hs => absurd (Option.some.inj hs) (by simp only; omega))); have f0 := hF5.cell C2.out (fun h => h); have HO5 := Lib.hid hown5; clear hown5 hfr5)
              | (refine step_app_src (by rfl) el_u8 (.tmp 49) (.tmp 54) (by rfl) (by rfl) (by rfl) (B := w.heap.size) (news := xb.map encB) HO5.out HLEN.out (fun h0 => (HNEWS.out h0).grow hF5) HONEB.out hm7 hm8 (by omega) ?_; intro A7 cap7 w7 hown7 hfr7; have hno7 : ∀ q, q < w.heap.size → ¬ (Value.slice A5 (m + 3 + 4) cap5).ownBlock = some q := (fun q hq hs => absurd (row_block HO5.out hs).1 (by omega)); have hF7 : Frm (fun _ => False) w w7 := (hF5.trans hfr7 (fun i hi hs => hno7 i hi hs)); have k0 := hF7.cell C2.out (fun h => h)))
          all_goals
            go_wp2_with fail
            go_roundw
            case rel =>
              obtain ⟨g9, rfl⟩ : ∃ g9, A7 = some ⟨g9, 0, none⟩ := by
                obtain ⟨A8, c8, e8, _, _, hc8⟩ := row_open hown7
                simp only [Value.slice.injEq] at e8
                obtain ⟨rfl, _, rfl⟩ := e8
                obtain ⟨g9, rfl, _⟩ := hc8 (by omega)
                exact ⟨g9, rfl⟩
              have hlen : (EncRow xs (k + 1)).length = m + 3 + 4 + xb.length := by
                rw [HEK.out, List.length_append, HM.out, enc8_length]; simp only [bare]; omega
              have hcells : (EncRow xs (k + 1)).map encB = (((EncRow xs k).map encB ++ (leOf x0 2).map encB) ++ [.int .u8 x1]) ++ (leOf xb.length 4).map encB ++ xb.map encB := by
                rw [HEK.out, List.map_append]
                have h8 : (encIt8 (bare (x0, x1, Value.slice Ab xb.length cb, xb))).map encB = (leOf x0 2).map encB ++ [.int .u8 x1] ++ (leOf xb.length 4).map encB ++ xb.map encB := by
                  simp only [encIt8, bare, List.map_append, List.map_cons, List.map_nil, encB_ofD x1 r2 r3]
                have h9 : (encIt8 (bare (x0, x1, xv, xb))).map encB = (leOf x0 2).map encB ++ [.int .u8 x1] ++ (leOf xb.length 4).map encB ++ xb.map encB := h8
                rw [h9]
                simp only [List.append_assoc]
              refine ⟨k + 1, g9, cap7, by omega, by go_num, ?_, ?_, hF7, fun y hy => ?_⟩
              · rw [hlen]
              · unfold Own8
                rw [hlen, hcells]
                exact hown7
              · rw [HTK.out] at hy
                rcases List.mem_append.1 hy with hy | hy
                · exact HALL.out y hy
                · simp at hy
                  subst hy
                  exact hbk
            case measure => simp [intOf]; omega
    · have HALL := Lib.hid hall
      have HF := Lib.hid hF
      have HO' := Lib.hid hO
      clear hall hF hO
      go_wp2_with fail
      go_ret2
      obtain rfl : k = xs.length := by omega
      have ha := HALL.out
      rw [List.take_of_length_le (Nat.le_refl _)] at ha
      refine ⟨fun h => ?_, fun _ => ⟨HF.out, _, rfl, ?_⟩⟩
      · obtain ⟨y, hy, hy2⟩ := h
        have := ha y hy
        omega
      · have : EncRow xs xs.length = encOf (xs.map bare) := by simp [EncRow, encOf]
        rw [← this]
        exact HO'.out
end Go.Proofs.Ytmkkeglcjbogcaa
namespace Go.Proofs.Ytmkkeglcjbogcaa
open Go.RowKit
set_option linter.unusedVariables false

/-- The string of bytes. -/
def strB (bs : List UInt8) : ByteArray := strOfNums (bs.map fun b => (b.toNat : Int))
theorem conv_bytes {w : World} {v : Value} {bs : List UInt8} (h : BytesAt w v bs) : (convert 22 9 v).run Try.prog w = .ok (.string (strB bs)) w := by
  obtain ⟨A, cap, rfl, h1, h2, hc⟩ := bytes_cell h
  by_cases h0 : 0 < bs.length
  · obtain ⟨g, off, rfl, hc2⟩ := hc h0
    exact run_convert_bytes_arg (P := Try.prog) w 22 5 Try.underlying22 Try.underlying5 g off bs.length cap (bs.map fun b => (b.toNat : Int)) (by simp) (fun i hi => by
      rw [hc2 i hi]
      simp [List.getD_eq_getElem?_getD, hi]) 9 Try.underlying9
  · obtain rfl : bs = [] := List.eq_nil_of_length_eq_zero (by omega)
    cases A with
    | none => exact run_convert_bytes_nil (P := Try.prog) w 22 5 Try.underlying22 Try.underlying5 _ _ 9 Try.underlying9
    | some a =>
      rw [run_convert_bytes_string w 22 9 5 (some a) _ _ Try.underlying22 Try.underlying5 Try.underlying9]
      exact run_bytesToString w a 0 cap [] (by simp [loadCells, loadCellsFrom])
end Go.Proofs.Ytmkkeglcjbogcaa
namespace Go.Proofs.Ytmkkeglcjbogcaa
open Go.RowKit
set_option linter.unusedVariables false

/-- What was read ahead, and what is read then. -/
def catD (l0 : List It) : Except Int (List It × List UInt8) → Except Int (List It × List UInt8)
  | .error e => .error e
  | .ok (l, r) => .ok (l0 ++ l, r)
def finD : Except Int (List It × List UInt8) → List It × Int
  | .error e => ([], e)
  | .ok (l, r) => if 0 < r.length then ([], 8) else (l, 0)
theorem catD_nil (x : Except Int (List It × List UInt8)) : catD [] x = x := by cases x <;> simp [catD]
theorem catD_catD (a b : List It) (x : Except Int (List It × List UInt8)) : catD a (catD b x) = catD (a ++ b) x := by cases x <;> simp [catD]
theorem decOf_short {bs : List UInt8} (h : bs.length < 4) : decOf bs = ([], 3) := by rw [decOf, if_pos h]
theorem decOf_big {bs : List UInt8} (h : 4 ≤ bs.length) (h2 : 1024 < numOf (bs.take 4)) : decOf bs = ([], 2) := by rw [decOf, if_neg (by omega), if_pos h2]
theorem decOf_run {bs : List UInt8} (h : 4 ≤ bs.length) (n : Nat) (hn : numOf (bs.take 4) = n) (h2 : n ≤ 1024) : decOf bs = finD (decN n (bs.drop 4)) := by
  rw [decOf, if_neg (by omega), if_neg (by omega), hn, Int.toNat_natCast]
  cases decN n (bs.drop 4) <;> rfl
theorem decN_short {m : Nat} {r : List UInt8} (h : r.length < 7) : decN (m + 1) r = .error 3 := by rw [decN, if_pos h]
theorem decN_big {m : Nat} {r : List UInt8} (h : 7 ≤ r.length) (h2 : 65536 < numOf ((r.drop 3).take 4)) : decN (m + 1) r = .error 2 := by rw [decN, if_neg (by omega), if_pos h2]
theorem decN_less {m : Nat} {r : List UInt8} (h : 7 ≤ r.length) (h2 : numOf ((r.drop 3).take 4) ≤ 65536) (h3 : ((r.drop 7).length : Int) < numOf ((r.drop 3).take 4)) : decN (m + 1) r = .error 3 := by rw [decN, if_neg (by omega), if_neg (by omega), if_pos h3]
theorem decN_more {m k : Nat} {r : List UInt8} (h : 7 ≤ r.length) (hk : numOf ((r.drop 3).take 4) = k) (h2 : k ≤ 65536) (h3 : k ≤ (r.drop 7).length) :
    decN (m + 1) r = catD [(numOf (r.take 2), ((r[2]'(by omega)).toNat : Int), (r.drop 7).take k)] (decN m ((r.drop 7).drop k)) := by
  rw [decN, if_neg (by omega), if_neg (by omega), if_neg (by omega), hk, Int.toNat_natCast]
  have hg : r.getD 2 0 = r[2]'(by omega) := by rw [List.getD_eq_getElem?_getD, List.getElem?_eq_getElem (by omega)]; rfl
  rw [hg]
  cases decN m ((r.drop 7).drop k) <;> rfl

def DecPost (bs : List UInt8) (w : World) (e : Ending) (w' : World) : Prop :=
  Frm (fun _ => False) w w' ∧ ∃ v xs code, e = .returned (.tuple #[v, .int .i64 code]) ∧ (xs.map bare, code) = decOf bs ∧ ItemsRow w.heap.size w' v xs

/-- What an item is read as, where it is whole. -/
theorem item_more (v : Value) (r : List UInt8) (k : Nat) (w : World) (h : BytesAt w v r) (h7 : 7 ≤ r.length) (hl : r.length ≤ 140737488351232) (hk : numOf ((r.drop 3).take 4) = k) (h2 : k ≤ 65536) (h3 : k ≤ (r.drop 7).length) :
    Calls Try.prog 56 #[v] w fun e w' => Frm (fun _ => False) w w' ∧ ∃ Ab cb Ar nr cr, e = .returned (.tuple #[.agg #[.int .u16 (numOf (r.take 2)), .int .u8 (r[2].toNat : Int), .slice Ab k cb], .slice Ar nr cr, .int .i64 0]) ∧
      Own8 w.heap.size w' (.slice Ab k cb) ((r.drop 7).take k) ∧ BytesAt w' (.slice Ar nr cr) ((r.drop 7).drop k) ∧ (Value.slice Ar nr cr).ownBlock = v.ownBlock := by
  refine (item_long v r w h h7 hl).mono ?_
  rintro e w' ⟨hF, hp⟩
  rw [hk, if_neg (by omega), if_neg (by omega)] at hp
  simp only [Int.toNat_natCast] at hp
  obtain ⟨vb, vr, rfl, hO, hB, hob⟩ := hp
  obtain ⟨Ab, cb, rfl, _⟩ := row_open hO
  obtain ⟨Ar, cr, rfl, _⟩ := bytes_cell hB
  have hkl : ((r.drop 7).take k).length = k := by rw [List.length_take]; omega
  rw [hkl] at hO ⊢
  exact ⟨hF, _, _, _, _, _, rfl, hO, hB, hob⟩
/-- What is wrong with the first item. -/
def itemBad (r : List UInt8) : Option Int := if r.length < 7 then some 3 else if 65536 < numOf ((r.drop 3).take 4) then some 2 else if ((r.drop 7).length : Int) < numOf ((r.drop 3).take 4) then some 3 else none
theorem decN_bad {m : Nat} {r : List UInt8} {d : Int} (h : itemBad r = some d) : decN (m + 1) r = .error d ∧ (d = 2 ∨ d = 3) := by
  unfold itemBad at h
  split at h
  · cases h; exact ⟨decN_short (by assumption), .inr rfl⟩
  · split at h
    · cases h; exact ⟨decN_big (by omega) (by assumption), .inl rfl⟩
    · split at h
      · cases h; exact ⟨decN_less (by omega) (by omega) (by assumption), .inr rfl⟩
      · cases h
theorem item_ok {r : List UInt8} (h : itemBad r = none) : 7 ≤ r.length ∧ ∃ k : Nat, numOf ((r.drop 3).take 4) = k ∧ k ≤ 65536 ∧ k ≤ (r.drop 7).length := by
  unfold itemBad at h
  have hn := numOf_nn ((r.drop 3).take 4)
  split at h
  · cases h
  · split at h
    · cases h
    · split at h
      · cases h
      · exact ⟨by omega, (numOf ((r.drop 3).take 4)).toNat, by omega, by omega, by omega⟩
theorem item_less (v : Value) (r : List UInt8) (w : World) (h : BytesAt w v r) (hl : r.length ≤ 140737488351232) (d : Int) (hd : itemBad r = some d) :
    Calls Try.prog 56 #[v] w fun e w' => Frm (fun _ => False) w w' ∧ ∃ i s v, e = .returned (.tuple #[.agg #[.int .u16 i, .int .u8 s, .slice none 0 0], v, .int .i64 d]) := by
  unfold itemBad at hd
  split at hd
  · cases hd
    exact (item_short v r w h (by assumption)).mono fun e w' hp => ⟨hp.2, hp.1⟩
  · refine (item_long v r w h (by omega) hl).mono ?_
    rintro e w' ⟨hF, hp⟩
    refine ⟨hF, ?_⟩
    split at hd
    · cases hd
      rw [if_pos (by assumption)] at hp
      exact hp
    · split at hd
      · cases hd
        rw [if_neg (by assumption), if_pos (by assumption)] at hp
        exact hp
      · cases hd

def FromCut (w : World) (m g : Nat) (bs : List UInt8) (v : Value) (wx : World) : Prop := BytesAt wx v bs ∧ v.ownBlock = some g ∧ wx = w.drewN m

set_option maxRecDepth 100000 in
set_option maxHeartbeats 2000000 in
theorem decode_any (v : Value) (bs : List UInt8) (w : World) (h : BytesAt w v bs) (hl : bs.length ≤ 140737488351232) :
    Calls Try.prog 14 #[v] w (DecPost bs w) := by
  by_cases h4 : bs.length < 4
  · have HD := Lib.hid (decOf_short h4)
    obtain ⟨A, cap, rfl, h1, h2, hc⟩ := bytes_cell h
    clear hc h h1 h2
    go_enter Try.func14, Try.ntmps14
    go_wp2_with fail
    go_ret2
    exact ⟨Frm.refl _ _, _, [], 3, rfl, HD.out.symm, .nil _ _⟩
  have h4' : 4 ≤ bs.length := by omega
  have hn0 := numOf_nn (bs.take 4)
  obtain ⟨n, hn⟩ : ∃ n : Nat, numOf (bs.take 4) = n := ⟨(numOf (bs.take 4)).toNat, by omega⟩
  have HR := Lib.hid (read32_any _ bs w h (by omega))
  rw [hn] at HR
  have H := Lib.hid h
  obtain ⟨A, cap, rfl, h1, h2, hc⟩ := bytes_cell h
  obtain ⟨g, off, rfl, hc2⟩ := hc (by omega)
  unfold maxLen at h2
  have hgs : g < w.heap.size := World.block_lt_of_cell? w _ (hc2 0 (by omega))
  clear hc hc2 h h4 hn0
  by_cases hbig : 1024 < n
  · have HD := Lib.hid (decOf_big h4' (by rw [hn]; omega))
    clear hn
    go_enter Try.func14, Try.ntmps14
    go_wp2_with (go_at_call 55; refine HR.out.mono ?_; rintro e w3 ⟨rfl, m, rfl⟩)
    go_ret2
    exact ⟨(Frm.refl _ _).drewN _, _, [], 2, rfl, HD.out.symm, .nil _ _⟩
  have HD := Lib.hid (decOf_run h4' n hn (by omega))
  have hn1 : n ≤ 1024 := by omega
  clear hn hbig
  go_enter Try.func14, Try.ntmps14
  go_upto_region 6 with (go_at_call 55; refine HR.out.mono ?_; rintro e w3 ⟨rfl, m, rfl⟩)
  go_cut [0] (fun v wx => FromCut w m g (bs.drop 4) v wx)
  case first =>
    by_cases hcap : cap = 4
    · have hb4 : bs.length = 4 := by omega
      subst hcap
      have hd : bs.drop 4 = [] := List.drop_eq_nil_of_le (by omega)
      go_wp2_with fail
      go_meet
      exact ⟨by rw [hd]; exact ⟨_, 0, rfl, Nat.le_refl _, by unfold maxLen; omega, fun h => absurd h (by simp)⟩, rfl, rfl⟩
    · go_wp2_with fail
      go_meet
      exact ⟨(H.out.sub 4 h4').grow (by (repeat' (first | (with_reducible exact Frm.refl _ _) | (with_reducible assumption) | (with_reducible refine Frm.alloc ?_ _) | (with_reducible refine Frm.drew ?_) | (with_reducible refine Frm.drewN ?_ _) | (with_reducible refine Frm.set1 ?_ _) | (with_reducible refine Frm.setCell ?_ ?_ _) | (exact fun h => absurd h (Nat.lt_irrefl _)) | (intro hlt; simp [World.size_alloc, One] at hlt ⊢; omega)))), rfl, rfl⟩
  case rest =>
    obtain ⟨hB, hob, rfl⟩ := hcut
    have HOB := Lib.hid hob
    clear hob
    have HB := Lib.hid hB
    clear hB
    have hlen4 : Hid ((bs.drop 4).length ≤ 140737488351232) := by unfold Hid; rw [List.length_drop]; omega
    go_wp2_with fail
    go_loopw [0, 5, 19] (fun rv lv i wr => ∃ (k : Nat) (xs : List Itm) (rest : List UInt8), k ≤ n ∧ i = .int .u64 k ∧ xs.length = k ∧ BytesAt wr rv rest ∧ rv.ownBlock = some g ∧ rest.length ≤ 140737488351232 ∧ ItemsRow w.heap.size wr lv xs ∧ Frm (fun _ => False) w wr ∧
      decN n (bs.drop 4) = catD (xs.map bare) (decN (n - k) rest)) (fun _ _ i _ => n - (intOf i).toNat)
    case atStart => exact ⟨0, [], _, Nat.zero_le _, rfl, rfl, HB.out, HOB.out, hlen4.out, .nil _ _, by (repeat' (first | (with_reducible exact Frm.refl _ _) | (with_reducible assumption) | (with_reducible refine Frm.alloc ?_ _) | (with_reducible refine Frm.drew ?_) | (with_reducible refine Frm.drewN ?_ _) | (with_reducible refine Frm.set1 ?_ _) | (with_reducible refine Frm.setCell ?_ ?_ _) | (exact fun h => absurd h (Nat.lt_irrefl _)) | (intro hlt; simp [World.size_alloc, One] at hlt ⊢; omega))), (catD_nil _).symm⟩
    case round =>
      obtain ⟨k, xs, rest, hk, rfl, hxl, hBr, hob, hrl, hX, hF, hdec⟩ := hrel
      obtain ⟨Ar, cr, rfl, g1, g2, _⟩ := bytes_cell hBr
      obtain ⟨Al, cl, rfl, g3, g4, _⟩ := row_open hX.1
      have HBR := Lib.hid hBr
      have HOB := Lib.hid hob
      have HX := Lib.hid hX
      have HF := Lib.hid hF
      have HDEC := Lib.hid hdec
      have HXL := Lib.hid hxl
      have hsz := hF.size
      clear hBr hob hX hF hdec hxl
      by_cases hlt : k < n
      · obtain ⟨j, hj⟩ : ∃ j, n - k = j + 1 := ⟨n - k - 1, by omega⟩
        rw [hj] at HDEC
        cases hbad : itemBad rest with
        | some d =>
          obtain ⟨hd1, hd2⟩ := decN_bad (m := j) hbad
          have HFIN : Hid (([], d) = decOf bs) := by unfold Hid; rw [HD.out, HDEC.out, hd1]; rfl
          have HI := Lib.hid (item_less _ rest wr HBR.out hrl d hbad)
          have hne : (d != 0) = true := by rcases hd2 with rfl | rfl <;> rfl
          clear hd1 hd2 hbad hj
          go_wp2_with (go_at_call 56; refine HI.out.mono ?_; rintro e w4 ⟨hF4, i0, s0, v0, rfl⟩)
          go_ret2
          exact ⟨(HF.out.trans' hF4).trans' (by (repeat' (first | (with_reducible exact Frm.refl _ _) | (with_reducible assumption) | (with_reducible refine Frm.alloc ?_ _) | (with_reducible refine Frm.drew ?_) | (with_reducible refine Frm.drewN ?_ _) | (with_reducible refine Frm.set1 ?_ _) | (with_reducible refine Frm.setCell ?_ ?_ _) | (exact fun h => absurd h (Nat.lt_irrefl _)) | (intro hlt; simp [World.size_alloc, One] at hlt ⊢; omega)))), _, [], d, rfl, HFIN.out, .nil _ _⟩
        | none =>
          obtain ⟨h7, kk, hkk, hk2, hk3⟩ := item_ok hbad
          have HM := Lib.hid (decN_more (m := j) h7 hkk hk2 hk3)
          have HI := Lib.hid (item_more _ rest kk wr HBR.out h7 hrl hkk hk2 hk3)
          have HJ := Lib.hid hj
          have HK3 := Lib.hid hk3
          have hm5 : xs.length + 1 ≤ maxLen := by rw [HXL.out]; unfold maxLen; omega
          have hm6 : (xs.length + 1) * 32 ≤ 140737488355328 := by rw [HXL.out]; omega
          obtain ⟨idx, hidx⟩ : ∃ i, numOf (rest.take 2) = i := ⟨_, rfl⟩
          obtain ⟨sub, hsub⟩ : ∃ i : Int, (rest[2].toNat : Int) = i := ⟨_, rfl⟩
          rw [hidx, hsub] at HM HI
          have HXR := Lib.hid HX.out.1
          clear hkk hbad hj hidx hsub hk3
          go_wp2_with (first | (go_at_call 56; refine HI.out.mono ?_; rintro e w4 ⟨hF4, Ab, cb, Ar4, nr4, cr4, rfl, hO4, hB4, hob4⟩; have HF4 := Lib.hid hF4; have HO4 := Lib.hid hO4; have HB4 := Lib.hid hB4; have HOB4 := Lib.hid hob4; have hsz4 := hF4.size; clear hF4 hO4 hB4 hob4) | (at_builtin; refine wpl_app rfl el_Item (.tmp 30) (.tmp 32) rfl (B := w.heap.size) (e2 := 121) (fr := (0, 0)) (arr := #[.int .u16 idx, .int .u8 sub, .slice Ab kk cb]) rfl rfl (Frm.row (S := fun _ => False) (w := w4) (by (repeat' (first | (with_reducible exact Frm.refl _ _) | (with_reducible assumption) | (with_reducible refine Frm.alloc ?_ _) | (with_reducible refine Frm.drew ?_) | (with_reducible refine Frm.drewN ?_ _) | (with_reducible refine Frm.set1 ?_ _) | (with_reducible refine Frm.setCell ?_ ?_ _) | (exact fun h => absurd h (Nat.lt_irrefl _)) | (intro hlt; simp [World.size_alloc, One] at hlt ⊢; omega)))) (HF4.out.row HXR.out (fun _ _ h => h)) (fun _ _ h => h)) (heap_new_at (by simp)) rfl (by simp [Value.oneCell']) (by decide) hm5 hm6 (by simp; omega) ?_; intro g5 cap5 w5 hown5 hfr5 hat5 hlt5))
          go_roundw
          case rel =>
            have hF5 : Frm (fun j => (Value.slice Al xs.length cl).ownBlock = some j) w4 w5 := Frm.trans (b := _) (by (repeat' (first | (with_reducible exact Frm.refl _ _) | (with_reducible assumption) | (with_reducible refine Frm.alloc ?_ _) | (with_reducible refine Frm.drew ?_) | (with_reducible refine Frm.drewN ?_ _) | (with_reducible refine Frm.set1 ?_ _) | (with_reducible refine Frm.setCell ?_ ?_ _) | (exact fun h => absurd h (Nat.lt_irrefl _)) | (intro hlt; simp [World.size_alloc, One] at hlt ⊢; omega)))) hfr5 (fun _ _ h => h)
            have hno : ∀ q, q < w.heap.size → ¬ (Value.slice Al xs.length cl).ownBlock = some q := fun q hq hs => by
              have := (row_block HXR.out hs).1
              omega
            refine ⟨k + 1, xs ++ [(idx, sub, .slice Ab kk cb, (rest.drop 7).take kk)], (rest.drop 7).drop kk, by omega, by go_num, by simp [HXL.out], ?_, ?_, ?_, ?_, ?_, ?_⟩
            · exact HB4.out.frm hF5 (fun q hq hs => by
                rw [HOB4.out, HOB.out] at hq
                cases hq
                exact hno g hgs hs)
            · rw [HOB4.out, HOB.out]
            · simp only [List.length_drop]; omega
            · exact (HX.out.grow HF4.out).push (idx, sub, .slice Ab kk cb, (rest.drop 7).take kk) (row_base HO4.out hsz) hF5 rfl hown5
            · exact (HF.out.trans' HF4.out).trans hF5 (fun i hi hs => hno i hi hs)
            · have hnj := HJ.out
              rw [HDEC.out, HM.out, catD_catD, List.map_append, show n - (k + 1) = j by omega]
              rfl
          case measure => simp [intOf]; omega
      · obtain rfl : k = n := by omega
        by_cases hr0 : 0 < rest.length
        · have HFIN : Hid (([], 8) = decOf bs) := by unfold Hid; rw [HD.out, HDEC.out, Nat.sub_self, decN, catD, finD, if_pos hr0]
          go_wp2_with fail
          go_ret2
          exact ⟨HF.out, _, [], 8, rfl, HFIN.out, .nil _ _⟩
        · have HFIN : Hid ((xs.map bare, 0) = decOf bs) := by unfold Hid; rw [HD.out, HDEC.out, Nat.sub_self, decN, catD, finD, if_neg hr0, List.append_nil]
          have hr1 : rest.length ≤ 0 := by omega
          clear hr0
          go_wp2_with fail
          go_ret2
          exact ⟨HF.out, _, xs, 0, rfl, HFIN.out, HX.out⟩
end Go.Proofs.Ytmkkeglcjbogcaa
namespace Go.Proofs.Ytmkkeglcjbogcaa
open Go.RowKit
set_option linter.unusedVariables false

set_option maxRecDepth 100000 in
set_option maxHeartbeats 1000000 in
theorem same_items (u v : Value) (xs ys : List Itm) (w : World) (hx : ItemsAt w u xs) (hy : ItemsAt w v ys) (he : xs.map bare = ys.map bare) :
    Calls Try.prog 16 #[u, v] w fun e w' => e = .returned (.bool true) ∧ ∃ n, w' = w.drewN n := by
  obtain ⟨⟨A, cap, rfl, h1, h2, hA⟩, hbx⟩ := hx
  obtain ⟨⟨B, cap2, rfl, g1, g2, hB⟩, hby⟩ := hy
  have hl : ys.length = xs.length := by have := congrArg List.length he; simpa using this.symm
  have HA := Lib.hid hA
  have HB := Lib.hid hB
  have HX := Lib.hid hbx
  have HY := Lib.hid hby
  have HE := Lib.hid he
  have hm : xs.length ≤ 9223372036854775807 := Nat.le_trans h1 h2
  rw [hl]
  have HL := Lib.hid hl
  clear hA hB hbx hby he hl h1 h2 g1 g2
  go_enter Try.func16, Try.ntmps16
  go_wp2_with fail
  go_loopw [5] (fun i wr => ∃ k n : Nat, k ≤ xs.length ∧ i = .int .i64 k ∧ wr = w.drewN n) (fun i _ => xs.length - (intOf i).toNat)
  case atStart => exact ⟨0, 0, Nat.zero_le _, rfl, rfl⟩
  case round =>
    obtain ⟨k, n, hk, rfl, rfl⟩ := hrel
    by_cases hlt : k < xs.length
    · have hlt2 : k < ys.length := by rw [HL.out]; exact hlt
      obtain ⟨g, off, rfl, _, hc⟩ := HA.out (by omega)
      obtain ⟨g2, off2, rfl, _, hc2⟩ := HB.out (by omega)
      have e := congrArg (fun l => l[k]?) HE.out
      simp only [List.getElem?_map, List.getElem?_eq_getElem hlt, List.getElem?_eq_getElem hlt2, Option.map_some, Option.some.injEq, bare, Prod.mk.injEq] at e
      have hq0 := hc k hlt 0 (by decide)
      have hq1 := hc k hlt 1 (by decide)
      have hq2 := hc k hlt 2 (by decide)
      have hr0 := hc2 k hlt2 0 (by decide)
      have hr1 := hc2 k hlt2 1 (by decide)
      have hr2 := hc2 k hlt2 2 (by decide)
      have bx := HX.out _ (List.getElem_mem hlt)
      have by' := HY.out _ (List.getElem_mem hlt2)
      clear hc hc2
      generalize xs[k] = x at *
      generalize ys[k] = y at *
      obtain ⟨x0, x1, xv, xb⟩ := x
      obtain ⟨y0, y1, yv, yb⟩ := y
      obtain ⟨e0, e1, e2⟩ := e
      simp only at e0 e1 e2 bx by'
      have sx : ∃ A c, xv = Value.slice A xb.length c := by obtain ⟨A, c, h, _⟩ := bytes_cell bx; exact ⟨A, c, h⟩
      have sy : ∃ A c, yv = Value.slice A yb.length c := by obtain ⟨A, c, h, _⟩ := bytes_cell by'; exact ⟨A, c, h⟩
      obtain ⟨Ax, cax, hxv⟩ := sx
      obtain ⟨Ay, cay, hyv⟩ := sy
      subst hxv
      subst hyv
      have n0 : (x0 != y0) = false := by simpa using e0
      have n1 : (x1 != y1) = false := by simpa using e1
      subst e2
      clear e0 e1
      have q0 : w.cell? ⟨g, off + k * 3, none⟩ = some (.int .u16 x0) := hq0
      have q1 : w.cell? ⟨g, off + k * 3 + 1, none⟩ = some (.int .u8 x1) := hq1
      have q2 : w.cell? ⟨g, off + k * 3 + 2, none⟩ = some (.slice Ax xb.length cax) := hq2
      have r0 : w.cell? ⟨g2, off2 + k * 3, none⟩ = some (.int .u16 y0) := hr0
      have r1 : w.cell? ⟨g2, off2 + k * 3 + 1, none⟩ = some (.int .u8 y1) := hr1
      have r2 : w.cell? ⟨g2, off2 + k * 3 + 2, none⟩ = some (.slice Ay xb.length cay) := hr2
      clear hq0 hq1 hq2 hr0 hr1 hr2
      have cx := fun q => conv_bytes (bx.drewN q)
      have cy := fun q => conv_bytes (by'.drewN q)
      have k0 : (0 : Int) ≤ (k : Int) := Int.natCast_nonneg _
      have k1 : (k : Int) < (xs.length : Int) := by omega
      clear bx by'
      generalize strB xb = sx at *
      go_wp2_with fail
      go_quiet (fail)
      go_wp2_with fail
      go_roundw
      case rel => exact ⟨k + 1, _, by omega, by go_num, rfl⟩
      case measure => simp [intOf]; omega
    · go_wp2_with fail
      go_ret
      exact ⟨rfl, _, rfl⟩

end Go.Proofs.Ytmkkeglcjbogcaa
namespace Go.Proofs.Ytmkkeglcjbogcaa
open Go.RowKit
set_option linter.unusedVariables false

theorem enc_one : encOf [((4119 : Int), (0 : Int), [(232 : UInt8), 3])] = [1, 0, 0, 0, 23, 16, 0, 2, 0, 0, 0, 232, 3] := by decide
theorem dec_one : decOf [1, 0, 0, 0, 23, 16, 0, 2, 0, 0, 0, 232, 3] = ([((4119 : Int), (0 : Int), [(232 : UInt8), 3])], 0) := by decide

def LivesD (w : World) (e : Ending) (w' : World) : Prop := e = .returned (.bool true) ∧ Frm (fun _ => False) w w'

theorem one_item (w : World) (a b : Nat) (ha : w.heap[a]? = some (.cells #[.int .u8 232, .int .u8 3] 5 (0, 0))) (hb : w.heap[b]? = some (.cells #[.int .u16 4119, .int .u8 0, .slice (some ⟨a, 0, none⟩) 2 2] 121 (0, 0))) :
    ItemsAt w (.slice (some ⟨b, 0, none⟩) 1 1) [(4119, 0, .slice (some ⟨a, 0, none⟩) 2 2, [232, 3])] := by
  refine ⟨⟨_, 1, rfl, Nat.le_refl _, by decide, fun _ => ⟨b, 0, rfl, lt_of_block hb, fun i hi j hj => ?_⟩⟩, fun x hx => ?_⟩
  · obtain rfl : i = 0 := by simp at hi; omega
    rw [cell_at hb]
    simp [encIt]
  · simp at hx
    subst hx
    refine ⟨_, 2, rfl, Nat.le_refl _, by decide, fun _ => ⟨a, 0, rfl, fun i hi => ?_⟩⟩
    rw [cell_at ha]
    match i, hi with
    | 0, _ => rfl
    | 1, _ => rfl
    | n + 2, h => simp at h; omega

set_option maxRecDepth 100000 in
set_option maxHeartbeats 1000000 in
theorem livesD_any (w : World) : Calls Try.prog 17 #[] w (LivesD w) := by
  go_enter Try.func17, Try.ntmps17
  go_wp2_with fail
  refine (encode_any _ [(4119, 0, .slice (some ⟨w.heap.size, 0, none⟩) 2 2, [232, 3])] _ (one_item _ w.heap.size (w.heap.size + 1) (heap_alloc_old (heap_new _ _)) (heap_new_at (by simp))) (by simp) (by simp) (by simp [Rng, bare])).mono ?_
  rintro e w1 ⟨hF1, v1, rfl, hO1⟩
  have hb : encOf (List.map bare [(4119, 0, Value.slice (some ⟨w.heap.size, 0, none⟩) 2 2, [232, 3])]) = [1, 0, 0, 0, 23, 16, 0, 2, 0, 0, 0, 232, 3] := enc_one
  rw [hb] at hO1
  have hB1 : BytesAt w1 v1 [1, 0, 0, 0, 23, 16, 0, 2, 0, 0, 0, 232, 3] := BytesAt.of_row hO1
  have hF1 : Frm (fun _ => False) w w1 := Frm.trans' (by (repeat' (first | (with_reducible exact Frm.refl _ _) | (with_reducible assumption) | (with_reducible refine Frm.alloc ?_ _) | (with_reducible refine Frm.drew ?_) | (with_reducible refine Frm.drewN ?_ _) | (with_reducible refine Frm.set1 ?_ _) | (with_reducible refine Frm.setCell ?_ ?_ _) | (exact fun h => absurd h (Nat.lt_irrefl _)) | (intro hlt; simp [World.size_alloc, One] at hlt ⊢; omega)))) hF1
  have HB1 := Lib.hid hB1
  have HF1 := Lib.hid hF1
  clear hb hO1 hB1 hF1
  go_wp2_with fail
  refine (decode_any v1 _ w1 HB1.out (by decide)).mono ?_
  rintro e w2 ⟨hF2, v2, xs, code, rfl, hx, hR⟩
  rw [dec_one] at hx
  simp only [Prod.mk.injEq] at hx
  obtain ⟨hx, rfl⟩ := hx
  obtain ⟨x, rfl⟩ : ∃ x, xs = [x] := by
    refine List.length_eq_one_iff.1 ?_
    have := congrArg List.length hx
    simpa using this
  obtain ⟨A2, c2, rfl, _, ho⟩ := hR.at_.open_
  obtain ⟨g2, o2, Ab, cb, rfl, _, _, d0, _, _⟩ := ho 0 (by simp)
  simp only [List.getElem_cons_zero, List.length_singleton, Nat.zero_mul, Nat.add_zero] at d0
  have hx0 : x.1 = 4119 := by simpa [bare] using congrArg (fun l => (l.map (·.1)).headD 0) hx
  rw [hx0] at d0
  have hcv := conv_bytes (HB1.out.grow hF2)
  have HF2 := Lib.hid hF2
  clear hx hR ho hx0 hF2
  simp only [List.length_singleton]
  have hs : ((strB [1, 0, 0, 0, 23, 16, 0, 2, 0, 0, 0, 232, 3]).toList == [1, 0, 0, 0, 23, 16, 0, 2, 0, 0, 0, 232, 3]) = true := by decide +kernel
  go_wp2_with fail
  go_ret
  exact ⟨rfl, HF1.out.trans' HF2.out⟩
end Go.Proofs.Ytmkkeglcjbogcaa
