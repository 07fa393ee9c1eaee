/-
  The document's Encode: its walk.
-/
import Derived.Test.YtjjmkpjclhielaaDcfG
import Derived.Deep.RegionHeld3
import Derived.IntWalk
namespace Go.Proofs.Ytjjmkpjclhielaa
open Go.RowKit
set_option linter.unusedVariables false

theorem news_of_row {w : World} {B n e : Nat} {A : Option Addr} {cap : Nat} {bs : List UInt8} (h : w.ownsRow B e 1 (.slice A n cap) n (bs.map encB)) (h0 : 0 < n) : NewsOf w A (bs.map encB) := by
  obtain ⟨A2, c2, e2, _, _, hc⟩ := row_open h
  simp only [Value.slice.injEq] at e2
  obtain ⟨rfl, _, rfl⟩ := e2
  obtain ⟨g, rfl, _, _, _, hc⟩ := hc h0
  have hl := h.1
  refine ⟨g, 0, rfl, fun j u hj => ?_⟩
  have hj' : j < n * 1 := by rw [← hl]; exact (List.getElem?_eq_some_iff.1 hj).1
  rw [Nat.zero_add, hc j hj']; exact hj
def NumPost (bs : List UInt8) (size : Nat) (w : World) (e : Ending) (w' : World) : Prop := Frm (fun _ => False) w w' ∧ ∃ g cap, e = .returned (.slice (some ⟨g, 0, none⟩) size cap) ∧ w'.ownsRow w.heap.size 5 1 (.slice (some ⟨g, 0, none⟩) size cap) size (bs.map encB)

set_option maxRecDepth 100000 in
set_option maxHeartbeats 1000000 in
theorem number_any (n : Int) (size : Nat) (w : World) (h0 : 0 ≤ n) (h1 : n ≤ 140737488351232) (hs : size ≤ 4) :
    Calls Try.prog 55 #[.int .i64 n, .int .i64 size] w (NumPost (leOf n size) size w) := by
  go_enter Try.func55, Try.ntmps55
  go_wp2_with fail
  go_loopw [0, 5, 6] (fun nv bv i wr => ∃ (k j : Nat) (m : Int) (pre : List UInt8), k + j = size ∧ i = .int .i64 k ∧ nv = .int .i64 m ∧ 0 ≤ m ∧ m ≤ n ∧ pre.length = k ∧ leOf n size = pre ++ leOf m j ∧
    (∃ g cap, bv = .slice (some ⟨g, 0, none⟩) k cap ∧ Own8 w.heap.size wr bv pre) ∧ Frm (fun _ => False) w wr) (fun _ _ i _ => size - (intOf i).toNat)
  case atStart => exact ⟨0, size, n, [], by omega, rfl, rfl, h0, Int.le_refl _, rfl, rfl, ⟨_, _, rfl, row_new rfl rfl rfl (by decide) (Nat.le_refl _)⟩, by (repeat' (first | (with_reducible exact Frm.refl _ _) | (with_reducible assumption) | (with_reducible refine Frm.alloc ?_ _) | (with_reducible refine Frm.drew ?_) | (with_reducible refine Frm.drewN ?_ _) | (with_reducible refine Frm.set1 ?_ _) | (with_reducible refine Frm.setCell ?_ ?_ _) | (exact fun h => absurd h (Nat.lt_irrefl _)) | (intro hlt; simp [World.size_alloc, One] at hlt ⊢; omega)))⟩
  case round =>
    obtain ⟨k, j, m, pre, hkj, rfl, rfl, hm0, hm1, hpl, hle, ⟨gb, capb, rfl, hO⟩, hF⟩ := hrel
    have HLE := Lib.hid hle
    have HPL := Lib.hid hpl
    have HKJ := Lib.hid hkj
    unfold Own8 at hO
    rw [hpl] at hO
    have HO := Lib.hid hO
    have HF := Lib.hid hF
    have hsz := hF.size
    clear hle hpl hO hF
    by_cases hlt : k < size
    · obtain ⟨j, rfl⟩ : ∃ i, j = i + 1 := ⟨j - 1, by omega⟩
      have hm3 : k + 1 ≤ maxLen := by unfold maxLen; omega
      have hm4 : (k + 1) * 1 ≤ 140737488355328 := by omega
      clear hkj
      go_wp2_with (at_builtin; go_loud (refine wpl_app rfl el_u8 (.tmp 13) (.tmp 17) rfl (B := w.heap.size) (e2 := 5) (fr := (0, 0)) (arr := #[.int .u8 (m % 256)]) rfl rfl (Frm.row (S := fun _ => False) (w := wr) (by (repeat' (first | (with_reducible exact Frm.refl _ _) | (with_reducible assumption) | (with_reducible refine Frm.alloc ?_ _) | (with_reducible refine Frm.drew ?_) | (with_reducible refine Frm.drewN ?_ _) | (with_reducible refine Frm.set1 ?_ _) | (with_reducible refine Frm.setCell ?_ ?_ _) | (exact fun h => absurd h (Nat.lt_irrefl _)) | (intro hlt; simp [World.size_alloc, One] at hlt ⊢; omega)))) HO.out (fun _ _ h => h)) (heap_new_at (by simp)) rfl (by simp [Value.oneCell']) (by decide) hm3 hm4 (by simp; omega) ?_; intro g5 cap5 w5 hown5 hfr5 hat5 hlt5))
      go_roundw
      case rel =>
        have hkj := HKJ.out
        refine ⟨k + 1, j, m / 256, pre ++ [UInt8.ofNat (m % 256).toNat], by omega, by go_num, rfl, by omega, by omega, by simp [HPL.out], ?_, ⟨g5, cap5, by first | rfl | simp, ?_⟩, ?_⟩
        · rw [HLE.out, leOf_succ]; simp
        · unfold Own8
          rw [List.length_append, List.map_append, HPL.out]
          simp only [List.map_cons, List.map_nil, encB_mod, List.length_singleton]
          exact hown5
        · exact (HF.out.trans' (Frm.alloc (Frm.refl _ _) _)).trans hfr5 (fun i hi hs => absurd (row_block HO.out hs).1 (by omega))
      case measure => simp [intOf]; omega
    · obtain rfl : j = 0 := by omega
      obtain rfl : k = size := by omega
      go_wp2_with fail
      go_ret
      have hp : leOf n k = pre := by rw [HLE.out]; simp [leOf]
      refine ⟨HF.out, gb, capb, rfl, ?_⟩
      rw [hp]
      exact HO.out

set_option maxRecDepth 100000 in
set_option maxHeartbeats 2000000 in
theorem rencode_long1 (v : Value) (xs : List Itm) (w : World) (h : ItemsAt w v xs) (hb : 1024 < xs.length) : Calls Try.prog 42 #[v] w (EncBad w) := by
  obtain ⟨A, cap, rfl, _⟩ := h.open_
  clear h
  go_enter Try.func42, Try.ntmps42
  go_wp2_with fail
  go_ret2
  exact ⟨Frm.refl _ _, rfl⟩

/-- What the document's Encode answers. -/
def REncPost (xs : List Itm) (w : World) (e : Ending) (w' : World) : Prop := ((∃ x ∈ xs, 65536 < x.2.2.2.length) → EncBad w e w') ∧ ((∀ x ∈ xs, x.2.2.2.length ≤ 65536) → EncOk (encOf (xs.map bare)) w e w')

set_option maxRecDepth 100000 in
set_option maxHeartbeats 4000000 in
theorem rencode_any (v : Value) (xs : List Itm) (w : World) (h : ItemsAt w v xs) (hn : xs.length ≤ 1024) (hr : ∀ x ∈ xs, Rng (bare x)) :
    Calls Try.prog 42 #[v] w (REncPost xs w) := by
  have HI := Lib.hid h
  obtain ⟨A, cap, rfl, _, ho⟩ := h.open_
  have HO := Lib.hid ho
  have HR := Lib.hid hr
  have HL := Lib.hid (fun W => number_any (xs.length : Int) 4 W (by omega) (by omega) (by omega))
  clear h ho hr
  go_enter Try.func42, Try.ntmps42
  go_wp2_with (go_at_call 55; refine (HL.out _).mono ?_; rintro e w2 ⟨hF2, g2, cap2, rfl, hO2⟩)
  go_loopw [4, 5] (fun bv i wr => ∃ (k : Nat) (g cap : Nat), k ≤ xs.length ∧ i = .int .i64 k ∧ bv = .slice (some ⟨g, 0, none⟩) (EncRow xs k).length cap ∧ Own8 w.heap.size wr bv (EncRow xs k) ∧ Frm (fun _ => False) w wr ∧ ∀ x ∈ xs.take k, x.2.2.2.length ≤ 65536) (fun _ i _ => xs.length - (intOf i).toNat)
  case atStart =>
    have hl : EncRow xs 0 = leOf xs.length 4 := by simp [EncRow]
    refine ⟨0, g2, cap2, Nat.zero_le _, rfl, by rw [hl, leOf_length], ?_, hF2, by simp⟩
    rw [hl]
    unfold Own8
    rw [leOf_length]
    exact hO2
  case round =>
    clear hF2 hO2
    obtain ⟨k, gr, capr, hk, rfl, rfl, hO, hF, hall⟩ := hrel
    by_cases hlt : k < xs.length
    · obtain ⟨g, off, Ab, cb, rfl, hxv, hml, c0, c1, c2⟩ := HO.out k hlt
      have d0 := hF.cell c0 (fun h => h)
      have d1 := hF.cell c1 (fun h => h)
      have d2 := hF.cell c2 (fun h => h)
      have C0 := Lib.hid c0
      have C1 := Lib.hid c1
      have C2 := Lib.hid c2
      have hgl : g < w.heap.size := World.block_lt_of_cell? w _ c0
      have hrk := HR.out _ (List.getElem_mem hlt)
      have hBA := HI.out.2 _ (List.getElem_mem hlt)
      rw [hxv] at hBA
      have hek : EncRow xs (k + 1) = EncRow xs k ++ encIt8 (bare xs[k]) := by
        unfold EncRow
        rw [List.take_succ_eq_append_getElem hlt, List.map_append, List.flatMap_append]
        simp
      have htk := List.take_succ_eq_append_getElem hlt
      have hel : (EncRow xs k).length ≤ 67117060 := by
        unfold EncRow
        rw [List.length_append, leOf_length]
        have := enc8s_length ((xs.take k).map bare) (fun y hy => by
          obtain ⟨z, hz, rfl⟩ := List.mem_map.1 hy
          exact hall z hz)
        rw [List.length_map, List.length_take] at this
        omega
      have hmem : xs[k] ∈ xs := List.getElem_mem hlt
      have HMEM := Lib.hid hmem
      have HEK := Lib.hid hek
      have HTK := Lib.hid htk
      have HALL := Lib.hid hall
      clear c0 c1 c2 hxv hek hmem htk hall
      generalize xs[k] = x at *
      obtain ⟨x0, x1, xv, xb⟩ := x
      simp only at d0 d1 d2 hml hBA C0 C1 C2
      obtain ⟨A9, c9, e9, _, _, hnews⟩ := hBA.open_
      simp only [Value.slice.injEq] at e9
      obtain ⟨rfl, _, rfl⟩ := e9
      have HNEWS := Lib.hid hnews
      have hrk' := hrk
      obtain ⟨r0, r1, r2, r3⟩ := hrk'
      simp only [bare] at r0 r1 r2 r3
      have HRK := Lib.hid hrk
      have HROW := Lib.hid hO
      have HF := Lib.hid hF
      have hsz := hF.size
      obtain ⟨m, hm⟩ : ∃ m, (EncRow xs k).length = m := ⟨_, rfl⟩
      unfold Own8 at HROW
      rw [hm] at HROW hel
      simp only [hm]
      have HM := Lib.hid hm
      unfold maxLen at hml
      clear hF hO hBA hnews hm hrk
      by_cases hbig : 65536 < xb.length
      · have HX : Hid (∃ x ∈ xs, 65536 < x.2.2.2.length) := ⟨_, HMEM.out, hbig⟩
        go_wp2_with fail
        go_ret2
        exact ⟨fun _ => ⟨HF.out, rfl⟩, fun h => by obtain ⟨y, hy, hy2⟩ := HX.out; have := h y hy; omega⟩
      · have hbk : xb.length ≤ 65536 := by omega
        have HL4 := Lib.hid (fun W => number_any (xb.length : Int) 4 W (by omega) (by omega) (by omega))
        have HL2 : Hid (∀ W, Calls Try.prog 55 #[.int .i64 (IntKind.i64.wrap x0), .int .i64 2] W (NumPost (leOf x0 2) 2 W)) := fun W => by
          rw [IntWalk.i64_in x0 (by omega)]
          exact number_any x0 2 W (by omega) (by omega) (by omega)
        have hm1 : m + 2 ≤ maxLen := by unfold maxLen; omega
        have hm2 : (m + 2) * 1 ≤ 140737488355328 := by omega
        have hm3 : m + 2 + 1 ≤ maxLen := by unfold maxLen; omega
        have hm4 : (m + 2 + 1) * 1 ≤ 140737488355328 := by omega
        have hm5 : m + 3 + 4 ≤ maxLen := by unfold maxLen; omega
        have hm6 : (m + 3 + 4) * 1 ≤ 140737488355328 := by omega
        have hm7 : m + 3 + 4 + xb.length ≤ maxLen := by unfold maxLen; omega
        have hm8 : (m + 3 + 4 + xb.length) * 1 ≤ 140737488355328 := by omega
        have HLEN : Hid ((xb.map encB).length = xb.length * 1) := by unfold Hid; simp
        have HONEB := Lib.hid (oneB xb)
        clear hbig
        go_upto_region 9 with fail
        go_cut [4] (fun bv wx => ∃ g3 cap3, bv = .slice (some ⟨g3, 0, none⟩) (m + 3) cap3 ∧ wx.ownsRow w.heap.size 5 1 bv (m + 3) (((EncRow xs k).map encB ++ (leOf x0 2).map encB) ++ [.int .u8 x1]) ∧ Frm (fun _ => False) w wx)
        case first =>
          have hgr : gr < wr.heap.size := by obtain ⟨_, cur, hc⟩ := row_block HROW.out rfl; exact lt_of_block hc
          have hgw : w.heap.size ≤ gr := (row_block HROW.out rfl).1
          have HEL2 : Hid (((leOf x0 2).map encB).length = 2 * 1) := by unfold Hid; simp [leOf_length]
          have HON2 := Lib.hid (oneB (leOf x0 2))
          go_region_held3 (fun w' => w'.cell? ⟨g, off + k * 3, none⟩ = some (.int .u16 x0) ∧ w'.cell? ⟨g, off + k * 3 + 1, none⟩ = some (.int .u8 x1))
            (first | (refine ⟨?_, ?_⟩ <;> (repeat (first | (with_reducible assumption) | (with_reducible apply cell_alloc_old) | (with_reducible apply cell_drew')))))
            (first
              | (refine step_call 55 (by rfl) (by rfl) Try.func55 (by rfl) (by rfl) (by rfl) ((HL2.out _).mono ?_); rintro e w3 ⟨hF3, g4, cap4, rfl, hO4⟩; have hF3' : Frm (fun _ => False) wr w3 := (Frm.trans' (by (repeat' (first | (with_reducible exact Frm.refl _ _) | (with_reducible assumption) | (with_reducible refine Frm.alloc ?_ _) | (with_reducible refine Frm.drew ?_) | (with_reducible refine Frm.drewN ?_ _) | (with_reducible refine Frm.set1 ?_ _) | (with_reducible refine Frm.setCell ?_ ?_ _) | (exact fun h => absurd h (Nat.lt_irrefl _)) | (intro hlt; simp [World.size_alloc, One] at hlt ⊢; omega)))) hF3); have hz3 := hF3'.size; have hz3' := hF3.size; (try simp at hz3'); (try (have hb3 := hF3.heap (heap_new _ _) (fun h => h))); have e0 := hF3'.cell d0 (fun h => h); have e1 := hF3'.cell d1 (fun h => h); have HO4 := Lib.hid hO4; clear hO4 hF3; refine CallK.ret ?_)
              | (refine step_app_src (by rfl) el_u8 (.tmp 25) (.tmp 32) (by rfl) (by rfl) (by rfl) (B := w.heap.size) (news := (leOf x0 2).map encB) (Frm.row (S := fun _ => False) (w := wr) (by (repeat' (first | (with_reducible exact Frm.refl _ _) | (with_reducible assumption) | (with_reducible refine Frm.alloc ?_ _) | (with_reducible refine Frm.drew ?_) | (with_reducible refine Frm.drewN ?_ _) | (with_reducible refine Frm.set1 ?_ _) | (with_reducible refine Frm.setCell ?_ ?_ _) | (exact fun h => absurd h (Nat.lt_irrefl _)) | (intro hlt; simp [World.size_alloc, One] at hlt ⊢; omega)))) HROW.out (fun _ _ h => h)) HEL2.out (fun h0 => (news_of_row HO4.out h0).grow (by (repeat' (first | (with_reducible exact Frm.refl _ _) | (with_reducible assumption) | (with_reducible refine Frm.alloc ?_ _) | (with_reducible refine Frm.drew ?_) | (with_reducible refine Frm.drewN ?_ _) | (with_reducible refine Frm.set1 ?_ _) | (with_reducible refine Frm.setCell ?_ ?_ _) | (exact fun h => absurd h (Nat.lt_irrefl _)) | (intro hlt; simp [World.size_alloc, One] at hlt ⊢; omega))))) HON2.out hm1 hm2 (by first | omega | (simp; omega)) ?_; intro A5 cap5 w5 hown5 hfr5; have hz5 := hfr5.size; (try simp at hz5); have hF5 : Frm (fun _ => False) w w5 := ((HF.out.trans' (by (repeat' (first | (with_reducible exact Frm.refl _ _) | (with_reducible assumption) | (with_reducible refine Frm.alloc ?_ _) | (with_reducible refine Frm.drew ?_) | (with_reducible refine Frm.drewN ?_ _) | (with_reducible refine Frm.set1 ?_ _) | (with_reducible refine Frm.setCell ?_ ?_ _) | (exact fun h => absurd h (Nat.lt_irrefl _)) | (intro hlt; simp [World.size_alloc, One] at hlt ⊢; omega))))).trans hfr5 (fun i hi hs => absurd (Option.some.inj hs) (by simp only; omega))); (try (have hb5 := hfr5.heap hb3 (fun hs => absurd (Option.some.inj hs) (by simp only; omega)))); (try (have hb5 := hfr5.heap (heap_new _ _) (fun hs => absurd (Option.some.inj hs) (by simp only; omega)))); have f0 := hfr5.cell (by first | exact e0 | exact cell_alloc_old e0) (fun hs => absurd (Option.some.inj hs) (by simp only; omega)); have f1 := hfr5.cell (by first | exact e1 | exact cell_alloc_old e1) (fun hs => absurd (Option.some.inj hs) (by simp only; omega)); have HO5 := Lib.hid hown5; clear hown5)
              | (refine step_app (by rfl) el_u8 (.tmp 33) (.tmp 39) (by rfl) (by rfl) (by rfl) (B := w.heap.size) (arr := #[.int .u8 x1]) (e2 := 5) (fr := (0, 0)) (Frm.row (S := fun _ => False) (w := w5) (by (repeat' (first | (with_reducible exact Frm.refl _ _) | (with_reducible assumption) | (with_reducible refine Frm.alloc ?_ _) | (with_reducible refine Frm.drew ?_) | (with_reducible refine Frm.drewN ?_ _) | (with_reducible refine Frm.set1 ?_ _) | (with_reducible refine Frm.setCell ?_ ?_ _) | (exact fun h => absurd h (Nat.lt_irrefl _)) | (intro hlt; simp [World.size_alloc, One] at hlt ⊢; omega)))) HO5.out (fun _ _ h => h)) (by first | exact hb5 | exact heap_new _ _) (by rfl) (by simp [Value.oneCell']) (by decide) hm3 hm4 (by first | omega | (simp; omega)) ?_; intro g7 cap7 w7 hown7 hfr7 hat7 hlt7; have hno7 : ∀ q, q < w.heap.size → ¬ (Value.slice A5 (m + 2) cap5).ownBlock = some q := (fun q hq hs => absurd (row_block HO5.out hs).1 (by omega)); have hF7 : Frm (fun _ => False) w w7 := ((hF5.trans' (by (repeat' (first | (with_reducible exact Frm.refl _ _) | (with_reducible assumption) | (with_reducible refine Frm.alloc ?_ _) | (with_reducible refine Frm.drew ?_) | (with_reducible refine Frm.drewN ?_ _) | (with_reducible refine Frm.set1 ?_ _) | (with_reducible refine Frm.setCell ?_ ?_ _) | (exact fun h => absurd h (Nat.lt_irrefl _)) | (intro hlt; simp [World.size_alloc, One] at hlt ⊢; omega))))).trans hfr7 (fun i hi hs => hno7 i hi hs)); have k0 := hF7.cell C0.out (fun h => h); have k1 := hF7.cell C1.out (fun h => h)))
          all_goals
            go_wp2_with fail
            go_meet
            exact ⟨g7, cap7, rfl, hown7, hF7⟩
        case rest =>
          obtain ⟨g3, cap3, rfl, hO3, hF3⟩ := hcut
          have c2 := hF3.cell C2.out (fun h => h)
          have hgr : g3 < wc.heap.size := by obtain ⟨_, cur, hc⟩ := row_block hO3 rfl; exact lt_of_block hc
          have hgw : w.heap.size ≤ g3 := (row_block hO3 rfl).1
          have hsz3 := hF3.size
          have HO3 := Lib.hid hO3
          have HF3 := Lib.hid hF3
          have HEL4 : Hid (((leOf xb.length 4).map encB).length = 4 * 1) := by unfold Hid; simp [leOf_length]
          have HON4 := Lib.hid (oneB (leOf xb.length 4))
          clear hO3 hF3
          go_wp2_with fail
          go_region_held3 (fun w' => w'.cell? ⟨g, off + k * 3 + 2, none⟩ = some (.slice Ab xb.length cb))
            (first | (repeat (first | (with_reducible assumption) | (with_reducible apply cell_alloc_old) | (with_reducible apply cell_drew'))))
            (first
              | (refine step_call 55 (by rfl) (by rfl) Try.func55 (by rfl) (by rfl) (by rfl) ((HL4.out _).mono ?_); rintro e w3 ⟨hF4, g4, cap4, rfl, hO4⟩; have hF4' : Frm (fun _ => False) wc w3 := (Frm.trans' (by (repeat' (first | (with_reducible exact Frm.refl _ _) | (with_reducible assumption) | (with_reducible refine Frm.alloc ?_ _) | (with_reducible refine Frm.drew ?_) | (with_reducible refine Frm.drewN ?_ _) | (with_reducible refine Frm.set1 ?_ _) | (with_reducible refine Frm.setCell ?_ ?_ _) | (exact fun h => absurd h (Nat.lt_irrefl _)) | (intro hlt; simp [World.size_alloc, One] at hlt ⊢; omega)))) hF4); have hz4 := hF4'.size; have hz4' := hF4.size; (try simp at hz4'); have e0 := hF4'.cell c2 (fun h => h); have HO4 := Lib.hid hO4; clear hO4 hF4; refine CallK.ret ?_)
              | (refine step_app_src (by rfl) el_u8 (.tmp 41) (.tmp 48) (by rfl) (by rfl) (by rfl) (B := w.heap.size) (news := (leOf xb.length 4).map encB) (Frm.row (S := fun _ => False) (w := wc) (by (repeat' (first | (with_reducible exact Frm.refl _ _) | (with_reducible assumption) | (with_reducible refine Frm.alloc ?_ _) | (with_reducible refine Frm.drew ?_) | (with_reducible refine Frm.drewN ?_ _) | (with_reducible refine Frm.set1 ?_ _) | (with_reducible refine Frm.setCell ?_ ?_ _) | (exact fun h => absurd h (Nat.lt_irrefl _)) | (intro hlt; simp [World.size_alloc, One] at hlt ⊢; omega)))) HO3.out (fun _ _ h => h)) HEL4.out (fun h0 => (news_of_row HO4.out h0).grow (by (repeat' (first | (with_reducible exact Frm.refl _ _) | (with_reducible assumption) | (with_reducible refine Frm.alloc ?_ _) | (with_reducible refine Frm.drew ?_) | (with_reducible refine Frm.drewN ?_ _) | (with_reducible refine Frm.set1 ?_ _) | (with_reducible refine Frm.setCell ?_ ?_ _) | (exact fun h => absurd h (Nat.lt_irrefl _)) | (intro hlt; simp [World.size_alloc, One] at hlt ⊢; omega))))) HON4.out hm5 hm6 (by omega) ?_; intro A5 cap5 w5 hown5 hfr5; have hz5 := hfr5.size; have hF5 : Frm (fun _ => False) w w5 := ((HF3.out.trans' (by (repeat' (first | (with_reducible exact Frm.refl _ _) | (with_reducible assumption) | (with_reducible refine Frm.alloc ?_ _) | (with_reducible refine Frm.drew ?_) | (with_reducible refine Frm.drewN ?_ _) | (with_reducible refine Frm.set1 ?_ _) | (with_reducible refine Frm.setCell ?_ ?_ _) | (exact fun h => absurd h (Nat.lt_irrefl _)) | (intro hlt; simp [World.size_alloc, One] at hlt ⊢; omega))))).trans hfr5 (fun i hi hs => absurd (Option.some.inj hs) (by simp only; omega))); have f0 := hF5.cell C2.out (fun h => h); have HO5 := Lib.hid hown5; clear hown5 hfr5)
              | (refine step_app_src (by rfl) el_u8 (.tmp 49) (.tmp 54) (by rfl) (by rfl) (by rfl) (B := w.heap.size) (news := xb.map encB) HO5.out HLEN.out (fun h0 => (HNEWS.out h0).grow hF5) HONEB.out hm7 hm8 (by omega) ?_; intro A7 cap7 w7 hown7 hfr7; have hno7 : ∀ q, q < w.heap.size → ¬ (Value.slice A5 (m + 3 + 4) cap5).ownBlock = some q := (fun q hq hs => absurd (row_block HO5.out hs).1 (by omega)); have hF7 : Frm (fun _ => False) w w7 := (hF5.trans hfr7 (fun i hi hs => hno7 i hi hs)); have k0 := hF7.cell C2.out (fun h => h)))
          all_goals
            go_wp2_with fail
            go_roundw
            case rel =>
              obtain ⟨g9, rfl⟩ : ∃ g9, A7 = some ⟨g9, 0, none⟩ := by
                obtain ⟨A8, c8, e8, _, _, hc8⟩ := row_open hown7
                simp only [Value.slice.injEq] at e8
                obtain ⟨rfl, _, rfl⟩ := e8
                obtain ⟨g9, rfl, _⟩ := hc8 (by omega)
                exact ⟨g9, rfl⟩
              have hlen : (EncRow xs (k + 1)).length = m + 3 + 4 + xb.length := by
                rw [HEK.out, List.length_append, HM.out, enc8_length]; simp only [bare]; omega
              have hcells : (EncRow xs (k + 1)).map encB = (((EncRow xs k).map encB ++ (leOf x0 2).map encB) ++ [.int .u8 x1]) ++ (leOf xb.length 4).map encB ++ xb.map encB := by
                rw [HEK.out, List.map_append]
                have h8 : (encIt8 (bare (x0, x1, Value.slice Ab xb.length cb, xb))).map encB = (leOf x0 2).map encB ++ [.int .u8 x1] ++ (leOf xb.length 4).map encB ++ xb.map encB := by
                  simp only [encIt8, bare, List.map_append, List.map_cons, List.map_nil, encB_of x1 r2 r3]
                have h9 : (encIt8 (bare (x0, x1, xv, xb))).map encB = (leOf x0 2).map encB ++ [.int .u8 x1] ++ (leOf xb.length 4).map encB ++ xb.map encB := h8
                rw [h9]
                simp only [List.append_assoc]
              refine ⟨k + 1, g9, cap7, by omega, by go_num, ?_, ?_, hF7, fun y hy => ?_⟩
              · rw [hlen]
              · unfold Own8
                rw [hlen, hcells]
                exact hown7
              · rw [HTK.out] at hy
                rcases List.mem_append.1 hy with hy | hy
                · exact HALL.out y hy
                · simp at hy
                  subst hy
                  exact hbk
            case measure => simp [intOf]; omega
    · have HALL := Lib.hid hall
      have HF := Lib.hid hF
      have HO' := Lib.hid hO
      clear hall hF hO
      go_wp2_with fail
      go_ret2
      obtain rfl : k = xs.length := by omega
      have ha := HALL.out
      rw [List.take_of_length_le (Nat.le_refl _)] at ha
      refine ⟨fun h => ?_, fun _ => ⟨HF.out, _, rfl, ?_⟩⟩
      · obtain ⟨y, hy, hy2⟩ := h
        have := ha y hy
        omega
      · have : EncRow xs xs.length = encOf (xs.map bare) := by simp [EncRow, encOf]
        rw [← this]
        exact HO'.out
end Go.Proofs.Ytjjmkpjclhielaa
