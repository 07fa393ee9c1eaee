/-
  Whether a plan can be; items' slices cloned.
-/
import Derived.Test.YtjjmkpjclhielaaBootS
import Derived.Test.YtjjmkpjclhielaaDcfG
namespace Go.Proofs.Ytjjmkpjclhielaa
open Go.RowKit
set_option linter.unusedVariables false

theorem cfgOf_eq {p : Pl} {ys : List Itm} (hy : ys.map bare = p.its) (h1 : 1 ≤ p.node) (h2 : p.node ≤ 127) : (1024 < ys.length ∨ ∃ x ∈ ys, 65536 < x.2.2.2.length) ∧ cfgOf p = 2 ∨ (ys.length ≤ 1024 ∧ ∀ x ∈ ys, x.2.2.2.length ≤ 65536) ∧ cfgOf p = 0 := by
  have hl : p.its.length = ys.length := by rw [← hy]; simp
  have hm : (∃ x ∈ p.its, 65536 < x.2.2.length) ↔ ∃ x ∈ ys, 65536 < x.2.2.2.length := by
    rw [← hy]
    constructor
    · rintro ⟨x, hx, h⟩
      obtain ⟨z, hz, rfl⟩ := List.mem_map.1 hx
      exact ⟨z, hz, h⟩
    · rintro ⟨x, hx, h⟩
      exact ⟨bare x, List.mem_map_of_mem hx, h⟩
  unfold cfgOf
  rw [if_neg (by omega), hl]
  by_cases hc : 1024 < ys.length ∨ ∃ x ∈ ys, 65536 < x.2.2.2.length
  · left
    refine ⟨hc, ?_⟩
    rw [if_pos (hc.imp id hm.2)]
  · right
    refine ⟨⟨by omega, fun x hx => ?_⟩, ?_⟩
    · rcases Nat.lt_or_ge 65536 x.2.2.2.length with h | h
      · exact absurd (.inr ⟨x, hx, h⟩) hc
      · exact h
    · rw [if_neg (fun h => hc (h.imp id hm.1))]

def CfgP (p : Pl) (w : World) (e : Ending) (w' : World) : Prop := e = .returned (.int .i64 (cfgOf p)) ∧ Frm (fun _ => False) w w'

set_option maxRecDepth 100000 in
set_option maxHeartbeats 1000000 in
theorem cfgcheck_any (p : Pl) (v : Value) (ys : List Itm) (w : World) (h : ItemsAt w v ys) (hy : ys.map bare = p.its) (hr : ∀ it ∈ p.its, Rng it) : Calls Try.prog 37 #[valP p v] w (CfgP p w) := by
  obtain ⟨A, cap, rfl, _, _⟩ := h.open_
  by_cases h1 : p.node < 1
  · have E : Hid (cfgOf p = 1) := by unfold Hid cfgOf; rw [if_pos (by omega)]
    clear h hy hr
    unfold valP CfgP
    generalize p.node = pn at *
    go_enter Try.func37, Try.ntmps37
    go_wp2_with fail
    go_ret
    exact ⟨by rw [E.out]; rfl, by (repeat' (first | (with_reducible exact Frm.refl _ _) | (with_reducible assumption) | (with_reducible refine Frm.alloc ?_ _) | (with_reducible refine Frm.drew ?_) | (with_reducible refine Frm.drewN ?_ _) | (with_reducible refine Frm.set1 ?_ _) | (with_reducible refine Frm.setCell ?_ ?_ _) | (exact fun h => absurd h (Nat.lt_irrefl _)) | (intro hlt; simp [World.size_alloc, One] at hlt ⊢; omega)))⟩
  · by_cases h2 : 127 < p.node
    · have E : Hid (cfgOf p = 1) := by unfold Hid cfgOf; rw [if_pos (by omega)]
      have h1' : 1 ≤ p.node := by omega
      clear h hy hr h1
      unfold valP CfgP
      generalize p.node = pn at *
      go_enter Try.func37, Try.ntmps37
      go_wp2_with fail
      go_ret
      exact ⟨by rw [E.out]; rfl, by (repeat' (first | (with_reducible exact Frm.refl _ _) | (with_reducible assumption) | (with_reducible refine Frm.alloc ?_ _) | (with_reducible refine Frm.drew ?_) | (with_reducible refine Frm.drewN ?_ _) | (with_reducible refine Frm.set1 ?_ _) | (with_reducible refine Frm.setCell ?_ ?_ _) | (exact fun h => absurd h (Nat.lt_irrefl _)) | (intro hlt; simp [World.size_alloc, One] at hlt ⊢; omega)))⟩
    · have h1' : 1 ≤ p.node := by omega
      have h2' : p.node ≤ 127 := by omega
      have hrg : ∀ x ∈ ys, Rng (bare x) := fun x hx => hr _ (by rw [← hy]; exact List.mem_map_of_mem hx)
      rcases cfgOf_eq hy h1' h2' with ⟨hb, he⟩ | ⟨⟨hb1, hb2⟩, he⟩
      · have HE := Lib.hid (fun W hF => encode_long (.slice A ys.length cap) ys W (h.frm (w' := W) hF) hb)
        have E := Lib.hid he
        clear h hy hr h1 h2 hrg hb he
        unfold valP CfgP
        generalize p.node = pn at *
        go_enter Try.func37, Try.ntmps37
        go_wp2_with fail
        refine (HE.out _ (by (repeat' (first | (with_reducible exact Frm.refl _ _) | (with_reducible assumption) | (with_reducible refine Frm.alloc ?_ _) | (with_reducible refine Frm.drew ?_) | (with_reducible refine Frm.drewN ?_ _) | (with_reducible refine Frm.set1 ?_ _) | (with_reducible refine Frm.setCell ?_ ?_ _) | (exact fun h => absurd h (Nat.lt_irrefl _)) | (intro hlt; simp [World.size_alloc, One] at hlt ⊢; omega))))).mono ?_
        rintro e w3 ⟨hF3, rfl⟩
        have HF3 : Hid (Frm (fun _ => False) w w3) := Frm.trans' (by (repeat' (first | (with_reducible exact Frm.refl _ _) | (with_reducible assumption) | (with_reducible refine Frm.alloc ?_ _) | (with_reducible refine Frm.drew ?_) | (with_reducible refine Frm.drewN ?_ _) | (with_reducible refine Frm.set1 ?_ _) | (with_reducible refine Frm.setCell ?_ ?_ _) | (exact fun h => absurd h (Nat.lt_irrefl _)) | (intro hlt; simp [World.size_alloc, One] at hlt ⊢; omega)))) hF3
        clear hF3
        go_wp2_with fail
        go_ret
        exact ⟨by rw [E.out]; rfl, HF3.out⟩
      · have HE := Lib.hid (fun W hF => encode_any (.slice A ys.length cap) ys W (h.frm (w' := W) hF) hb1 hb2 hrg)
        have E := Lib.hid he
        clear h hy hr h1 h2 hrg hb1 hb2 he
        unfold valP CfgP
        generalize p.node = pn at *
        go_enter Try.func37, Try.ntmps37
        go_wp2_with fail
        refine (HE.out _ (by (repeat' (first | (with_reducible exact Frm.refl _ _) | (with_reducible assumption) | (with_reducible refine Frm.alloc ?_ _) | (with_reducible refine Frm.drew ?_) | (with_reducible refine Frm.drewN ?_ _) | (with_reducible refine Frm.set1 ?_ _) | (with_reducible refine Frm.setCell ?_ ?_ _) | (exact fun h => absurd h (Nat.lt_irrefl _)) | (intro hlt; simp [World.size_alloc, One] at hlt ⊢; omega))))).mono ?_
        rintro e w3 ⟨hF3, v3, rfl, _⟩
        have HF3 : Hid (Frm (fun _ => False) w w3) := Frm.trans' (by (repeat' (first | (with_reducible exact Frm.refl _ _) | (with_reducible assumption) | (with_reducible refine Frm.alloc ?_ _) | (with_reducible refine Frm.drew ?_) | (with_reducible refine Frm.drewN ?_ _) | (with_reducible refine Frm.set1 ?_ _) | (with_reducible refine Frm.setCell ?_ ?_ _) | (exact fun h => absurd h (Nat.lt_irrefl _)) | (intro hlt; simp [World.size_alloc, One] at hlt ⊢; omega)))) hF3
        clear hF3
        go_wp2_with fail
        go_ret
        exact ⟨by rw [E.out]; rfl, HF3.out⟩

set_option maxRecDepth 100000 in
set_option maxHeartbeats 1000000 in
theorem cfg_any (p : Pl) (v : Value) (ys : List Itm) (w : World) (h : ItemsAt w v ys) (hy : ys.map bare = p.its) (hr : ∀ it ∈ p.its, Rng it) : Calls Try.prog 25 #[valP p v] w (CfgP p w) := by
  have H := Lib.hid (fun W hF => cfgcheck_any p v ys W (h.frm (w' := W) hF) hy hr)
  obtain ⟨A, cap, rfl, _, _⟩ := h.open_
  clear h hy hr
  unfold valP CfgP at *
  generalize cfgOf p = r at *
  go_enter Try.func25, Try.ntmps25
  go_wp2_with fail
  refine (H.out _ (by (repeat' (first | (with_reducible exact Frm.refl _ _) | (with_reducible assumption) | (with_reducible refine Frm.alloc ?_ _) | (with_reducible refine Frm.drew ?_) | (with_reducible refine Frm.drewN ?_ _) | (with_reducible refine Frm.set1 ?_ _) | (with_reducible refine Frm.setCell ?_ ?_ _) | (exact fun h => absurd h (Nat.lt_irrefl _)) | (intro hlt; simp [World.size_alloc, One] at hlt ⊢; omega))))).mono ?_
  rintro e w3 ⟨rfl, hF3⟩
  have HF3 : Hid (Frm (fun _ => False) w w3) := Frm.trans' (by (repeat' (first | (with_reducible exact Frm.refl _ _) | (with_reducible assumption) | (with_reducible refine Frm.alloc ?_ _) | (with_reducible refine Frm.drew ?_) | (with_reducible refine Frm.drewN ?_ _) | (with_reducible refine Frm.set1 ?_ _) | (with_reducible refine Frm.setCell ?_ ?_ _) | (exact fun h => absurd h (Nat.lt_irrefl _)) | (intro hlt; simp [World.size_alloc, One] at hlt ⊢; omega)))) hF3
  clear hF3
  go_wp2_with fail
  go_ret
  exact ⟨rfl, HF3.out⟩

def CloneIP (n : Nat) (w : World) (e : Ending) (w' : World) : Prop := (∃ A c, e = .returned (.slice A n c)) ∧ Frm (fun _ => False) w w'

set_option maxRecDepth 100000 in
set_option maxHeartbeats 1000000 in
theorem cloneI_any (v : Value) (ys : List Itm) (w : World) (h : ItemsAt w v ys) (hl : ys.length ≤ 100000) :
    Calls Try.prog 27 #[v] w (CloneIP ys.length w) := by
  obtain ⟨A, cap, rfl, hn⟩ := h.1.cells encIt_len (by decide)
  have HN := Lib.hid hn
  have hm3 : ys.length ≤ maxLen := by unfold maxLen; omega
  have hm4 : ys.length * 32 ≤ 140737488355328 := by omega
  have HONEB : Hid (∀ u ∈ cellsOf encIt ys, u.oneCell' = true) := fun u hu => by
    obtain ⟨p, hp, hp2⟩ := List.mem_flatMap.1 hu
    have hb := h.2 p hp
    obtain ⟨Ab, cb, hv, _⟩ := bytes_cell hb
    simp [encIt, hv] at hp2
    rcases hp2 with rfl | rfl | rfl <;> rfl
  have HLEN : Hid ((cellsOf encIt ys).length = ys.length * 3) := cellsOf_length encIt_len ys
  have HEMP := Lib.hid (empty_row w 72 3 w.heap.size (Nat.le_refl _))
  clear hn h
  cases A with
  | none =>
    have h0 : ys = [] := by
      cases ys with
      | nil => rfl
      | cons b r => obtain ⟨g, off, e, _⟩ := HN.out (by simp); cases e
    subst h0
    go_enter Try.func27, Try.ntmps27
    have hnil := Lib.run_eql_slice_nil (P := Try.prog) w 36 72 none 0 cap 0 0 Try.underlying36
    go_wp2_with fail
    go_ret
    exact ⟨⟨_, _, rfl⟩, Frm.refl _ _⟩
  | some a =>
    have hnil := Lib.run_eql_slice_nil (P := Try.prog) w 36 72 (some a) ys.length cap 0 0 Try.underlying36
    go_enter Try.func27, Try.ntmps27
    go_wp2_with (at_builtin; refine wpl_clone rfl el_Item _ _ rfl rfl rfl (B := w.heap.size) (news := cellsOf encIt ys) (Frm.row (S := fun _ => False) (by (repeat' (first | (with_reducible exact Frm.refl _ _) | (with_reducible assumption) | (with_reducible refine Frm.alloc ?_ _) | (with_reducible refine Frm.drew ?_) | (with_reducible refine Frm.drewN ?_ _) | (with_reducible refine Frm.set1 ?_ _) | (with_reducible refine Frm.setCell ?_ ?_ _) | (exact fun h => absurd h (Nat.lt_irrefl _)) | (intro hlt; simp [World.size_alloc, One] at hlt ⊢; omega)))) HEMP.out (fun _ _ h => h)) HLEN.out (fun h0 => NewsOf.grow (HN.out h0) (by (repeat' (first | (with_reducible exact Frm.refl _ _) | (with_reducible assumption) | (with_reducible refine Frm.alloc ?_ _) | (with_reducible refine Frm.drew ?_) | (with_reducible refine Frm.drewN ?_ _) | (with_reducible refine Frm.set1 ?_ _) | (with_reducible refine Frm.setCell ?_ ?_ _) | (exact fun h => absurd h (Nat.lt_irrefl _)) | (intro hlt; simp [World.size_alloc, One] at hlt ⊢; omega))))) HONEB.out hm3 hm4 (by simp) ?_; intro A3 cap3 w3 hown3 hfr3)
    go_ret
    exact ⟨⟨_, _, rfl⟩, Frm.trans (b := _) (by (repeat' (first | (with_reducible exact Frm.refl _ _) | (with_reducible assumption) | (with_reducible refine Frm.alloc ?_ _) | (with_reducible refine Frm.drew ?_) | (with_reducible refine Frm.drewN ?_ _) | (with_reducible refine Frm.set1 ?_ _) | (with_reducible refine Frm.setCell ?_ ?_ _) | (exact fun h => absurd h (Nat.lt_irrefl _)) | (intro hlt; simp [World.size_alloc, One] at hlt ⊢; omega)))) hfr3 (fun i hi h => by cases h; exact absurd hi (Nat.lt_irrefl _))⟩

/-- Plans, each with its items' slice. -/
abbrev Pla := Pl × Value
def encP (x : Pla) : List Value := [.int .i64 x.1.node, .int .u32 x.1.dev, .int .u32 x.1.i0, .int .u32 x.1.i1, .int .u32 x.1.i2, .int .u32 x.1.i3, .int .u32 x.1.day, .int .u32 x.1.time, x.2, .bool x.1.mand, .bool x.1.keep]
theorem encP_len (x : Pla) : (encP x).length = 11 := rfl
/-- An item's slice that has a plan's items. -/
def HasIts (w : World) (v : Value) (p : Pl) : Prop := ∃ ys, ItemsAt w v ys ∧ ys.map bare = p.its
theorem HasIts.frm {w w' : World} {v : Value} {p : Pl} (h : HasIts w v p) (hF : Frm (fun _ => False) w w') : HasIts w' v p := by
  obtain ⟨ys, h1, h2⟩ := h
  exact ⟨ys, h1.frm hF, h2⟩
def PlansAt (w : World) (v : Value) (xs : List Pla) : Prop := SlAt encP 11 w v xs ∧ ∀ x ∈ xs, HasIts w x.2 x.1
theorem PlansAt.frm {w w' : World} {v : Value} {xs : List Pla} (h : PlansAt w v xs) (hF : Frm (fun _ => False) w w') : PlansAt w' v xs := ⟨h.1.frm encP_len hF, fun x hx => (h.2 x hx).frm hF⟩
theorem el_pnode : El Try.prog 62 66 1 8 := El.of Try.underlying62 (z := .pointer none) (by kernel_rfl) rfl (by decide)
theorem el_Plan : El Try.prog 22 38 11 72 := El.of Try.underlying22 (z := .agg #[.int .i64 0, .int .u32 0, .int .u32 0, .int .u32 0, .int .u32 0, .int .u32 0, .int .u32 0, .int .u32 0, .slice none 0 0, .bool false, .bool false]) (by kernel_rfl) rfl (by decide)
end Go.Proofs.Ytjjmkpjclhielaa
