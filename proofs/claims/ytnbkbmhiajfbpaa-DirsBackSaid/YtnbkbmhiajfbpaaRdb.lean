/- The reader's Take, with what it has the reader do. -/
import Derived.Test.YtnbkbmhiajfbpaaRd
import Derived.Deep.RegionHeld3
import Derived.Deep.RegionWith
namespace Go.Proofs.Ytnbkbmhiajfbpaa.Rd
open Go.RowKit Go.Proofs.Ytnbkbmhiajfbpaa.XRd Go.Proofs.YtnbkbmhiajfbpaaW.PrintWords Go.Proofs.YtnbkbmhiajfbpaaW.PrintLast
set_option linter.unusedVariables false
set_option linter.unusedSimpArgs false
theorem IsRd.far {w0 W : World} {g : Nat} {l : List Int} {p e : Int} (h : IsRd w0 W g l p e) {b : Nat} (hb : b ≠ g) (hw : w0.heap.size ≤ b) (u : Value) : IsRd w0 (W.setCell ⟨b, 0, none⟩ u) g l p e := by
  obtain ⟨⟨A, c, h0, h1, h2⟩, h3, h4⟩ := h
  exact ⟨⟨A, c, blk_far h0 (fun e => hb e.symm) u, h1, h2⟩, h3, h4.setCell (p := ⟨b, 0, none⟩) hw _⟩
theorem kb_row {w w1 : World} {g : Nat} (h : KeepBut w.drew w1 g none) (r : Option Nat) : KeepBut w w1 g r := ⟨h.1, fun i hi hg _ => h.2 i hi hg (by simp)⟩
theorem kb_put {w w1 : World} {g b : Nat} (h : KeepBut w w1 g (some b)) (m : Nat) (x : Int) : KeepBut w ((w1.drewN m).setCell ⟨b, 0, none⟩ (.int .i64 x)) g (some b) :=
  ⟨by simpa [World.setCell] using h.1, fun i hi hg hr => (Below.heap_setCell (w1.drewN m) ⟨b, 0, none⟩ _ i (fun e => hr (by rw [e]))).trans (h.2 i hi hg hr)⟩

set_option maxHeartbeats 4000000 in
/-- What Take has its reader do: a width that can't be. -/
theorem take_arg (b0 b1 b2 g : Nat) (n : Int) (w : World) (h0 : w.cell? ⟨b0, 0, none⟩ = some (.pointer (some ⟨g, 0, none⟩))) (h1 : w.cell? ⟨b1, 0, none⟩ = some (.int .i64 n)) (hn : n < 1 ∨ 4 < n) :
    Calls Try.prog 53 #[.pointer (some ⟨b0, 0, none⟩), .pointer (some ⟨b1, 0, none⟩), .pointer (some ⟨b2, 0, none⟩)] w fun e w' => e = .panicked [{ v := .iface 28 (.int .i64 1), recovered := false }] ∧ ∃ m, w' = w.drewN m := by
  have hN : ∀ W : World, Calls Try.prog 55 #[.pointer (some ⟨g, 0, none⟩), .int .i64 n, .bool false] W fun e w' => e = .panicked [{ v := .iface 28 (.int .i64 1), recovered := false }] ∧ w' = W := fun W => next_arg g n false W (.inr rfl)
  have HN := Lib.hid hN
  clear hN
  rcases hn with hn | hn
  · have hb : decide (1 ≤ n) = false := decide_eq_false (by omega)
    go_enter Try.func53, Try.ntmps53
    refine wp_region_held_drew (S := fun X => X.cell? ⟨b0, 0, none⟩ = some (.pointer (some ⟨g, 0, none⟩)) ∧ X.cell? ⟨b1, 0, none⟩ = some (.int .i64 n)) (by kernel_rfl) ⟨by simpa using h0, by simpa using h1⟩ (fun hHeld => ?_)
    refine wpAnyH_take (i := 0) (v := .pointer (some ⟨g, 0, none⟩)) rfl (by kernel_rfl) (by kernel_rfl) (by kernel_rfl) (fun _ _ _ h => h) (Or.inl ⟨by rfl, fun W hS => by (try dsimp only at hS); go_simp⟩) (by assumption) ?_
    (try simp only [Act.put, List.setIfInBounds_toArray, List.set_cons_zero, List.set_cons_succ])
    refine wpAnyH_take (i := 1) (v := .int .i64 n) rfl (by kernel_rfl) (by kernel_rfl) (by kernel_rfl) (fun _ _ _ h => h) (Or.inl ⟨by rfl, fun W hS => by (try dsimp only at hS); go_simp⟩) (by assumption) ?_
    (try simp only [Act.put, List.setIfInBounds_toArray, List.set_cons_zero, List.set_cons_succ])
    refine wpAnyH_take (i := 2) (v := .int .i64 n) rfl (by kernel_rfl) (by kernel_rfl) (by kernel_rfl) (fun _ _ _ h => h) (Or.inl ⟨by rfl, fun W hS => by (try dsimp only at hS); go_simp⟩) (by assumption) ?_
    (try simp only [Act.put, List.setIfInBounds_toArray, List.set_cons_zero, List.set_cons_succ])
    refine wpAnyH_take (i := 3) (v := .bool false) rfl (by kernel_rfl) (by kernel_rfl) (by kernel_rfl) (fun _ _ _ h => h) (Or.inl ⟨by rfl, fun W hS => by (try dsimp only at hS); go_simp⟩) (by assumption) ?_
    (try simp only [Act.put, List.setIfInBounds_toArray, List.set_cons_zero, List.set_cons_succ])
    refine wpAnyH_take (i := 4) (v := .bool false) rfl (by kernel_rfl) (by kernel_rfl) (by kernel_rfl) (fun _ _ _ h => h) (Or.inl ⟨by rfl, fun W hS => by (try dsimp only at hS); go_simp⟩) (by assumption) ?_
    (try simp only [Act.put, List.setIfInBounds_toArray, List.set_cons_zero, List.set_cons_succ])
    refine wpAnyH_take (i := 5) (v := undef) rfl (by kernel_rfl) (by kernel_rfl) (by kernel_rfl) (fun _ _ _ h => h) (Or.inr ⟨by rfl, rfl⟩) (by assumption) ?_
    (try simp only [Act.put, List.setIfInBounds_toArray, List.set_cons_zero, List.set_cons_succ])
    refine wpAnyH_take (i := 6) (v := undef) rfl (by kernel_rfl) (by kernel_rfl) (by kernel_rfl) (fun _ _ _ h => h) (Or.inr ⟨by rfl, rfl⟩) (by assumption) ?_
    (try simp only [Act.put, List.setIfInBounds_toArray, List.set_cons_zero, List.set_cons_succ])
    refine wpAnyH_take (i := 7) (v := .bool false) rfl (by kernel_rfl) (by kernel_rfl) (by kernel_rfl) (fun _ _ _ h => h) (Or.inl ⟨by rfl, fun W hS => by (try dsimp only at hS); go_simp⟩) (by assumption) ?_
    (try simp only [Act.put, List.setIfInBounds_toArray, List.set_cons_zero, List.set_cons_succ])
    refine wpAnyH_take (i := 9) (v := .int .i64 n) rfl (by kernel_rfl) (by kernel_rfl) (by kernel_rfl) (fun _ _ _ h => h) (Or.inl ⟨by rfl, fun W hS => by (try dsimp only at hS); go_simp⟩) (by assumption) ?_
    (try simp only [Act.put, List.setIfInBounds_toArray, List.set_cons_zero, List.set_cons_succ])
    refine wpAnyH_ready (rs := [8]) (by kernel_rfl) (by simp) ?_
    refine AllReadyH.cons rfl (fun K hK => ?_) AllReadyH.nil
    go_simp
    refine (HN.out _).mono ?_
    rintro e w' ⟨rfl, rfl⟩
    exact ⟨rfl, rfl, 1, rfl⟩
  · have hb : decide (1 ≤ n) = true := decide_eq_true (by omega)
    have hb2 : decide (n ≤ 4) = false := decide_eq_false (by omega)
    go_enter Try.func53, Try.ntmps53
    refine wp_region_held_drew (S := fun X => X.cell? ⟨b0, 0, none⟩ = some (.pointer (some ⟨g, 0, none⟩)) ∧ X.cell? ⟨b1, 0, none⟩ = some (.int .i64 n)) (by kernel_rfl) ⟨by simpa using h0, by simpa using h1⟩ (fun hHeld => ?_)
    refine wpAnyH_take (i := 0) (v := .pointer (some ⟨g, 0, none⟩)) rfl (by kernel_rfl) (by kernel_rfl) (by kernel_rfl) (fun _ _ _ h => h) (Or.inl ⟨by rfl, fun W hS => by (try dsimp only at hS); go_simp⟩) (by assumption) ?_
    (try simp only [Act.put, List.setIfInBounds_toArray, List.set_cons_zero, List.set_cons_succ])
    refine wpAnyH_take (i := 1) (v := .int .i64 n) rfl (by kernel_rfl) (by kernel_rfl) (by kernel_rfl) (fun _ _ _ h => h) (Or.inl ⟨by rfl, fun W hS => by (try dsimp only at hS); go_simp⟩) (by assumption) ?_
    (try simp only [Act.put, List.setIfInBounds_toArray, List.set_cons_zero, List.set_cons_succ])
    refine wpAnyH_take (i := 2) (v := .int .i64 n) rfl (by kernel_rfl) (by kernel_rfl) (by kernel_rfl) (fun _ _ _ h => h) (Or.inl ⟨by rfl, fun W hS => by (try dsimp only at hS); go_simp⟩) (by assumption) ?_
    (try simp only [Act.put, List.setIfInBounds_toArray, List.set_cons_zero, List.set_cons_succ])
    refine wpAnyH_take (i := 3) (v := .bool true) rfl (by kernel_rfl) (by kernel_rfl) (by kernel_rfl) (fun _ _ _ h => h) (Or.inl ⟨by rfl, fun W hS => by (try dsimp only at hS); go_simp⟩) (by assumption) ?_
    (try simp only [Act.put, List.setIfInBounds_toArray, List.set_cons_zero, List.set_cons_succ])
    refine wpAnyH_take (i := 4) (v := .bool true) rfl (by kernel_rfl) (by kernel_rfl) (by kernel_rfl) (fun _ _ _ h => h) (Or.inl ⟨by rfl, fun W hS => by (try dsimp only at hS); go_simp⟩) (by assumption) ?_
    (try simp only [Act.put, List.setIfInBounds_toArray, List.set_cons_zero, List.set_cons_succ])
    refine wpAnyH_take (i := 5) (v := .int .i64 n) rfl (by kernel_rfl) (by kernel_rfl) (by kernel_rfl) (fun _ _ _ h => h) (Or.inl ⟨by rfl, fun W hS => by (try dsimp only at hS); go_simp⟩) (by assumption) ?_
    (try simp only [Act.put, List.setIfInBounds_toArray, List.set_cons_zero, List.set_cons_succ])
    refine wpAnyH_take (i := 6) (v := .bool false) rfl (by kernel_rfl) (by kernel_rfl) (by kernel_rfl) (fun _ _ _ h => h) (Or.inl ⟨by rfl, fun W hS => by (try dsimp only at hS); go_simp⟩) (by assumption) ?_
    (try simp only [Act.put, List.setIfInBounds_toArray, List.set_cons_zero, List.set_cons_succ])
    refine wpAnyH_take (i := 7) (v := .bool false) rfl (by kernel_rfl) (by kernel_rfl) (by kernel_rfl) (fun _ _ _ h => h) (Or.inl ⟨by rfl, fun W hS => by (try dsimp only at hS); go_simp⟩) (by assumption) ?_
    (try simp only [Act.put, List.setIfInBounds_toArray, List.set_cons_zero, List.set_cons_succ])
    refine wpAnyH_take (i := 9) (v := .int .i64 n) rfl (by kernel_rfl) (by kernel_rfl) (by kernel_rfl) (fun _ _ _ h => h) (Or.inl ⟨by rfl, fun W hS => by (try dsimp only at hS); go_simp⟩) (by assumption) ?_
    (try simp only [Act.put, List.setIfInBounds_toArray, List.set_cons_zero, List.set_cons_succ])
    refine wpAnyH_ready (rs := [8]) (by kernel_rfl) (by simp) ?_
    refine AllReadyH.cons rfl (fun K hK => ?_) AllReadyH.nil
    go_simp
    refine (HN.out _).mono ?_
    rintro e w' ⟨rfl, rfl⟩
    exact ⟨rfl, rfl, 1, rfl⟩

set_option maxHeartbeats 4000000 in
/-- A width that is more than what is left. -/
theorem take_past (w0 : World) (b0 b1 b2 g : Nat) (l : List Int) (p e n : Int) (w : World) (h0 : w.cell? ⟨b0, 0, none⟩ = some (.pointer (some ⟨g, 0, none⟩))) (h1 : w.cell? ⟨b1, 0, none⟩ = some (.int .i64 n)) (hI : IsRd w0 w g l p e) (hn : 1 ≤ n ∧ n ≤ 4) (hp : 0 ≤ p) (hl : l.length ≤ 140737488355328) (hp2 : p ≤ l.length) (h : (l.length : Int) - p < n) :
    Calls Try.prog 53 #[.pointer (some ⟨b0, 0, none⟩), .pointer (some ⟨b1, 0, none⟩), .pointer (some ⟨b2, 0, none⟩)] w fun e w' => e = .panicked [{ v := .iface 28 (.int .i64 10), recovered := false }] ∧ ∃ m, w' = w.drewN m := by
  have hN : Calls Try.prog 55 #[.pointer (some ⟨g, 0, none⟩), .int .i64 n, .bool true] w.drew fun e w' => e = .panicked [{ v := .iface 28 (.int .i64 10), recovered := false }] ∧ ∃ m, w' = w.drewN m :=
    (next_past w0 g l p e n w.drew (hI.below (below_drew1 (Below.refl _ _))) (by omega) hp hl hp2 h).mono fun e w' ⟨he, m, hw⟩ => ⟨he, m + 1, by rw [hw]; exact (World.drewN_drewN w 1 m).trans (congrArg _ (Nat.add_comm 1 m))⟩
  have HN := Lib.hid hN
  clear hN hI
  have hb : decide (1 ≤ n) = true := decide_eq_true (by omega)
  have hb2 : decide (n ≤ 4) = true := decide_eq_true (by omega)
  go_enter Try.func53, Try.ntmps53
  refine wp_region_held_drew (S := fun X => X.cell? ⟨b0, 0, none⟩ = some (.pointer (some ⟨g, 0, none⟩)) ∧ X.cell? ⟨b1, 0, none⟩ = some (.int .i64 n)) (by kernel_rfl) ⟨by simpa using h0, by simpa using h1⟩ (fun hHeld => ?_)
  refine wpAnyH_take (i := 0) (v := .pointer (some ⟨g, 0, none⟩)) rfl (by kernel_rfl) (by kernel_rfl) (by kernel_rfl) (fun _ _ _ h => h) (Or.inl ⟨by rfl, fun W hS => by (try dsimp only at hS); go_simp⟩) (by assumption) ?_
  (try simp only [Act.put, List.setIfInBounds_toArray, List.set_cons_zero, List.set_cons_succ])
  refine wpAnyH_take (i := 1) (v := .int .i64 n) rfl (by kernel_rfl) (by kernel_rfl) (by kernel_rfl) (fun _ _ _ h => h) (Or.inl ⟨by rfl, fun W hS => by (try dsimp only at hS); go_simp⟩) (by assumption) ?_
  (try simp only [Act.put, List.setIfInBounds_toArray, List.set_cons_zero, List.set_cons_succ])
  refine wpAnyH_take (i := 2) (v := .int .i64 n) rfl (by kernel_rfl) (by kernel_rfl) (by kernel_rfl) (fun _ _ _ h => h) (Or.inl ⟨by rfl, fun W hS => by (try dsimp only at hS); go_simp⟩) (by assumption) ?_
  (try simp only [Act.put, List.setIfInBounds_toArray, List.set_cons_zero, List.set_cons_succ])
  refine wpAnyH_take (i := 3) (v := .bool true) rfl (by kernel_rfl) (by kernel_rfl) (by kernel_rfl) (fun _ _ _ h => h) (Or.inl ⟨by rfl, fun W hS => by (try dsimp only at hS); go_simp⟩) (by assumption) ?_
  (try simp only [Act.put, List.setIfInBounds_toArray, List.set_cons_zero, List.set_cons_succ])
  refine wpAnyH_take (i := 4) (v := .bool true) rfl (by kernel_rfl) (by kernel_rfl) (by kernel_rfl) (fun _ _ _ h => h) (Or.inl ⟨by rfl, fun W hS => by (try dsimp only at hS); go_simp⟩) (by assumption) ?_
  (try simp only [Act.put, List.setIfInBounds_toArray, List.set_cons_zero, List.set_cons_succ])
  refine wpAnyH_take (i := 5) (v := .int .i64 n) rfl (by kernel_rfl) (by kernel_rfl) (by kernel_rfl) (fun _ _ _ h => h) (Or.inl ⟨by rfl, fun W hS => by (try dsimp only at hS); go_simp⟩) (by assumption) ?_
  (try simp only [Act.put, List.setIfInBounds_toArray, List.set_cons_zero, List.set_cons_succ])
  refine wpAnyH_take (i := 6) (v := .bool true) rfl (by kernel_rfl) (by kernel_rfl) (by kernel_rfl) (fun _ _ _ h => h) (Or.inl ⟨by rfl, fun W hS => by (try dsimp only at hS); go_simp⟩) (by assumption) ?_
  (try simp only [Act.put, List.setIfInBounds_toArray, List.set_cons_zero, List.set_cons_succ])
  refine wpAnyH_take (i := 7) (v := .bool true) rfl (by kernel_rfl) (by kernel_rfl) (by kernel_rfl) (fun _ _ _ h => h) (Or.inl ⟨by rfl, fun W hS => by (try dsimp only at hS); go_simp⟩) (by assumption) ?_
  (try simp only [Act.put, List.setIfInBounds_toArray, List.set_cons_zero, List.set_cons_succ])
  refine wpAnyH_take (i := 9) (v := .int .i64 n) rfl (by kernel_rfl) (by kernel_rfl) (by kernel_rfl) (fun _ _ _ h => h) (Or.inl ⟨by rfl, fun W hS => by (try dsimp only at hS); go_simp⟩) (by assumption) ?_
  (try simp only [Act.put, List.setIfInBounds_toArray, List.set_cons_zero, List.set_cons_succ])
  refine wpAnyH_ready (rs := [8]) (by kernel_rfl) (by simp) ?_
  refine AllReadyH.cons rfl (fun K hK => ?_) AllReadyH.nil
  go_simp
  refine HN.out.mono ?_
  rintro e w' ⟨rfl, m, rfl⟩
  exact ⟨rfl, rfl, m, rfl⟩

set_option maxHeartbeats 4000000 in
/-- A reading of so many bytes: the number. -/
theorem take_ok (w0 : World) (b0 b1 b2 g : Nat) (l : List Int) (p n r1 r2 : Int) (v2 : Value) (w : World) (k : Nat) (h0 : w.cell? ⟨b0, 0, none⟩ = some (.pointer (some ⟨g, 0, none⟩))) (h1 : w.cell? ⟨b1, 0, none⟩ = some (.int .i64 n)) (h2 : w.cell? ⟨b2, 0, none⟩ = some v2) (hz : w.frozen? ⟨b2, 0, none⟩ = false) (hI : IsRd w0 w g l p 0)
    (hb0 : b0 ≠ g) (hb1 : b1 ≠ g) (hb2 : b2 ≠ g) (h20 : b2 ≠ b0) (h21 : b2 ≠ b1) (hw2 : w0.heap.size ≤ b2) (hn : 1 ≤ n ∧ n ≤ 4) (hp : 0 ≤ p) (hl : l.length ≤ 140737488355328) (h : p + n ≤ l.length) (hg : word_Get.f k ((l.take (p + n).toNat).drop p.toNat) 0 n = some (r1, r2)) :
    Calls Try.prog 53 #[.pointer (some ⟨b0, 0, none⟩), .pointer (some ⟨b1, 0, none⟩), .pointer (some ⟨b2, 0, none⟩)] w fun e w' => e = .returned (.tuple #[]) ∧ IsRd w0 w' g l (p + n) 0 ∧ w'.cell? ⟨b2, 0, none⟩ = some (.int .i64 r1) ∧ KeepBut w w' g (some b2) := by
  have hN := next_ok w0 g l p 0 n w.drew (hI.below (below_drew1 (Below.refl _ _))) (by omega) hp hl h
  have HN := Lib.hid hN
  have HG := Lib.hid hg
  clear hN hg
  have hc1 : decide (1 ≤ n) = true := decide_eq_true (by omega)
  have hc2 : decide (n ≤ 4) = true := decide_eq_true (by omega)
  have hln : ((l.take (p + n).toNat).drop p.toNat).length = (p + n).toNat - p.toNat := by simp; omega
  have HI := Lib.hid hI
  clear hI
  go_enter Try.func53, Try.ntmps53
  go_region_held3 (fun X => X.cell? ⟨b0, 0, none⟩ = some (.pointer (some ⟨g, 0, none⟩)) ∧ X.cell? ⟨b1, 0, none⟩ = some (.int .i64 n)) (go_keep) (first | (go_at_call 55; refine HN.out.mono ?_; rintro e w1 ⟨A, c, rfl, hA, hC, hI1, hK⟩; have q1 := KeepBut.cell_ hK (b := b1) (o := 0) (v := .int .i64 n) (by simpa using h1) hb1 (by simp); have q2 := KeepBut.cell_ hK (b := b2) (o := 0) (v := v2) (by simpa using h2) hb2 (by simp); have q3 := KeepBut.free_ hK (b := b2) (o := 0) (v := v2) (by simpa using h2) (by simpa using hz) hb2 (by simp); have q0 := KeepBut.cell_ hK (b := b0) (o := 0) (v := .pointer (some ⟨g, 0, none⟩)) (by simpa using h0) hb0 (by simp); have HC := Lib.hid hC; have HI1 := Lib.hid hI1; have HK := Lib.hid hK; have HA := Lib.hid hA; clear hC hI1 hK hA) | (go_at_call 54; rw [show (p + n).toNat - p.toNat = ((l.take (p + n).toNat).drop p.toNat).length from hln.symm]; refine (word_Get.calls k _ _ _ _ _ r1 r2 _ (Kd.C_below HC.out HI1.out.2.2) HA.out HG.out).mono ?_; rintro e w2 ⟨rfl, ⟨nd, rfl⟩⟩))
  go_end0
  exact ⟨rfl, (HI1.out.below (pw_below_drewN (Below.refl _ _) nd)).far hb2 hw2 _, World.cell?_setCell_same' _ _ _ (by simp [q2]), kb_put (kb_row HK.out (some b2)) nd r1⟩

/-- The world in which Take has its reader do its reading: three boxes, and the reader's own. -/
abbrev takeW (w : World) (g : Nat) (n : Int) : World := (((w.alloc (.cells #[.pointer (some ⟨g, 0, none⟩)] 61)).alloc (.cells #[.int .i64 n] 3)).alloc (.cells #[.int .i64 0] 3))

theorem heap_alloc (w : World) (o : Obj) (i : Nat) : (w.alloc o).heap[i]? = if i = w.heap.size then some o else w.heap[i]? := Array.getElem?_push

theorem takeW_size (w : World) (g : Nat) (n : Int) : (takeW w g n).heap.size = w.heap.size + 1 + 1 + 1 := by
  simp only [takeW, World.size_alloc]

theorem takeW_heap (w : World) (g : Nat) (n : Int) (o : Obj) :
    ((takeW w g n).alloc o).heap[w.heap.size]? = some (.cells #[.pointer (some ⟨g, 0, none⟩)] 61) ∧ ((takeW w g n).alloc o).heap[w.heap.size + 1]? = some (.cells #[.int .i64 n] 3) ∧ ((takeW w g n).alloc o).heap[w.heap.size + 1 + 1]? = some (.cells #[.int .i64 0] 3) ∧ ((takeW w g n).alloc o).heap[w.heap.size + 1 + 1 + 1]? = some o := by
  simp only [takeW, heap_alloc, World.size_alloc]
  refine ⟨?_, ?_, ?_, ?_⟩
  · rw [if_neg (by omega), if_neg (by omega), if_neg (by omega), if_pos trivial]
  · rw [if_neg (by omega), if_neg (by omega), if_pos trivial]
  · rw [if_neg (by omega), if_pos trivial]
  · rw [if_pos trivial]

theorem takeW_cells (w : World) (g : Nat) (n : Int) (o : Obj) :
    ((takeW w g n).alloc o).cell? ⟨w.heap.size, 0, none⟩ = some (.pointer (some ⟨g, 0, none⟩)) ∧ ((takeW w g n).alloc o).cell? ⟨w.heap.size + 1, 0, none⟩ = some (.int .i64 n) ∧ ((takeW w g n).alloc o).cell? ⟨w.heap.size + 1 + 1, 0, none⟩ = some (.int .i64 0) ∧ ((takeW w g n).alloc o).frozen? ⟨w.heap.size + 1 + 1, 0, none⟩ = false := by
  obtain ⟨e0, e1, e2, _⟩ := takeW_heap w g n o
  exact ⟨(blk_cell e0 0).trans rfl, (blk_cell e1 0).trans rfl, (blk_cell e2 0).trans rfl, blk_frozen e2 0⟩

theorem takeW_below (w : World) (g : Nat) (n : Int) : Below w.heap.size w (takeW w g n) := below_alloc (below_alloc (below_alloc (Below.refl _ _) _) _) _

theorem kb_under {w w1 w2 : World} {g : Nat} {r : Option Nat} (hb : Below w.heap.size w w1) (h : KeepBut w1 w2 g r) (hr : ∀ k, r = some k → w.heap.size ≤ k) : KeepBut w w2 g none :=
  ⟨Nat.le_trans hb.size h.1, fun i hi hg _ => (h.2 i (Nat.lt_of_lt_of_le hi hb.size) hg (fun e => absurd (hr i e.symm) (by omega))).trans (hb.block i hi)⟩


set_option maxHeartbeats 4000000 in
/-- Take, where the reader has an error already: nothing. -/
theorem Take_stop (w0 : World) (g : Nat) (l : List Int) (p e n : Int) (w : World) (hI : IsRd w0 w g l p e) (he : e ≠ 0) :
    Calls Try.prog 39 #[.pointer (some ⟨g, 0, none⟩), .int .i64 n] w fun r w' => r = .returned (.int .i64 0) ∧ IsRd w0 w' g l p e ∧ KeepBut w w' g none := by
  have hmf : ∀ (fn : Fn) (first cap : Array Value) (w : World), (Instr.makeFunc fn first cap).run Try.prog w = .ok (.func fn first cap) w := fun _ _ _ _ => rfl
  have hB := takeW_below w g n
  have HD := Lib.hid (do_stop w0 g l p e 53 #[.pointer (some ⟨w.heap.size, 0, none⟩), .pointer (some ⟨w.heap.size + 1, 0, none⟩), .pointer (some ⟨w.heap.size + 1 + 1, 0, none⟩)] (takeW w g n) (hI.below hB) he)
  have HI := Lib.hid hI
  have HB := Lib.hid hB
  have HC := Lib.hid (takeW_cells w g n (.cells #[.pointer (some ⟨g, 0, none⟩)] 61))
  clear hI hB
  go_enter Try.func39, Try.ntmps39
  go_wp2_with (first | (go_at_call 52; refine HD.out.mono ?_; rintro r w' ⟨rfl, rfl⟩))
  go_ret
  exact ⟨rfl, HI.out.below (below_alloc HB.out _), KeepBut.of_below (below_alloc HB.out _) g none⟩

/-- What Take's world holds, so that the reading can be done. -/
theorem take_call (w0 : World) (g : Nat) (l : List Int) (p e n r : Int) (w : World) (hI : IsRd w0 w g l p 0) (R : Ending → World → Prop) (p' : Int)
    (hc : Calls Try.prog 53 #[.pointer (some ⟨w.heap.size, 0, none⟩), .pointer (some ⟨w.heap.size + 1, 0, none⟩), .pointer (some ⟨w.heap.size + 1 + 1, 0, none⟩)] ((takeW w g n).alloc (.cells #[.pointer (some ⟨g, 0, none⟩)] 61)) R)
    (hR : ∀ q W', R q W' → (∃ v, q = .returned v ∧ IsRd w0 W' g l p' e ∧ W'.cell? ⟨w.heap.size + 1 + 1, 0, none⟩ = some (.int .i64 r) ∧ KeepBut w W' g none) ∨
      (q = .panicked [{ v := .iface 28 (.int .i64 e), recovered := false }] ∧ p' = p ∧ r = 0 ∧ ∃ m, W' = ((takeW w g n).alloc (.cells #[.pointer (some ⟨g, 0, none⟩)] 61)).drewN m)) :
    Calls Try.prog 39 #[.pointer (some ⟨g, 0, none⟩), .int .i64 n] w fun q w' => q = .returned (.int .i64 r) ∧ IsRd w0 w' g l p' e ∧ KeepBut w w' g none := by
  have hmf : ∀ (fn : Fn) (first cap : Array Value) (w : World), (Instr.makeFunc fn first cap).run Try.prog w = .ok (.func fn first cap) w := fun _ _ _ _ => rfl
  have hB := takeW_below w g n
  have hlt := hI.lt
  have hgs : w0.heap.size ≤ g := hI.2.1
  obtain ⟨c0, c1, c2, c3⟩ := takeW_cells w g n (.cells #[.pointer (some ⟨g, 0, none⟩)] 61)
  have hW : Below w.heap.size w ((takeW w g n).alloc (.cells #[.pointer (some ⟨g, 0, none⟩)] 61)) := below_alloc hB _
  obtain ⟨A, c, ⟨_, _, d2, _⟩, _, _⟩ := (hI.below hW).cells
  have d3 := (hI.below hW).free 2
  have HD := Lib.hid (do_run w0 g l p 53 #[.pointer (some ⟨w.heap.size, 0, none⟩), .pointer (some ⟨w.heap.size + 1, 0, none⟩), .pointer (some ⟨w.heap.size + 1 + 1, 0, none⟩)] (takeW w g n) R
    (fun W2 => IsRd w0 W2 g l p' e ∧ W2.cell? ⟨w.heap.size + 1 + 1, 0, none⟩ = some (.int .i64 r) ∧ KeepBut w W2 g none) (hI.below hB) (fun W => by rfl) hc (fun q W' h => by
      rcases hR q W' h with h | ⟨rfl, rfl, rfl, m, rfl⟩
      · exact .inl h
      · refine .inr ⟨e, .int .i64 0, rfl, ?_, d2, d3, ((hI.below hW).below (pw_below_drewN (Below.refl _ _) m)).set2 e, ?_, ?_⟩
        · rw [takeW_size]
          exact (blk_cell (takeW_heap w g n (.cells #[.pointer (some ⟨g, 0, none⟩)] 61)).2.2.2 0).trans rfl
        · rw [World.cell?_setCell_far _ _ _ _ (by simp; omega)]
          exact c2
        · exact (KeepBut.of_below (pw_below_drewN hW m) g none).set_ 2 _))
  clear hI hB hW hR hc d2 d3 c0 c1 c2 c3
  go_enter Try.func39, Try.ntmps39
  go_wp2_with (first | (go_at_call 52; refine HD.out.mono ?_; rintro q w' ⟨rfl, hP⟩; obtain ⟨P1, P2, P3⟩ := hP; have HP1 := Lib.hid P1; have HP3 := Lib.hid P3; clear P1 P3))
  go_ret
  exact ⟨rfl, HP1.out, HP3.out⟩

/-- Take, where the reader has no error yet: what it tells, its place and its error then. -/
theorem Take_run (w0 : World) (g : Nat) (l : List Int) (p n r p' e : Int) (w : World) (k : Nat) (hI : IsRd w0 w g l p 0) (hp : 0 ≤ p) (hp2 : p ≤ l.length) (hl : l.length ≤ 140737488355328)
    (h : ((n < 1 ∨ 4 < n) ∧ r = 0 ∧ p' = p ∧ e = 1) ∨ (1 ≤ n ∧ n ≤ 4 ∧ (l.length : Int) - p < n ∧ r = 0 ∧ p' = p ∧ e = 10) ∨
      (1 ≤ n ∧ n ≤ 4 ∧ p + n ≤ l.length ∧ p' = p + n ∧ e = 0 ∧ ∃ r2, word_Get.f k ((l.take (p + n).toNat).drop p.toNat) 0 n = some (r, r2))) :
    Calls Try.prog 39 #[.pointer (some ⟨g, 0, none⟩), .int .i64 n] w fun q w' => q = .returned (.int .i64 r) ∧ IsRd w0 w' g l p' e ∧ KeepBut w w' g none := by
  have hB := takeW_below w g n
  have hlt := hI.lt
  have hgs : w0.heap.size ≤ g := hI.2.1
  have hW : Below w.heap.size w ((takeW w g n).alloc (.cells #[.pointer (some ⟨g, 0, none⟩)] 61)) := below_alloc hB _
  obtain ⟨c0, c1, c2, c3⟩ := takeW_cells w g n (.cells #[.pointer (some ⟨g, 0, none⟩)] 61)
  rcases h with ⟨hn, rfl, rfl, rfl⟩ | ⟨h1, h4, hl2, rfl, rfl, rfl⟩ | ⟨h1, h4, hl2, rfl, rfl, r2, hg⟩
  · refine take_call w0 g l p' 1 n 0 w hI _ p' (take_arg w.heap.size (w.heap.size + 1) (w.heap.size + 1 + 1) g n _ c0 c1 hn) ?_
    rintro q W' ⟨rfl, m, rfl⟩
    exact .inr ⟨rfl, rfl, rfl, m, rfl⟩
  · refine take_call w0 g l p' 10 n 0 w hI _ p' (take_past w0 w.heap.size (w.heap.size + 1) (w.heap.size + 1 + 1) g l p' 0 n _ c0 c1 (hI.below hW) ⟨h1, h4⟩ hp hl hp2 hl2) ?_
    rintro q W' ⟨rfl, m, rfl⟩
    exact .inr ⟨rfl, rfl, rfl, m, rfl⟩
  · refine take_call w0 g l p 0 n r w hI _ (p + n) (take_ok w0 w.heap.size (w.heap.size + 1) (w.heap.size + 1 + 1) g l p n r r2 (.int .i64 0) _ k c0 c1 c2 c3 (hI.below hW) (by omega) (by omega) (by omega) (by omega) (by omega) (by omega) ⟨h1, h4⟩ hp hl hl2 hg) ?_
    rintro q W' ⟨rfl, a, b, c⟩
    exact .inl ⟨_, rfl, a, b, kb_under hW c (fun k hk => by cases hk; omega)⟩
end Go.Proofs.Ytnbkbmhiajfbpaa.Rd
