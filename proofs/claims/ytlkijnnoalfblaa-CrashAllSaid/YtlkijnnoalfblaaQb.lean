/- Written by a program of this session (tools/trim.py): Dw Ap Dc Dr Dt Dy, as far as the seat has what they speak of. -/
import Derived.Test.YtlkijnnoalfblaaQa
import Derived.RangeFuncNested
import Derived.Shelf.Abstract
import Derived.Shelf.RegionOpen
import Derived.WalkKit
import Derived.OwnWalkIn
import Derived.TacticsInMore
import Derived.LoopNIn
import Derived.LoopIn
import Derived.Maps.AppendAt
import Derived.Laws.OwnMore
import Derived.Test.YtlkijnnoalfblaaProg
import Derived.Test.YtlkijnnoalfblaaWMore
import Derived.Sort.MapsRangeIn
import Derived.Maps.Ext
import Derived.Maps.RangeWalk
import Derived.Maps.OwnIn
namespace Go.Proofs.Ytlkijnnoalfblaa.Dk
open Go Go.RowKit Go.Shelf Go.Proofs Go.Proofs.Ytlkijnnoalfblaa.Sp Go.Proofs.Ytlkijnnoalfblaa.XFb Go.Proofs.YtlkijnnoalfblaaW.PrintWords Go.Proofs.YtlkijnnoalfblaaW.PrintLast Go.Proofs.YtlkijnnoalfblaaW.PrintMore
set_option linter.unusedVariables false
set_option linter.unusedSimpArgs false
def wrE (bl : List (List Int)) (q : List S49) (b : Int) (n : Nat) : Int := if ¬ (0 ≤ b ∧ b < bl.length) then 1 else if n ≠ 128 then 1 else if 0 ≤ ixL (fun x : S49 => x.f1 == b) q 0 then 21 else if 64 ≤ q.length then 3 else 0
set_option maxRecDepth 100000 in
set_option maxHeartbeats 8000000 in
theorem write_no {W : World} {base D m : Nat} {S : Nat → Prop} {bl : List (List Int)} {q : List S49} {mo : Obj} {last : Int} (h : IsDk W base D m S bl q mo last) (b : Int) (A : Option Addr) (n c : Nat) (he : wrE bl q b n ≠ 0) :
    Calls Try.prog 22 #[.pointer (some ⟨D, 0, none⟩), .int .i64 b, .slice A n c] W fun e W' => e = .returned (.tuple #[.int .i64 0, .int .i64 (wrE bl q b n)]) ∧ Below W.heap.size W W' := by
  have hq64 := h.fits.queue
  have hDlt : D < W.heap.size := (h.low D h.inD).2
  have hq6 : q.length ≤ 1000000 := by omega
  have hDs : D < (W.alloc (.cells #[.int .i64 b] 3)).heap.size := by simp; omega
  have hXs : W.heap.size < (W.alloc (.cells #[.int .i64 b] 3)).heap.size := by simp
  have H1 := Aside0.mk (h.below (below_alloc (Below.refl W.heap.size W) (.cells #[.int .i64 b] 3)))
  obtain ⟨hf, ⟨vB, vQ, hD, hB, hQ⟩, hm, hmm, hSD, hSm, hlow⟩ := h
  have hD1 : (W.alloc (.cells #[.int .i64 b] 3)).heap[D]? = _ := (heap_alloc_old _ _ _ hDlt).trans hD
  have hX1 : (W.alloc (.cells #[.int .i64 b] 3)).heap[W.heap.size]? = some (.cells #[.int .i64 b] 3 (0, 0)) := World.alloc_heap_new _ _
  have cb : (W.alloc (.cells #[.int .i64 b] 3)).cell? ⟨W.heap.size, 0, none⟩ = some (.int .i64 b) := by simp only [World.cell?, hX1]; rfl
  have c1 : (W.alloc (.cells #[.int .i64 b] 3)).cell? ⟨D, 1, none⟩ = some vQ := by simp only [World.cell?, hD1]; rfl
  have HQ1 := Aside0.mk (Kd.R_alloc hQ (.cells #[.int .i64 b] 3))
  obtain ⟨AQ, cQ, rfl⟩ := Kd.R_slice hQ
  clear hB hQ hD1 hX1
  have HW := Aside0.mk (below_alloc (Below.refl W.heap.size W) (.cells #[.int .i64 b] 3))
  refine (callsIn_wide (n := 1)).1 ?_
  refine callsIn_of_wp Try.func22 rfl trivial ?_ rfl
  simp only [Try.ntmps22, List.size_toArray, List.length_cons, List.length_nil, Nat.reduceAdd, Nat.reduceSub, Array.replicate_succ, Array.replicate_zero, List.push_toArray, List.append_toArray, List.nil_append, List.cons_append]
  unfold wrE at he ⊢
  by_cases h0 : 0 ≤ b ∧ b < bl.length
  · have e0 : (if 0 ≤ b ∧ b < (bl.length : Int) then (0 : Int) else 1) = 0 := if_pos h0
    rw [if_neg (fun hh => hh h0)] at he ⊢
    by_cases h1 : n = 128
    · subst h1
      rw [if_neg (by decide)] at he ⊢
      by_cases h2 : 0 ≤ ixL (fun x : S49 => x.f1 == b) q 0
      · have t2 : decide (0 ≤ ixL (fun x : S49 => x.f1 == b) q 0) = true := decide_eq_true h2
        rw [if_pos h2]
        gi_wp2_with (first
          | (refine ⟨trivial, ?_⟩; gi_at_call 45; refine (callsIn_wide.2 (look_ok H1.out b)).mono ?_; rintro e w0 ⟨rfl, hw⟩; rw [e0, hw]; clear hw)
          | (refine ⟨trivial, ?_⟩; gi_at_call 46; refine (callsIn_wide.2 (containsBl W.heap.size b AQ cQ q _ (Kd.R_reads' HQ1.out).2.2 hq6 cb)).mono ?_; rintro e w2 ⟨rfl, hb2⟩; have HW2 := Aside0.mk (below_step HW.out hb2); have d2 := (hb2.block D hDs).trans ((heap_alloc_old _ _ _ hDlt).trans hD); have c2 : w2.cell? ⟨D, 1, none⟩ = some (.slice AQ q.length cQ) := (by simp [World.cell?, d2]); clear hb2 d2))
        refine bodyPost_ret (results_tmp2 rfl _ _ _) rfl ?_
        exact ⟨rfl, HW2.out⟩
      · have t2 : decide (0 ≤ ixL (fun x : S49 => x.f1 == b) q 0) = false := decide_eq_false h2
        rw [if_neg h2] at he ⊢
        by_cases h3 : 64 ≤ q.length
        · have t3 : decide ((64 : Int) ≤ (q.length : Int)) = true := decide_eq_true (by omega)
          rw [if_pos h3]
          gi_wp2_with (first
            | (refine ⟨trivial, ?_⟩; gi_at_call 45; refine (callsIn_wide.2 (look_ok H1.out b)).mono ?_; rintro e w0 ⟨rfl, hw⟩; rw [e0, hw]; clear hw)
            | (refine ⟨trivial, ?_⟩; gi_at_call 46; refine (callsIn_wide.2 (containsBl W.heap.size b AQ cQ q _ (Kd.R_reads' HQ1.out).2.2 hq6 cb)).mono ?_; rintro e w2 ⟨rfl, hb2⟩; have HW2 := Aside0.mk (below_step HW.out hb2); have d2 := (hb2.block D hDs).trans ((heap_alloc_old _ _ _ hDlt).trans hD); have c2 : w2.cell? ⟨D, 1, none⟩ = some (.slice AQ q.length cQ) := (by simp [World.cell?, d2]); clear hb2 d2))
          refine bodyPost_ret (results_tmp2 rfl _ _ _) rfl ?_
          exact ⟨rfl, HW2.out⟩
        · rw [if_neg h3] at he; exact absurd rfl he
    · have t1 : ((n : Int) != 128) = true := bne_iff_ne.mpr (by omega)
      rw [if_pos h1]
      gi_wp2_with (first
        | (refine ⟨trivial, ?_⟩; gi_at_call 45; refine (callsIn_wide.2 (look_ok H1.out b)).mono ?_; rintro e w0 ⟨rfl, hw⟩; rw [e0, hw]; clear hw))
      refine bodyPost_ret (results_tmp2 rfl _ _ _) rfl ?_
      exact ⟨rfl, HW.out⟩
  · have e0 : (if 0 ≤ b ∧ b < (bl.length : Int) then (0 : Int) else 1) = 1 := if_neg h0
    rw [if_pos h0]
    gi_wp2_with (first
      | (refine ⟨trivial, ?_⟩; gi_at_call 45; refine (callsIn_wide.2 (look_ok H1.out b)).mono ?_; rintro e w0 ⟨rfl, hw⟩; rw [e0, hw]; clear hw))
    refine bodyPost_ret (results_tmp2 rfl _ _ _) rfl ?_
    exact ⟨rfl, HW.out⟩
set_option maxRecDepth 100000 in
set_option maxHeartbeats 8000000 in
theorem write_full {W : World} {base D m : Nat} {S : Nat → Prop} {bl : List (List Int)} {q : List S49} {mo : Obj} {last : Int} (h : IsDk W base D m S bl q mo last) (b : Int) (A : Option Addr) (c : Nat) (x : List Int) (hx128 : x.length = 128) (hc : 128 ≤ c) (hC : ∀ W', Kept S W W' → Kd.C (Kd.int .u8) W' A x.length x) (he : wrE bl q b 128 = 0) (hlast : last + 1 < 1000000000000000000) :
    Calls Try.prog 22 #[.pointer (some ⟨D, 0, none⟩), .int .i64 b, .slice A 128 c] W fun e W' => e = .returned (.tuple #[.int .i64 (last + 1), .int .i64 0]) ∧ IsDk W' base D m (fun k => S k ∨ (W.heap.size ≤ k ∧ k < W'.heap.size)) bl (q ++ [⟨last + 1, b, x⟩]) mo (last + 1) ∧ Kept S W W' := by
  have hq64 := h.fits.queue
  have hDlt : D < W.heap.size := (h.low D h.inD).2
  have hq6 : q.length ≤ 1000000 := by omega
  have hDs : D < (W.alloc (.cells #[.int .i64 b] 3)).heap.size := by simp; omega
  have hXs : W.heap.size < (W.alloc (.cells #[.int .i64 b] 3)).heap.size := by simp
  have H1 := Aside0.mk (h.below (below_alloc (Below.refl W.heap.size W) (.cells #[.int .i64 b] 3)))
  obtain ⟨hf, ⟨vB, vQ, hD, hB, hQ⟩, hm, hmm, hSD, hSm, hlow⟩ := h
  have hD1 : (W.alloc (.cells #[.int .i64 b] 3)).heap[D]? = _ := (heap_alloc_old _ _ _ hDlt).trans hD
  have hX1 : (W.alloc (.cells #[.int .i64 b] 3)).heap[W.heap.size]? = some (.cells #[.int .i64 b] 3 (0, 0)) := World.alloc_heap_new _ _
  have cb : (W.alloc (.cells #[.int .i64 b] 3)).cell? ⟨W.heap.size, 0, none⟩ = some (.int .i64 b) := by simp only [World.cell?, hX1]; rfl
  have c1 : (W.alloc (.cells #[.int .i64 b] 3)).cell? ⟨D, 1, none⟩ = some vQ := by simp only [World.cell?, hD1]; rfl
  have HQ1 := Aside0.mk (Kd.R_alloc hQ (.cells #[.int .i64 b] 3))
  obtain ⟨h0, h2, h3⟩ : (0 ≤ b ∧ b < bl.length) ∧ ¬ 0 ≤ ixL (fun x : S49 => x.f1 == b) q 0 ∧ ¬ 64 ≤ q.length := by
    unfold wrE at he
    split at he
    · exact absurd he (by decide)
    · next h0 =>
      rw [if_neg (by decide)] at he
      split at he
      · exact absurd he (by decide)
      · next h2 =>
        split at he
        · exact absurd he (by decide)
        · next h3 => exact ⟨Decidable.not_not.1 h0, h2, h3⟩
  have hvQlt : ∀ k, vQ.ownBlock = some k → k < W.heap.size := fun k hk => Kd.R_lt hQ k hk
  have hvQS : ∀ k, vQ.ownBlock = some k → S k := hQ.1
  have hDQ : some D ≠ vQ.ownBlock := Kd.R_ne hQ hD (by decide)
  have hmQ : some m ≠ vQ.ownBlock := fun e => by
    obtain ⟨cells, hcc⟩ := Kd.R_typed hQ m e.symm
    obtain ⟨es, cc, rfl⟩ := hmm
    rw [hm] at hcc; simp at hcc
  have hmD : m ≠ D := fun e => by obtain ⟨es, c, rfl⟩ := hmm; rw [e, hD] at hm; simp at hm
  have HBB := Aside0.mk (Kd.R_apart' (Kd.R_types hB hD (by decide)) (Kd.R_typed hQ) (by decide))
  have HQQ := Aside0.mk (Kd.R_types hQ hD (by decide))
  obtain ⟨AQ, cQ, hvQ⟩ := Kd.R_slice hQ
  have e0 : (if 0 ≤ b ∧ b < (bl.length : Int) then (0 : Int) else 1) = 0 := if_pos h0
  have t2 : decide (0 ≤ ixL (fun x : S49 => x.f1 == b) q 0) = false := decide_eq_false h2
  have t3 : decide ((64 : Int) ≤ (q.length : Int)) = false := decide_eq_false (by omega)
  have ew : wrap64 (last + 1) = last + 1 := IntWalk.wrap64_in _ (by have := hf.low; omega)
  have HW := Aside0.mk (below_alloc (Below.refl W.heap.size W) (.cells #[.int .i64 b] 3))
  have hlow0 := hf.low
  clear hB hQ hD1 hX1
  rw [hvQ] at c1 HQ1
  have HB00 := Aside0.mk (And.intro h0 (And.intro h3 hlast))
  clear h0 h3 hlast
  have HALL := Aside0.mk (And.intro hvQ (And.intro hvQlt (And.intro hvQS (And.intro hDQ (And.intro hmQ (And.intro hmD (And.intro hC (And.intro hlow (And.intro hm (And.intro hmm (And.intro hf hD)))))))))))
  clear hvQ hvQlt hvQS hDQ hmQ hmD hC hlow hm hmm hf hD he h2 hlow0
  refine (callsIn_wide (n := 1)).1 ?_
  refine callsIn_of_wp Try.func22 rfl trivial ?_ rfl
  simp only [Try.ntmps22, List.size_toArray, List.length_cons, List.length_nil, Nat.reduceAdd, Nat.reduceSub, Array.replicate_succ, Array.replicate_zero, List.push_toArray, List.append_toArray, List.nil_append, List.cons_append]
  gi_wp2_with (first
    | (refine ⟨trivial, ?_⟩; gi_at_call 45; refine (callsIn_wide.2 (look_ok H1.out b)).mono ?_; rintro e w0 ⟨rfl, hw⟩; rw [e0, hw]; clear hw)
    | (refine ⟨trivial, ?_⟩; gi_at_call 46; refine (callsIn_wide.2 (containsBl W.heap.size b AQ cQ q _ (Kd.R_reads' HQ1.out).2.2 hq6 cb)).mono ?_; rintro e w2 ⟨rfl, hb2⟩; have HW2 := Aside0.mk (below_step HW.out hb2); have D2 := Aside0.mk ((hb2.block D hDs).trans ((heap_alloc_old _ _ _ hDlt).trans HALL.out.2.2.2.2.2.2.2.2.2.2.2)); have X2 := Aside0.mk ((hb2.block W.heap.size hXs).trans (World.alloc_heap_new _ _)); have c2 : w2.cell? ⟨D, 1, none⟩ = some (.slice AQ q.length cQ) := (by have := HALL.out.1; simp [World.cell?, D2.out, this]); have c3 : w2.cell? ⟨D, 3, none⟩ = some (.int .i64 last) := (by simp [World.cell?, D2.out]); have f3 : w2.frozen? ⟨D, 3, none⟩ = false := (by simp [World.frozen?, D2.out]); clear hb2))
  clear ew
  obtain ⟨hvQ, hvQlt, hvQS, hDQ, hmQ, hmD, hC, hlow, hm, hmm, hf, hD⟩ := HALL.out
  subst hvQ
  obtain ⟨h0, h3, hlast⟩ := HB00.out
  have hlow0 := hf.low
  have hD3 : (w2.setCell ⟨D, 3, none⟩ (.int .i64 (last + 1))).heap[D]? = some (.cells #[vB, .slice AQ q.length cQ, .map (some m), .int .i64 (last + 1)] 70 (0, 0)) := Go.Proofs.Ytlkijnnoalfblaa.Nb.set_heap D2.out _
  have hX3 : (w2.setCell ⟨D, 3, none⟩ (.int .i64 (last + 1))).heap[W.heap.size]? = some (.cells #[.int .i64 b] 3 (0, 0)) := (Below.heap_setCell w2 ⟨D, 3, none⟩ _ _ (by simp; omega)).trans X2.out
  have hk3 : ∀ j, j < W.heap.size → j ≠ D → (w2.setCell ⟨D, 3, none⟩ (.int .i64 (last + 1))).heap[j]? = W.heap[j]? := fun j hj hn => (Below.heap_setCell w2 ⟨D, 3, none⟩ _ j hn).trans (HW2.out.block j hj)
  have hs3 : W.heap.size < (w2.setCell ⟨D, 3, none⟩ (.int .i64 (last + 1))).heap.size := (Array.getElem?_eq_some_iff.1 hX3).1
  have hK3 : Kept S W (w2.setCell ⟨D, 3, none⟩ (.int .i64 (last + 1))) := ⟨HW2.out.os, HW2.out.tape, HW2.out.output, Nat.le_of_lt hs3, fun j hj hn => hk3 j hj (fun e => hn (e ▸ hSD))⟩
  generalize w2.setCell ⟨D, 3, none⟩ (.int .i64 (last + 1)) = W3 at *
  have hbd : Below W3.heap.size W3 W3.drew := below_drew (Below.refl _ _)
  have hK3d : Kept S W W3.drew := hK3.trans (Kept.of_below (S := S) hbd) (fun j hj => .inl hj)
  have hsd : W3.drew.heap.size = W3.heap.size := rfl
  have hcl : Calls Try.prog 39 #[.slice A 128 c] W3.drew (fun e w' => ∃ v0 : Value, e = .returned v0 ∧ Kd.R (Kd.int .u8) 5 w' W3.drew.heap.size (fun _ => True) v0 x ∧ Below W3.drew.heap.size W3.drew w') := by
    have := bytes_Clone.calls A c x x W3.drew (hC _ hK3d) (by omega) (by unfold bytes_Clone.f; rw [if_pos (by omega)])
    rw [hx128] at this
    exact this
  have hD3d : W3.drew.heap[D]? = some (.cells #[vB, .slice AQ q.length cQ, .map (some m), .int .i64 (last + 1)] 70 (0, 0)) := hD3
  have hX3d : W3.drew.heap[W.heap.size]? = some (.cells #[.int .i64 b] 3 (0, 0)) := hX3
  have hD3lt : D < W3.drew.heap.size := by omega
  have hX3lt : W.heap.size < W3.drew.heap.size := by omega
  have hQ3d : Kd.R k49 49 W3.drew base (fun k => k ≠ D ∧ (S k ∨ W.heap.size ≤ k)) (.slice AQ q.length cQ) q := Kd.R_mono (Kd.R_step HQQ.out (fun j hj hlt => (hk3 j hlt hj.2 : W3.heap[j]? = W.heap[j]?))) (fun j hj => ⟨hj.2, .inl hj.1⟩)
  have hbase3 : base ≤ W3.drew.heap.size := by have := (hlow D hSD).1; omega
  have y1 : W3.drew.cell? ⟨D, 1, none⟩ = some (.slice AQ q.length cQ) := show W3.cell? _ = _ by simp [World.cell?, hD3]
  have y3 : W3.drew.cell? ⟨D, 3, none⟩ = some (.int .i64 (last + 1)) := show W3.cell? _ = _ by simp [World.cell?, hD3]
  have yb : W3.drew.cell? ⟨W.heap.size, 0, none⟩ = some (.int .i64 b) := show W3.cell? _ = _ by simp [World.cell?, hX3]
  have HK3 := Aside0.mk hK3d
  have HC := Aside0.mk hC
  clear hC hK3 hK3d hbd
  refine wpIn_wide.2 ?_
  refine start_ (n := 18) (S := fun w' => w'.cell? ⟨D, 1, none⟩ = some (.slice AQ q.length cQ) ∧ w'.cell? ⟨D, 3, none⟩ = some (.int .i64 (last + 1)) ∧ w'.cell? ⟨W.heap.size, 0, none⟩ = some (.int .i64 b)) (ds := [17]) #[false, false, false, false, false, false, false, false, false, false, false, false, false, false, false, false, false, false] (by kernel_rfl) rfl rfl ⟨y1, y3, yb⟩ (fun hHeld => ?_)
  refine pure_ (i := 0) (N := some 40) (v := ?_) (a' := ?_) #[true, false, false, false, false, false, false, false, false, false, false, false, false, false, false, false, false, false] rfl rfl (by kernel_rfl) (fun _ _ _ h => h) (Or.inl ⟨by rfl, ?_⟩) ?_ ?_
  rotate_left
  · intro w'
    go_simp
    with_reducible rfl
  rotate_left
  · simp only [Act.put, List.setIfInBounds_toArray, List.set_cons_zero, List.set_cons_succ, i64_w, i32_w]
    rfl
  refine pure_ (i := 1) (N := some 41) (v := ?_) (a' := ?_) #[true, true, false, false, false, false, false, false, false, false, false, false, false, false, false, false, false, false] rfl rfl (by kernel_rfl) (fun _ _ _ h => h) (Or.inl ⟨by rfl, ?_⟩) ?_ ?_
  rotate_left
  · intro w'
    go_simp
    with_reducible rfl
  rotate_left
  · simp only [Act.put, List.setIfInBounds_toArray, List.set_cons_zero, List.set_cons_succ, i64_w, i32_w]
    rfl
  refine pure_ (i := 2) (N := some 42) (v := ?_) (a' := ?_) #[true, true, true, false, false, false, false, false, false, false, false, false, false, false, false, false, false, false] rfl rfl (by kernel_rfl) (fun _ _ _ h => h) (Or.inl ⟨by rfl, ?_⟩) ?_ ?_
  rotate_left
  · intro w'
    go_simp
    with_reducible rfl
  rotate_left
  · simp only [Act.put, List.setIfInBounds_toArray, List.set_cons_zero, List.set_cons_succ, i64_w, i32_w]
    rfl
  refine pure_ (i := 3) (N := some 43) (v := ?_) (a' := ?_) #[true, true, true, true, false, false, false, false, false, false, false, false, false, false, false, false, false, false] rfl rfl (by kernel_rfl) (fun _ _ _ h => h) (Or.inl ⟨by rfl, ?_⟩) ?_ ?_
  rotate_left
  · intro w'
    go_simp
    with_reducible rfl
  rotate_left
  · simp only [Act.put, List.setIfInBounds_toArray, List.set_cons_zero, List.set_cons_succ, i64_w, i32_w]
    rfl
  refine pure_ (i := 5) (N := some 45) (v := ?_) (a' := ?_) #[true, true, true, true, false, true, false, false, false, false, false, false, false, false, false, false, false, false] rfl rfl (by kernel_rfl) (fun _ _ _ h => h) (Or.inl ⟨by rfl, ?_⟩) ?_ ?_
  rotate_left
  · intro w'
    go_simp
    with_reducible rfl
  rotate_left
  · simp only [Act.put, List.setIfInBounds_toArray, List.set_cons_zero, List.set_cons_succ, i64_w, i32_w]
    rfl
  refine pure_ (i := 6) (N := some 46) (v := ?_) (a' := ?_) #[true, true, true, true, false, true, true, false, false, false, false, false, false, false, false, false, false, false] rfl rfl (by kernel_rfl) (fun _ _ _ h => h) (Or.inl ⟨by rfl, ?_⟩) ?_ ?_
  rotate_left
  · intro w'
    go_simp
    with_reducible rfl
  rotate_left
  · simp only [Act.put, List.setIfInBounds_toArray, List.set_cons_zero, List.set_cons_succ, i64_w, i32_w]
    rfl
  refine pure_ (i := 7) (N := some 47) (v := ?_) (a' := ?_) #[true, true, true, true, false, true, true, true, false, false, false, false, false, false, false, false, false, false] rfl rfl (by kernel_rfl) (fun _ _ _ h => h) (Or.inl ⟨by rfl, ?_⟩) ?_ ?_
  rotate_left
  · intro w'
    go_simp
    with_reducible rfl
  rotate_left
  · simp only [Act.put, List.setIfInBounds_toArray, List.set_cons_zero, List.set_cons_succ, i64_w, i32_w]
    rfl
  refine pure_ (i := 10) (N := some 50) (v := ?_) (a' := ?_) #[true, true, true, true, false, true, true, true, false, false, true, false, false, false, false, false, false, false] rfl rfl (by kernel_rfl) (fun _ _ _ h => h) (Or.inl ⟨by rfl, ?_⟩) ?_ ?_
  rotate_left
  · intro w'
    go_simp
    with_reducible rfl
  rotate_left
  · simp only [Act.put, List.setIfInBounds_toArray, List.set_cons_zero, List.set_cons_succ, i64_w, i32_w]
    rfl
  refine take_ (i := 4) (N := some 44) (v := ?_) (a' := ?_) #[true, true, true, true, true, true, true, true, false, false, true, false, false, false, false, false, false, false] rfl rfl (by kernel_rfl) (fun _ _ _ h => h) (Or.inl ⟨by rfl, ?_⟩) hHeld ?_ ?_
  rotate_left
  · rintro w' ⟨s0, s1, s2⟩
    go_simp
    with_reducible rfl
  rotate_left
  · simp only [Act.put, List.setIfInBounds_toArray, List.set_cons_zero, List.set_cons_succ, i64_w, i32_w]
    rfl
  refine take_ (i := 8) (N := some 48) (v := ?_) (a' := ?_) #[true, true, true, true, true, true, true, true, true, false, true, false, false, false, false, false, false, false] rfl rfl (by kernel_rfl) (fun _ _ _ h => h) (Or.inl ⟨by rfl, ?_⟩) hHeld ?_ ?_
  rotate_left
  · rintro w' ⟨s0, s1, s2⟩
    go_simp
    with_reducible rfl
  rotate_left
  · simp only [Act.put, List.setIfInBounds_toArray, List.set_cons_zero, List.set_cons_succ, i64_w, i32_w]
    rfl
  refine take_ (i := 9) (N := some 49) (v := ?_) (a' := ?_) #[true, true, true, true, true, true, true, true, true, true, true, false, false, false, false, false, false, false] rfl rfl (by kernel_rfl) (fun _ _ _ h => h) (Or.inl ⟨by rfl, ?_⟩) hHeld ?_ ?_
  rotate_left
  · rintro w' ⟨s0, s1, s2⟩
    go_simp
    with_reducible rfl
  rotate_left
  · simp only [Act.put, List.setIfInBounds_toArray, List.set_cons_zero, List.set_cons_succ, i64_w, i32_w]
    rfl
  refine one_ (i := 11) (N := some 51) #[true, true, true, true, true, true, true, true, true, true, true, true, false, false, false, false, false, false] rfl rfl (by kernel_rfl) (by decide) (fun K hK => ?_)
  refine goes_ Try.func39 (by kernel_rfl) rfl #[.slice A 128 c] (by rfl) rfl rfl (by simp only [List.map_toArray, List.map_cons, List.map_nil]; rfl) ?_
  with_reducible refine (hcl).mono ?_
  rintro e w4 ⟨v0, rfl, hr1, hb1⟩
  refine ⟨_, rfl, ?_⟩
  obtain ⟨A1, c1, hv0⟩ := Kd.R_slice hr1
  rw [hx128] at hv0
  subst hv0
  have HD4 := Aside0.mk ((hb1.block D hD3lt).trans hD3d)
  have HX4 := Aside0.mk ((hb1.block W.heap.size hX3lt).trans hX3d)
  have HR4 := Aside0.mk hr1
  have HQ4 := Aside0.mk (Kd.R_below hQ3d hb1)
  have HB4 := Aside0.mk hb1
  clear hr1 hb1
  refine hK.out _ _ ⟨(show w4.cell? ⟨D, 1, none⟩ = _ by simp [World.cell?, HD4.out]), (show w4.cell? ⟨D, 3, none⟩ = _ by simp [World.cell?, HD4.out]), (show w4.cell? ⟨W.heap.size, 0, none⟩ = _ by simp [World.cell?, HX4.out])⟩ (fun hHeld => ?_)
  clear hK K
  refine norm_ (a' := ?_) ?_ ?_
  rotate_left
  · show Act.put _ (some 51) _ = _
    simp only [Act.put, List.setIfInBounds_toArray, List.set_cons_zero, List.set_cons_succ, i64_w, i32_w]
    rfl
  refine pure_ (i := 12) (N := some 52) (v := ?_) (a' := ?_) #[true, true, true, true, true, true, true, true, true, true, true, true, true, false, false, false, false, false] rfl rfl (by kernel_rfl) (fun _ _ _ h => h) (Or.inl ⟨by rfl, ?_⟩) ?_ ?_
  rotate_left
  · intro w'
    go_simp
    with_reducible rfl
  rotate_left
  · simp only [Act.put, List.setIfInBounds_toArray, List.set_cons_zero, List.set_cons_succ, i64_w, i32_w]
    rfl
  refine one_ (i := 13) (N := some 53) #[true, true, true, true, true, true, true, true, true, true, true, true, true, true, false, false, false, false] rfl rfl (by kernel_rfl) (by decide) (fun K hK => ?_)
  refine value_ (w1 := ?_) (v := ?_) (by rfl) rfl ?_ ?_
  rotate_left 2
  · go_simp
    constructor
    · rfl
    · rfl
  refine hK.out _ _ ⟨(show (w4.alloc (.cells #[.int .i64 (last + 1), .int .i64 b, .slice A1 128 c1] 49)).cell? ⟨D, 1, none⟩ = _ by simp [World.cell?, heap_alloc_old _ _ _ (show D < w4.heap.size by have := HB4.out.size; omega), HD4.out]), (show (w4.alloc (.cells #[.int .i64 (last + 1), .int .i64 b, .slice A1 128 c1] 49)).cell? ⟨D, 3, none⟩ = _ by simp [World.cell?, heap_alloc_old _ _ _ (show D < w4.heap.size by have := HB4.out.size; omega), HD4.out]), (show (w4.alloc (.cells #[.int .i64 (last + 1), .int .i64 b, .slice A1 128 c1] 49)).cell? ⟨W.heap.size, 0, none⟩ = _ by simp [World.cell?, heap_alloc_old _ _ _ (show W.heap.size < w4.heap.size by have := HB4.out.size; omega), HX4.out])⟩ (fun hHeld => ?_)
  clear hK K
  refine norm_ (a' := ?_) ?_ ?_
  rotate_left
  · show Act.put _ (some 53) _ = _
    simp only [Act.put, List.setIfInBounds_toArray, List.set_cons_zero, List.set_cons_succ, i64_w, i32_w]
    rfl
  refine one_ (i := 14) (N := some 54) #[true, true, true, true, true, true, true, true, true, true, true, true, true, true, true, false, false, false] rfl rfl (by kernel_rfl) (by decide) (fun K hK => ?_)
  refine Kd.R_append_step k49 (w0 := W3.drew) base (by rfl) (.tmp 44) (.tmp 53) 31 49 _ _ rfl Try.underlying31 info49 rfl (by decide) (by decide) (.slice AQ q.length cQ) q ⟨last + 1, b, x⟩ [_, _, _] (fun k => k ≠ D ∧ (S k ∨ W.heap.size ≤ k)) (fun k => W3.drew.heap.size ≤ k) rfl rfl (k49_mkM _ _ _ ⟨last + 1, b, x⟩ (Kd.R_mono (Kd.R_lower (Kd.R_bound HR4.out) hbase3) (fun k hk => hk.2.1))) ?okp ?fresh HQ4.out ?below ?base ?room ?_
  case okp => exact fun k hk => ⟨⟨fun e => by omega, .inr (by omega)⟩, fun e => by have := hvQlt k e.symm; omega⟩
  case fresh => exact fun k hk => by have := HB4.out.size; exact ⟨fun e => by omega, .inr (by omega)⟩
  case below => exact ⟨HB4.out.os, HB4.out.tape, HB4.out.output, HB4.out.size, fun k hk => HB4.out.block k (by omega)⟩
  case base => have := HB4.out.size; omega
  case room => omega
  intro v5 w5 hr5 hb5 hg5 ht5
  obtain ⟨ad5, cp5, rfl⟩ := Kd.R_slice1 hr5 (by simp)
  have HD5 := Aside0.mk ((hg5.block D (by have := HB4.out.size; omega) (fun e => hDQ e)).trans HD4.out)
  have HX5 := Aside0.mk ((hg5.block W.heap.size (by have := HB4.out.size; omega) (fun e => by have := hvQlt _ e.symm; omega)).trans HX4.out)
  have HR5 := Aside0.mk hr5
  have HG5 := Aside0.mk hg5
  have c5 : w5.cell? ⟨D, 1, none⟩ = some (.slice AQ q.length cQ) := (by simp [World.cell?, HD5.out])
  have f5 : w5.frozen? ⟨D, 1, none⟩ = false := (by simp [World.frozen?, HD5.out])
  clear hr5 hb5 hg5 ht5
  refine hK.out _ _ ⟨(show w5.cell? ⟨D, 1, none⟩ = _ by simp [World.cell?, HD5.out]), (show w5.cell? ⟨D, 3, none⟩ = _ by simp [World.cell?, HD5.out]), (show w5.cell? ⟨W.heap.size, 0, none⟩ = _ by simp [World.cell?, HX5.out])⟩ (fun hHeld => ?_)
  clear hK K
  refine norm_ (a' := ?_) ?_ ?_
  rotate_left
  · show Act.put _ (some 54) _ = _
    simp only [Act.put, List.setIfInBounds_toArray, List.set_cons_zero, List.set_cons_succ, i64_w, i32_w]
    rfl
  refine pure_ (i := 15) (N := some 55) (v := ?_) (a' := ?_) #[true, true, true, true, true, true, true, true, true, true, true, true, true, true, true, true, false, false] rfl rfl (by kernel_rfl) (fun _ _ _ h => h) (Or.inl ⟨by rfl, ?_⟩) ?_ ?_
  rotate_left
  · intro w'
    go_simp
    with_reducible rfl
  rotate_left
  · simp only [Act.put, List.setIfInBounds_toArray, List.set_cons_zero, List.set_cons_succ, i64_w, i32_w]
    rfl
  refine pure_ (i := 16) (N := some 56) (v := ?_) (a' := ?_) #[true, true, true, true, true, true, true, true, true, true, true, true, true, true, true, true, true, false] rfl rfl (by kernel_rfl) (fun _ _ _ h => h) (Or.inl ⟨by rfl, ?_⟩) ?_ ?_
  rotate_left
  · intro w'
    go_simp
    with_reducible rfl
  rotate_left
  · simp only [Act.put, List.setIfInBounds_toArray, List.set_cons_zero, List.set_cons_succ, i64_w, i32_w]
    rfl
  refine last_ (i := 17) (N := none) #[true, true, true, true, true, true, true, true, true, true, true, true, true, true, true, true, true, true] rfl rfl (by kernel_rfl) (by decide) (fun K hK => ?_)
  refine skip_ (w1 := ?_) (by rfl) rfl ?_ ?_
  rotate_left
  · go_simp
    rfl
  refine hK.out _ _ ?_
  clear hK K
  refine done_ (by kernel_rfl) ?_

  have hR5 := HR5.out
  rw [List.length_append, List.length_singleton] at hR5
  have hD6 := Go.Proofs.Ytlkijnnoalfblaa.Nb.set_heap HD5.out (o := 1) (.slice (some ad5) (q.length + 1) cp5)
  have hs6 : (w5.setCell ⟨D, 1, none⟩ (.slice (some ad5) (q.length + 1) cp5)).heap.size = w5.heap.size := by simp [World.setCell]
  have hk6 : ∀ j, j < W.heap.size → j ≠ D → some j ≠ (Value.slice AQ q.length cQ).ownBlock → (w5.setCell ⟨D, 1, none⟩ (.slice (some ad5) (q.length + 1) cp5)).heap[j]? = W.heap[j]? := fun j hj h1 h2 =>
    (Below.heap_setCell w5 ⟨D, 1, none⟩ _ j h1).trans ((HG5.out.block j (by have := HB4.out.size; omega) h2).trans ((HB4.out.block j (by omega)).trans (hk3 j hj h1)))
  have hQ6 := Kd.R_far (Kd.R_bound hR5) (p := ⟨D, 1, none⟩) (fun j hj => hj.1.1) (.slice (some ad5) (q.length + 1) cp5)
  have hsz6 : W.heap.size ≤ w5.heap.size := by have := HB4.out.size; have := HG5.out.size; omega
  have hK6 : Kept S W (w5.setCell ⟨D, 1, none⟩ (.slice (some ad5) (q.length + 1) cp5)) := ⟨HG5.out.os.trans (HB4.out.os.trans HK3.out.os), HG5.out.tape.trans (HB4.out.tape.trans HK3.out.tape), HG5.out.output.trans (HB4.out.output.trans HK3.out.output), by rw [hs6]; exact hsz6, fun j hj hn => hk6 j hj (fun e => hn (e ▸ hSD)) (fun e => hn (hvQS j e.symm))⟩
  have c63 : (w5.setCell ⟨D, 1, none⟩ (.slice (some ad5) (q.length + 1) cp5)).cell? ⟨D, 3, none⟩ = some (.int .i64 (last + 1)) := by simp [World.cell?, hD6]
  generalize w5.setCell ⟨D, 1, none⟩ (.slice (some ad5) (q.length + 1) cp5) = W6 at *
  have HK6 := Aside0.mk hK6
  have HH6 := Aside0.mk (And.intro hD6 (And.intro hk6 hQ6))
  clear hK6 hD6 hk6 hQ6
  gi_wp2
  refine bodyPost_ret (results_tmp2 rfl _ _ _) rfl ?_
  obtain ⟨hD6, hk6, hQ6⟩ := HH6.out
  refine ⟨rfl, ⟨⟨hf.some, hf.most, hf.each, by rw [List.length_append, List.length_singleton]; omega, fun s hs => ?_, fun s hs => ?_, by show 0 ≤ last + 1; omega, hlast⟩, ⟨vB, _, hD6, Kd.R_mono (Kd.R_step HBB.out (fun j hj hlt => hk6 j hlt hj.1.2 hj.2)) (fun j hj => .inl hj.1.1), Kd.R_mono hQ6 (fun j hj => ?_)⟩, (hk6 m (hlow m hSm).2 hmD hmQ).trans hm, hmm, .inl hSD, .inl hSm, fun j hj => ?_⟩, HK6.out⟩
  · rcases List.mem_append.1 hs with hs | hs
    · exact hf.sent s hs
    · rw [List.mem_singleton.1 hs]; exact hx128
  · rcases List.mem_append.1 hs with hs | hs
    · exact hf.in_ s hs
    · rw [List.mem_singleton.1 hs]; exact HB00.out.1
  · rcases hj.1.2 with h | h
    · exact .inl h
    · exact .inr ⟨h, by have := hj.2.2.1; omega⟩
  · rcases hj with h | h
    · exact ⟨(hlow j h).1, by have := (hlow j h).2; omega⟩
    · exact ⟨by have := (hlow D hSD).1; omega, h.2⟩
end Go.Proofs.Ytlkijnnoalfblaa.Dk

namespace Go.Proofs.Ytlkijnnoalfblaa.Ap
open Go Go.RowKit Go.Shelf Go.Proofs Go.Proofs.YtlkijnnoalfblaaW.PrintWords Go.Proofs.YtlkijnnoalfblaaW.PrintLast Go.Proofs.YtlkijnnoalfblaaW.PrintMore
set_option linter.unusedVariables false
set_option linter.unusedSimpArgs false
section
variable {P : Program}
theorem wpListIn_append_run {F : Fence} {n : Nat} (w : World) {ops : Array Oper} {rest : List Oper} {o : Oper} {a : Act} {Q : Exit → Act → World → Prop} (hg : o.guard = none) (s x : Operand) (ts : Array TypeId)
    (hop : o.op = Op.call { callee := Callee.builtin Builtin.append, args := #[s, x], argTypes := ts }) (u y : Value) (hs : a.eval s = u) (hx : a.eval x = y) (v1 : Value) (w1 : World) (hrun : (Builtin.append_ ts o.type #[u, y]).run P w = .ok v1 w1)
    (h : wpListIn F n P ops Q rest (a.put o.dst v1) w1) : wpListIn F n P ops Q (o :: rest) a w := by
  refine wpListIn_plain hg fun K hK' => ?_
  unfold Oper.wpIn
  refine ⟨?_, ?_⟩
  · simp [Oper.about, hop, resolve, Target.leads, Sem.run_pure]
  · rw [Oper.semAt_plain F _ _ (by rw [hop]; intro c hc'; cases hc')]
    simp [execOp, hop, resolve, invoke, builtin, hs, hx, hrun, Result.andThen]
    exact hK' _ _ h
theorem run_append_one {α : Type} (d : Kd α) {W : World} (base : Nat) (t ty e : TypeId) (z : Value) (bytes : Nat)
    (ht : P.underlying t = some (.slice e)) (hinfo : (P.info? e).map (fun i => (i.zero, i.size, i.bytes)) = some (some z, d.sz, bytes)) (hz : z.cells.size = d.sz) (hs0 : 0 < d.sz) (hb0 : 0 < bytes)
    (v : Value) (xs : List α) (p : α) (cs : List Value) (ok okp : Nat → Prop) (hp : d.M W base okp p cs) (hokp : ∀ k, okp k → ok k ∧ some k ≠ v.ownBlock) (hfresh : ∀ k, W.heap.size ≤ k → ok k)
    (HO : d.R e W base ok v xs) (hbase : base ≤ W.heap.size) (hl : (xs.length + 1) * bytes ≤ 140737488355328) :
    ∃ v1 w1, (Builtin.append_ #[t, t] ty #[v, .slice (some ⟨W.heap.size, 0, none⟩) 1 1]).run P (W.alloc (.cells cs.toArray e)) = .ok v1 w1 ∧ d.R e w1 base ok v1 (xs ++ [p]) ∧ W.grownBy w1 v.ownBlock ∧ (v1.ownBlock = v.ownBlock ∨ ∃ b, v1.ownBlock = some b ∧ W.heap.size ≤ b) := by
  obtain ⟨h0, inner, hown, hr⟩ := HO
  obtain ⟨i0, hi, hzz⟩ := Option.map_eq_some_iff.1 hinfo
  simp only [Prod.mk.injEq] at hzz
  obtain ⟨hz0, hz1, hz2⟩ := hzz
  have hlen : xs.length + 1 ≤ 140737488355328 := Nat.le_trans (Nat.le_mul_of_pos_right _ hb0) hl
  obtain ⟨v1, w1, hrun, hown1, hg, _, hat⟩ := run_append_own_at (P := P) (W.alloc (.cells cs.toArray e)) base t ty e i0 z d.sz bytes ht hi hz0 hz1 hz2 hz hs0 v xs.length inner (hown.alloc _) ⟨W.heap.size, 0, none⟩ 1 1 cs (by rw [d.K_len (d.K_of_M hp)]; simp)
    (by simpa using World.news_of_block (cs := cs.toArray) (t := e) (fr := (0, 0)) (heap_alloc_new W (.cells cs.toArray e))) (d.K_one (d.K_of_M hp)) (by simp only [maxLen]; omega) hl (by simp; omega)
  have hg1 : W.grownBy w1 v.ownBlock := World.grownBy.trans (World.grownBy_alloc W _ _) hg
  have hat1 : v1.ownBlock = v.ownBlock ∨ ∃ b, v1.ownBlock = some b ∧ W.heap.size ≤ b := by
    rcases hat with hat | hat
    · exact .inl hat
    · exact .inr ⟨_, hat, by simp⟩
  exact ⟨v1, w1, hrun, Kd.R_appended h0 hr hp hokp hfresh hown1 hg1 hat1, hg1, hat1⟩
theorem run_append_bytes {W : World} (base : Nat) (t ty e : TypeId) (k : IntKind) (z : Int) (bytes : Nat)
    (ht : P.underlying t = some (.slice e)) (hinfo : (P.info? e).map (fun i => (i.zero, i.size, i.bytes)) = some (some (.int k z), 1, bytes)) (hb0 : 0 < bytes)
    (v : Value) (xs : List Int) (ok : Nat → Prop) (hfresh : ∀ k, W.heap.size ≤ k → ok k) (HO : (Kd.int k).R e W base ok v xs) (A : Option Addr) (c : Nat) (ys : List Int) (hC : Kd.C (Kd.int k) W A ys.length ys) (hbase : base ≤ W.heap.size) (hl : (xs.length + ys.length) * bytes ≤ 140737488355328) :
    ∃ v1 w1, (Builtin.append_ #[t, t] ty #[v, .slice A ys.length c]).run P W = .ok v1 w1 ∧ (Kd.int k).R e w1 base ok v1 (xs ++ ys) ∧ W.grownBy w1 v.ownBlock ∧ (v1.ownBlock = v.ownBlock ∨ ∃ b, v1.ownBlock = some b ∧ W.heap.size ≤ b) := by
  have hown := Kd.own_of_R HO
  obtain ⟨i0, hi, hzz⟩ := Option.map_eq_some_iff.1 hinfo
  simp only [Prod.mk.injEq] at hzz
  obtain ⟨hz0, hz1, hz2⟩ := hzz
  have hlen : xs.length + ys.length ≤ 140737488355328 := Nat.le_trans (Nat.le_mul_of_pos_right _ hb0) hl
  have hY : ReadsOf (Value.int k) 0 W A ys.length ys := Kd.reads_of_C hC
  cases A with
  | none =>
    have hn : ys = [] := by
      by_cases h : 0 < ys.length
      · obtain ⟨_, e, _⟩ := hC.2.2 h; cases e
      · exact List.eq_nil_of_length_eq_zero (by omega)
    subst hn
    have hr : (Builtin.append_ #[t, t] ty #[v, .slice none 0 c]).run P W = .ok v W := by
      rcases hown.2 with ⟨rfl, _⟩ | ⟨g, cap, cur, rfl, _, _, hnc, _⟩
      · simp [Builtin.append_, run_underlying ht, sizeOf, typeInfo, hi, Builtin.lenOf, Builtin.firstCells]
      · simp [Builtin.append_, run_underlying ht, sizeOf, typeInfo, hi, Builtin.lenOf, Builtin.firstCells, hnc, storeCells]
    refine ⟨v, W, hr, ?_, ⟨rfl, rfl, rfl, Nat.le_refl _, fun _ _ _ => rfl⟩, .inl rfl⟩
    rw [List.append_nil]; exact HO
  | some ad =>
    obtain ⟨v1, w1, hrun, hown1, hg, _, hat⟩ := run_append_own_at (P := P) W base t ty e i0 (.int k z) 1 bytes ht hi hz0 hz1 hz2 rfl (by omega) v xs.length (encs (Value.int k) xs) hown ad ys.length c (encs (Value.int k) ys) (by rw [encs_length, Nat.mul_one])
      (fun j u hj => by
        have hlt : j < ys.length := by have := (List.getElem?_eq_some_iff.1 hj).1; rwa [encs_length] at this
        obtain ⟨ad', e, hc⟩ := hY.2.2 (by omega)
        injection e with e; subst e
        have hj2 : (encs (Value.int k) ys)[j]? = some (Value.int k (ys.getD j 0)) := encs_get ys j hlt
        rw [hj] at hj2; injection hj2 with hj2; rw [hj2]; exact hc j hlt)
      (fun u hu => by obtain ⟨x, _, rfl⟩ := List.mem_map.1 hu; rfl) (by simp only [maxLen]; omega) hl hbase
    have e1 : encs (Value.int k) xs ++ encs (Value.int k) ys = encs (Value.int k) (xs ++ ys) := by simp [encs]
    rw [e1, ← List.length_append] at hown1
    have hat1 : v1.ownBlock = v.ownBlock ∨ ∃ b, v1.ownBlock = some b ∧ W.heap.size ≤ b := by
      rcases hat with hat | hat
      · exact .inl hat
      · exact .inr ⟨_, hat, Nat.le_refl _⟩
    refine ⟨v1, w1, hrun, Kd.R_of_own hown1 (fun k hk => ?_), hg, hat1⟩
    rcases hat1 with h | ⟨b, h, hb⟩
    · exact HO.1 k (h ▸ hk)
    · rw [h] at hk; injection hk with hk; exact hfresh k (by omega)
theorem run_append_zeros {W : World} (t u ty e : TypeId) (k : IntKind) (z : Value) (bytes : Nat) (ht : P.underlying t = some (.slice e)) (hu : P.underlying u = some (.int .i64))
    (hinfo : (P.info? e).map (fun i => (i.zero, i.size, i.bytes)) = some (some z, 1, bytes)) (hz : z.cells.size = 1) (m : Nat) (h0 : 0 < m) (hm : m * bytes ≤ 140737488355328) (hb0 : 0 < bytes) :
    (Builtin.append_ #[t, u] ty #[.slice none 0 0, .int .i64 (m : Int)]).run P W = .ok (.slice (some ⟨W.heap.size, 0, none⟩) m (grownCap W m 0 e)) (W.drew.alloc (.cells (Builtin.zeroCells z.cells m ++ Builtin.zeroCells z.cells (grownCap W m 0 e - m)) e)) := by
  obtain ⟨i0, hi, hzz⟩ := Option.map_eq_some_iff.1 hinfo
  simp only [Prod.mk.injEq] at hzz
  obtain ⟨hz0, hz1, hz2⟩ := hzz
  have hlen : m ≤ 140737488355328 := Nat.le_trans (Nat.le_mul_of_pos_right _ hb0) hm
  have hw : IntKind.i64.wrap (m : Int) = (m : Int) := by rw [IntKind.wrap_i64]; omega
  have hn : m ≠ 0 := by omega
  have h1 : ¬ ((m : Int) < 0) := by omega
  have h2 : ¬ (281474976710656 < (m : Int) * (bytes : Int)) := by
    have : ((m * bytes : Nat) : Int) ≤ 140737488355328 := by omega
    rw [Int.natCast_mul] at this; omega
  have h3 : ¬ (9223372036854775807 < (m : Int)) := by omega
  have h4 : ¬ (281474976710656 < Builtin.nextslicecap m 0 * bytes) := by rw [nextslicecap_zero h0]; omega
  simp [Builtin.append_, run_underlying ht, run_underlying hu, sizeOf, typeInfo, zeroValue, hi, hz0, hz1, hz2, asInt, asIntOf, hw, hn, h1, h2, h3, h4, Builtin.lenOf, Question.forced, run_firstCells_none, newRow, grownCap]
end
end Go.Proofs.Ytlkijnnoalfblaa.Ap

namespace Go.Proofs.Ytlkijnnoalfblaa.Dk
open Go Go.RowKit Go.Shelf Go.Proofs Go.Maps Go.Proofs.Ytlkijnnoalfblaa.Sp Go.Proofs.Ytlkijnnoalfblaa.XFb Go.Proofs.YtlkijnnoalfblaaW.PrintWords Go.Proofs.YtlkijnnoalfblaaW.PrintLast Go.Proofs.YtlkijnnoalfblaaW.PrintMore
set_option linter.unusedVariables false
set_option linter.unusedSimpArgs false
/-- Block m is a map of whole numbers that reads as Dm. -/
abbrev Fz (w : World) (m n : Nat) (Dm : DataW Unit) : Prop := w.ownsMap Try.prog 3 (plainElem Try.prog 3) m n Dm
theorem Fz.at_ {w w' : World} {m n : Nat} {Dm : DataW Unit} (h : Fz w m n Dm) (hb : w'.heap[m]? = w.heap[m]?) : Fz w' m n Dm := by
  obtain ⟨es, clock, h1, r⟩ := h
  exact ⟨es, clock, hb.trans h1, r⟩
theorem alloc_new_of {n : Nat} {W X : World} (_ : Below n W X) (o : Obj) : (X.alloc o).heap[X.heap.size]? = some o := World.alloc_heap_new _ _
theorem heap_lt {W : World} {g : Nat} {o : Obj} (h : W.heap[g]? = some o) : g < W.heap.size := (Array.getElem?_eq_some_iff.1 h).1
theorem run_mk (W1 : World) : (Instr.makeMap 68 none).run Try.prog W1 = .ok (.map (some W1.heap.size)) (W1.alloc (.map #[] 0)) := rfl
theorem made_own {w : World} {b : Nat} (hb : w.heap[b]? = some (.map #[] 0)) (n : Nat) : Fz w b n (.map []) := by
  obtain ⟨es, clock, h1, h2, h3, h4⟩ := World.ownsMap_made w Try.prog 3 (plainElem (H := Unit) Try.prog 3)
  rw [World.alloc_heap_new] at h1
  cases h1
  exact ⟨#[], 0, hb, h2, Nat.zero_le _, h4⟩
theorem R_map {α : Type} {d : Kd α} {e base g : Nat} {ok : Nat → Prop} {w : World} {v : Value} {xs : List α} {n : Nat} {Dm : DataW Unit} (h : Kd.R d e w base ok v xs) (hm : Fz w g n Dm) : Kd.R d e w base (fun k => ok k ∧ k ≠ g) v xs :=
  Kd.R_mono (Kd.R_bound h) (fun k hk => ⟨hk.1, by
    obtain ⟨_, _, _, q, hq, cells, hc⟩ := hk
    rintro rfl
    obtain ⟨es, clock, h1, _⟩ := hm
    rw [h1] at hc
    cases hc⟩)
set_option maxRecDepth 100000 in
set_option maxHeartbeats 8000000 in
theorem copy_ok {W : World} {base D m : Nat} {S : Nat → Prop} {bl : List (List Int)} {q : List S49} {mo : Obj} {last : Int} (h : IsDk W base D m S bl q mo last) {n : Nat} {Dm : DataW Unit} (hown : Fz W m n Dm) (hmax : Maps.size Dm ≤ maxLen) :
    Calls Try.prog 12 #[.pointer (some ⟨D, 0, none⟩)] W fun e W' => ∃ D2 m2 mo2, e = .returned (.pointer (some ⟨D2, 0, none⟩)) ∧ IsDk W' W.heap.size D2 m2 (fun k => W.heap.size ≤ k ∧ k < W'.heap.size) bl q mo2 last ∧ Fz W' m2 (Maps.size Dm) Dm ∧ Below W.heap.size W W' := by
  have H := Aside0.mk h
  have HO := Aside0.mk hown
  have hmlt := h.low m h.inM
  obtain ⟨hf, ⟨vB, vQ, hD, hB, hQ⟩, hm, hmm, hSD, hSm, hlow⟩ := h
  obtain ⟨AB, cB, rfl⟩ := Kd.R_slice hB
  obtain ⟨AQ, cQ, rfl⟩ := Kd.R_slice hQ
  have hDlt := (hlow D hSD).2
  have hfi := image_f bl (fun x hx => by have := hf.each x hx; omega) (by have := hf.most; omega) (bl.length + 1) (Nat.lt_succ_self _)
  have hfs := sent_f q (fun x hx => by have := hf.sent x hx; omega) (by have := hf.queue; omega) (q.length + 1) (Nat.lt_succ_self _)
  have hcB : ∀ W1, Below W.heap.size W W1 → Calls Try.prog 35 #[.slice AB bl.length cB] W1 (fun e w' => ∃ v, e = .returned v ∧ Kd.R (Kd.slice 5 (Kd.int .u8)) 47 w' W.heap.size (fun _ => True) v bl ∧ Below W1.heap.size W1 w' ∧ W.heap.size ≤ w'.heap.size) := fun W1 hb1 => by
    have hB1 := Kd.R_below hB hb1
    refine (disk_image.calls (bl.length + 1) AB cB bl bl _ (Kd.R_reads' hB1).2.2 (Kd.R_reads' hB1).2.1 hfi).mono ?_
    rintro e w' ⟨v, rfl, hs, hb⟩
    exact ⟨v, rfl, Kd.R_lower (Kd.S_R hs) hb1.size, hb, Nat.le_trans hb1.size hb.size⟩
  have hcQ : ∀ W1, Below W.heap.size W W1 → Calls Try.prog 29 #[.slice AQ q.length cQ] W1 (fun e w' => ∃ v, e = .returned v ∧ Kd.R k49 49 w' W.heap.size (fun _ => True) v q ∧ Below W1.heap.size W1 w' ∧ W.heap.size ≤ w'.heap.size) := fun W1 hb1 => by
    have hQ1 := Kd.R_below hQ hb1
    refine (disk_sent.calls (q.length + 1) AQ cQ q q _ (Kd.R_reads' hQ1).2.2 (Kd.R_reads' hQ1).2.1 hfs).mono ?_
    rintro e w' ⟨v, rfl, hs, hb⟩
    exact ⟨v, rfl, Kd.R_lower (Kd.S_R hs) hb1.size, hb, Nat.le_trans hb1.size hb.size⟩
  have hcell : ∀ W1, Below W.heap.size W W1 → W1.heap[D]? = W.heap[D]? := fun W1 hb1 => hb1.block D hDlt
  have hc0 : ∀ W1, Below W.heap.size W W1 → W1.cell? ⟨D, 0, none⟩ = some (.slice AB bl.length cB) := fun W1 hb1 => by simp [World.cell?, hcell W1 hb1, hD]
  have hc1 : ∀ W1, Below W.heap.size W W1 → W1.cell? ⟨D, 1, none⟩ = some (.slice AQ q.length cQ) := fun W1 hb1 => by simp [World.cell?, hcell W1 hb1, hD]
  have hc2 : ∀ W1, Below W.heap.size W W1 → W1.cell? ⟨D, 2, none⟩ = some (.map (some m)) := fun W1 hb1 => by simp [World.cell?, hcell W1 hb1, hD]
  have hc3 : ∀ W1, Below W.heap.size W W1 → W1.cell? ⟨D, 3, none⟩ = some (.int .i64 last) := fun W1 hb1 => by simp [World.cell?, hcell W1 hb1, hD]
  clear hB hQ hfi hfs hcell
  refine (callsIn_wide (n := 1)).1 ?_
  refine callsIn_of_wp Try.func12 rfl trivial ?_ rfl
  simp only [Try.ntmps12, List.size_toArray, List.length_cons, List.length_nil, Nat.reduceAdd, Nat.reduceSub, Array.replicate_succ, Array.replicate_zero, List.push_toArray, List.append_toArray, List.nil_append, List.cons_append]
  gi_wp2_with (first
    | (refine ⟨trivial, ?_⟩; gi_at_call 34; refine (callsIn_wide.2 (made_ok H.out)).mono ?_; rintro e w0 ⟨rfl, hw⟩; rw [hw]; clear hw))
  have HB := Aside0.mk (below_drew (Below.refl W.heap.size W))
  refine wpIn_wide.2 ?_
  refine start_ (n := 18) (S := fun w' => w'.cell? ⟨D, 0, none⟩ = some (.slice AB bl.length cB) ∧ w'.cell? ⟨D, 1, none⟩ = some (.slice AQ q.length cQ) ∧ w'.cell? ⟨D, 3, none⟩ = some (.int .i64 last)) (ds := []) #[false, false, false, false, false, false, false, false, false, false, false, false, false, false, false, false, false, false] (by kernel_rfl) rfl rfl ⟨(hc0 _ HB.out), (hc1 _ HB.out), (hc3 _ HB.out)⟩ (fun hHeld => ?_)
  refine pure_ (i := 0) (N := some 9) (v := ?_) (a' := ?_) #[true, false, false, false, false, false, false, false, false, false, false, false, false, false, false, false, false, false] rfl rfl (by kernel_rfl) (fun _ _ _ h => h) (Or.inl ⟨by rfl, ?_⟩) ?_ ?_
  rotate_left
  · intro w'
    go_simp
    with_reducible rfl
  rotate_left
  · simp only [Act.put, List.setIfInBounds_toArray, List.set_cons_zero, List.set_cons_succ, i64_w, i32_w]
    rfl
  refine pure_ (i := 1) (N := some 10) (v := ?_) (a' := ?_) #[true, true, false, false, false, false, false, false, false, false, false, false, false, false, false, false, false, false] rfl rfl (by kernel_rfl) (fun _ _ _ h => h) (Or.inl ⟨by rfl, ?_⟩) ?_ ?_
  rotate_left
  · intro w'
    go_simp
    with_reducible rfl
  rotate_left
  · simp only [Act.put, List.setIfInBounds_toArray, List.set_cons_zero, List.set_cons_succ, i64_w, i32_w]
    rfl
  refine pure_ (i := 2) (N := some 11) (v := ?_) (a' := ?_) #[true, true, true, false, false, false, false, false, false, false, false, false, false, false, false, false, false, false] rfl rfl (by kernel_rfl) (fun _ _ _ h => h) (Or.inl ⟨by rfl, ?_⟩) ?_ ?_
  rotate_left
  · intro w'
    go_simp
    with_reducible rfl
  rotate_left
  · simp only [Act.put, List.setIfInBounds_toArray, List.set_cons_zero, List.set_cons_succ, i64_w, i32_w]
    rfl
  refine pure_ (i := 5) (N := some 14) (v := ?_) (a' := ?_) #[true, true, true, false, false, true, false, false, false, false, false, false, false, false, false, false, false, false] rfl rfl (by kernel_rfl) (fun _ _ _ h => h) (Or.inl ⟨by rfl, ?_⟩) ?_ ?_
  rotate_left
  · intro w'
    go_simp
    with_reducible rfl
  rotate_left
  · simp only [Act.put, List.setIfInBounds_toArray, List.set_cons_zero, List.set_cons_succ, i64_w, i32_w]
    rfl
  refine pure_ (i := 6) (N := some 15) (v := ?_) (a' := ?_) #[true, true, true, false, false, true, true, false, false, false, false, false, false, false, false, false, false, false] rfl rfl (by kernel_rfl) (fun _ _ _ h => h) (Or.inl ⟨by rfl, ?_⟩) ?_ ?_
  rotate_left
  · intro w'
    go_simp
    with_reducible rfl
  rotate_left
  · simp only [Act.put, List.setIfInBounds_toArray, List.set_cons_zero, List.set_cons_succ, i64_w, i32_w]
    rfl
  refine pure_ (i := 7) (N := some 16) (v := ?_) (a' := ?_) #[true, true, true, false, false, true, true, true, false, false, false, false, false, false, false, false, false, false] rfl rfl (by kernel_rfl) (fun _ _ _ h => h) (Or.inl ⟨by rfl, ?_⟩) ?_ ?_
  rotate_left
  · intro w'
    go_simp
    with_reducible rfl
  rotate_left
  · simp only [Act.put, List.setIfInBounds_toArray, List.set_cons_zero, List.set_cons_succ, i64_w, i32_w]
    rfl
  refine pure_ (i := 11) (N := some 20) (v := ?_) (a' := ?_) #[true, true, true, false, false, true, true, true, false, false, false, true, false, false, false, false, false, false] rfl rfl (by kernel_rfl) (fun _ _ _ h => h) (Or.inl ⟨by rfl, ?_⟩) ?_ ?_
  rotate_left
  · intro w'
    go_simp
    with_reducible rfl
  rotate_left
  · simp only [Act.put, List.setIfInBounds_toArray, List.set_cons_zero, List.set_cons_succ, i64_w, i32_w]
    rfl
  refine pure_ (i := 12) (N := some 21) (v := ?_) (a' := ?_) #[true, true, true, false, false, true, true, true, false, false, false, true, true, false, false, false, false, false] rfl rfl (by kernel_rfl) (fun _ _ _ h => h) (Or.inl ⟨by rfl, ?_⟩) ?_ ?_
  rotate_left
  · intro w'
    go_simp
    with_reducible rfl
  rotate_left
  · simp only [Act.put, List.setIfInBounds_toArray, List.set_cons_zero, List.set_cons_succ, i64_w, i32_w]
    rfl
  refine pure_ (i := 13) (N := some 22) (v := ?_) (a' := ?_) #[true, true, true, false, false, true, true, true, false, false, false, true, true, true, false, false, false, false] rfl rfl (by kernel_rfl) (fun _ _ _ h => h) (Or.inl ⟨by rfl, ?_⟩) ?_ ?_
  rotate_left
  · intro w'
    go_simp
    with_reducible rfl
  rotate_left
  · simp only [Act.put, List.setIfInBounds_toArray, List.set_cons_zero, List.set_cons_succ, i64_w, i32_w]
    rfl
  refine take_ (i := 3) (N := some 12) (v := ?_) (a' := ?_) #[true, true, true, true, false, true, true, true, false, false, false, true, true, true, false, false, false, false] rfl rfl (by kernel_rfl) (fun _ _ _ h => h) (Or.inl ⟨by rfl, ?_⟩) hHeld ?_ ?_
  rotate_left
  · rintro w' ⟨s0, s1, s2⟩
    go_simp
    with_reducible rfl
  rotate_left
  · simp only [Act.put, List.setIfInBounds_toArray, List.set_cons_zero, List.set_cons_succ, i64_w, i32_w]
    rfl
  refine take_ (i := 8) (N := some 17) (v := ?_) (a' := ?_) #[true, true, true, true, false, true, true, true, true, false, false, true, true, true, false, false, false, false] rfl rfl (by kernel_rfl) (fun _ _ _ h => h) (Or.inl ⟨by rfl, ?_⟩) hHeld ?_ ?_
  rotate_left
  · rintro w' ⟨s0, s1, s2⟩
    go_simp
    with_reducible rfl
  rotate_left
  · simp only [Act.put, List.setIfInBounds_toArray, List.set_cons_zero, List.set_cons_succ, i64_w, i32_w]
    rfl
  refine take_ (i := 14) (N := some 23) (v := ?_) (a' := ?_) #[true, true, true, true, false, true, true, true, true, false, false, true, true, true, true, false, false, false] rfl rfl (by kernel_rfl) (fun _ _ _ h => h) (Or.inl ⟨by rfl, ?_⟩) hHeld ?_ ?_
  rotate_left
  · rintro w' ⟨s0, s1, s2⟩
    go_simp
    with_reducible rfl
  rotate_left
  · simp only [Act.put, List.setIfInBounds_toArray, List.set_cons_zero, List.set_cons_succ, i64_w, i32_w]
    rfl
  refine join_ (σ := Value × Value × Nat) 3 #[true, true, true, true, true, true, true, true, true, true, true, true, true, true, true, false, false, false] (fun s => [(13, s.1), (18, s.2.1), (19, .map (some s.2.2))]) (fun s w' => Kd.R (Kd.slice 5 (Kd.int .u8)) 47 w' W.heap.size (fun _ => True) s.1 bl ∧ Kd.R k49 49 w' W.heap.size (fun _ => True) s.2.1 q ∧ w'.heap[s.2.2]? = some (.map #[] 0) ∧ W.heap.size ≤ s.2.2 ∧ Below W.heap.size W w') ?_ ?_
  rotate_left
  · intro hCont
    refine two_ (i := 4) (j := 10) (Ni := some 13) (Nj := some 19) #[true, true, true, true, true, true, true, true, true, false, false, true, true, true, true, false, false, false] #[true, true, true, true, false, true, true, true, true, false, true, true, true, true, true, false, false, false] rfl rfl rfl rfl (by kernel_rfl) (by decide) (by decide) (fun K hK => ?_) (fun K hK => ?_)
    · skip
      refine goes_ Try.func35 (by kernel_rfl) rfl #[.slice AB bl.length cB] (by rfl) rfl rfl (by simp only [List.map_toArray, List.map_cons, List.map_nil]; rfl) ?_
      with_reducible refine ((hcB _ HB.out)).mono ?_
      rintro e w4 ⟨v4, rfl, hr4, hb4, hl4⟩
      refine ⟨_, rfl, ?_⟩
      have HR4 := Aside0.mk hr4
      have nHB_ := Aside0.mk (below_step HB.out hb4)
      clear HB
      have HB := nHB_
      clear nHB_
      clear hr4 hb4
      refine hK.out _ _ ⟨(hc0 _ HB.out), (hc1 _ HB.out), (hc3 _ HB.out)⟩ (fun hHeld => ?_)
      clear hK K
      refine norm_ (a' := ?_) ?_ ?_
      rotate_left
      · show Act.put _ (some 13) _ = _
        simp only [Act.put, List.setIfInBounds_toArray, List.set_cons_zero, List.set_cons_succ, i64_w, i32_w]
        rfl
      refine two_ (i := 9) (j := 10) (Ni := some 18) (Nj := some 19) #[true, true, true, true, true, true, true, true, true, true, false, true, true, true, true, false, false, false] #[true, true, true, true, true, true, true, true, true, false, true, true, true, true, true, false, false, false] rfl rfl rfl rfl (by kernel_rfl) (by decide) (by decide) (fun K hK => ?_) (fun K hK => ?_)
      · skip
        refine goes_ Try.func29 (by kernel_rfl) rfl #[.slice AQ q.length cQ] (by rfl) rfl rfl (by simp only [List.map_toArray, List.map_cons, List.map_nil]; rfl) ?_
        with_reducible refine ((hcQ _ HB.out)).mono ?_
        rintro e w9 ⟨v9, rfl, hr9, hb9, hl9⟩
        refine ⟨_, rfl, ?_⟩
        have HR9 := Aside0.mk hr9
        have nHR4_ := Aside0.mk (Kd.R_below HR4.out hb9)
        clear HR4
        have HR4 := nHR4_
        clear nHR4_
        have nHB_ := Aside0.mk (below_step HB.out hb9)
        clear HB
        have HB := nHB_
        clear nHB_
        clear hr9 hb9
        refine hK.out _ _ ⟨(hc0 _ HB.out), (hc1 _ HB.out), (hc3 _ HB.out)⟩ (fun hHeld => ?_)
        clear hK K
        refine norm_ (a' := ?_) ?_ ?_
        rotate_left
        · show Act.put _ (some 18) _ = _
          simp only [Act.put, List.setIfInBounds_toArray, List.set_cons_zero, List.set_cons_succ, i64_w, i32_w]
          rfl
        refine one_ (i := 10) (N := some 19) #[true, true, true, true, true, true, true, true, true, true, true, true, true, true, true, false, false, false] rfl rfl (by kernel_rfl) (by decide) (fun K hK => ?_)
        refine value_ (w1 := ?_) (v := ?_) (by rfl) rfl ?_ ?_
        rotate_left 2
        · go_simp
          rw [run_mk]
          rfl
        have HM := Aside0.mk (alloc_new_of HB.out (.map #[] 0))
        have HL := Aside0.mk HB.out.size
        have nHR4_ := Aside0.mk (Kd.R_alloc HR4.out (.map #[] 0))
        clear HR4
        have HR4 := nHR4_
        clear nHR4_
        have nHR9_ := Aside0.mk (Kd.R_alloc HR9.out (.map #[] 0))
        clear HR9
        have HR9 := nHR9_
        clear nHR9_
        have nHB_ := Aside0.mk (below_alloc HB.out (.map #[] 0))
        clear HB
        have HB := nHB_
        clear nHB_
        refine hK.out _ _ ⟨(hc0 _ HB.out), (hc1 _ HB.out), (hc3 _ HB.out)⟩ (fun hHeld => ?_)
        clear hK K
        refine norm_ (a' := ?_) ?_ ?_
        rotate_left
        · show Act.put _ (some 19) _ = _
          simp only [Act.put, List.setIfInBounds_toArray, List.set_cons_zero, List.set_cons_succ, i64_w, i32_w]
          rfl
        exact norm_ (by simp only [putAll, Act.put, List.setIfInBounds_toArray, List.set_cons_zero, List.set_cons_succ]) (hCont (v4, v9, w9.heap.size) _ ⟨HR4.out, HR9.out, HM.out, HL.out, HB.out⟩)
      · skip
        refine value_ (w1 := ?_) (v := ?_) (by rfl) rfl ?_ ?_
        rotate_left 2
        · go_simp
          rw [run_mk]
          rfl
        have HM := Aside0.mk (alloc_new_of HB.out (.map #[] 0))
        have HL := Aside0.mk HB.out.size
        have nHR4_ := Aside0.mk (Kd.R_alloc HR4.out (.map #[] 0))
        clear HR4
        have HR4 := nHR4_
        clear nHR4_
        have nHB_ := Aside0.mk (below_alloc HB.out (.map #[] 0))
        clear HB
        have HB := nHB_
        clear nHB_
        refine hK.out _ _ ⟨(hc0 _ HB.out), (hc1 _ HB.out), (hc3 _ HB.out)⟩ (fun hHeld => ?_)
        clear hK K
        refine norm_ (a' := ?_) ?_ ?_
        rotate_left
        · show Act.put _ (some 19) _ = _
          simp only [Act.put, List.setIfInBounds_toArray, List.set_cons_zero, List.set_cons_succ, i64_w, i32_w]
          rfl
        refine one_ (i := 9) (N := some 18) #[true, true, true, true, true, true, true, true, true, true, true, true, true, true, true, false, false, false] rfl rfl (by kernel_rfl) (by decide) (fun K hK => ?_)
        refine goes_ Try.func29 (by kernel_rfl) rfl #[.slice AQ q.length cQ] (by rfl) rfl rfl (by simp only [List.map_toArray, List.map_cons, List.map_nil]; rfl) ?_
        with_reducible refine ((hcQ _ HB.out)).mono ?_
        rintro e w9 ⟨v9, rfl, hr9, hb9, hl9⟩
        refine ⟨_, rfl, ?_⟩
        have HR9 := Aside0.mk hr9
        have nHR4_ := Aside0.mk (Kd.R_below HR4.out hb9)
        clear HR4
        have HR4 := nHR4_
        clear nHR4_
        have nHM_ := Aside0.mk ((hb9.block _ (heap_lt HM.out)).trans HM.out)
        clear HM
        have HM := nHM_
        clear nHM_
        have nHB_ := Aside0.mk (below_step HB.out hb9)
        clear HB
        have HB := nHB_
        clear nHB_
        clear hr9 hb9
        refine hK.out _ _ ⟨(hc0 _ HB.out), (hc1 _ HB.out), (hc3 _ HB.out)⟩ (fun hHeld => ?_)
        clear hK K
        refine norm_ (a' := ?_) ?_ ?_
        rotate_left
        · show Act.put _ (some 18) _ = _
          simp only [Act.put, List.setIfInBounds_toArray, List.set_cons_zero, List.set_cons_succ, i64_w, i32_w]
          rfl
        exact norm_ (by simp only [putAll, Act.put, List.setIfInBounds_toArray, List.set_cons_zero, List.set_cons_succ]) (hCont (v4, v9, w4.heap.size) _ ⟨HR4.out, HR9.out, HM.out, HL.out, HB.out⟩)
    · skip
      refine value_ (w1 := ?_) (v := ?_) (by rfl) rfl ?_ ?_
      rotate_left 2
      · go_simp
        rw [run_mk]
        rfl
      have HM := Aside0.mk (alloc_new_of HB.out (.map #[] 0))
      have HL := Aside0.mk HB.out.size
      have nHB_ := Aside0.mk (below_alloc HB.out (.map #[] 0))
      clear HB
      have HB := nHB_
      clear nHB_
      refine hK.out _ _ ⟨(hc0 _ HB.out), (hc1 _ HB.out), (hc3 _ HB.out)⟩ (fun hHeld => ?_)
      clear hK K
      refine norm_ (a' := ?_) ?_ ?_
      rotate_left
      · show Act.put _ (some 19) _ = _
        simp only [Act.put, List.setIfInBounds_toArray, List.set_cons_zero, List.set_cons_succ, i64_w, i32_w]
        rfl
      refine one_ (i := 4) (N := some 13) #[true, true, true, true, true, true, true, true, true, false, true, true, true, true, true, false, false, false] rfl rfl (by kernel_rfl) (by decide) (fun K hK => ?_)
      refine goes_ Try.func35 (by kernel_rfl) rfl #[.slice AB bl.length cB] (by rfl) rfl rfl (by simp only [List.map_toArray, List.map_cons, List.map_nil]; rfl) ?_
      with_reducible refine ((hcB _ HB.out)).mono ?_
      rintro e w4 ⟨v4, rfl, hr4, hb4, hl4⟩
      refine ⟨_, rfl, ?_⟩
      have HR4 := Aside0.mk hr4
      have nHM_ := Aside0.mk ((hb4.block _ (heap_lt HM.out)).trans HM.out)
      clear HM
      have HM := nHM_
      clear nHM_
      have nHB_ := Aside0.mk (below_step HB.out hb4)
      clear HB
      have HB := nHB_
      clear nHB_
      clear hr4 hb4
      refine hK.out _ _ ⟨(hc0 _ HB.out), (hc1 _ HB.out), (hc3 _ HB.out)⟩ (fun hHeld => ?_)
      clear hK K
      refine norm_ (a' := ?_) ?_ ?_
      rotate_left
      · show Act.put _ (some 13) _ = _
        simp only [Act.put, List.setIfInBounds_toArray, List.set_cons_zero, List.set_cons_succ, i64_w, i32_w]
        rfl
      refine one_ (i := 9) (N := some 18) #[true, true, true, true, true, true, true, true, true, true, true, true, true, true, true, false, false, false] rfl rfl (by kernel_rfl) (by decide) (fun K hK => ?_)
      refine goes_ Try.func29 (by kernel_rfl) rfl #[.slice AQ q.length cQ] (by rfl) rfl rfl (by simp only [List.map_toArray, List.map_cons, List.map_nil]; rfl) ?_
      with_reducible refine ((hcQ _ HB.out)).mono ?_
      rintro e w9 ⟨v9, rfl, hr9, hb9, hl9⟩
      refine ⟨_, rfl, ?_⟩
      have HR9 := Aside0.mk hr9
      have nHR4_ := Aside0.mk (Kd.R_below HR4.out hb9)
      clear HR4
      have HR4 := nHR4_
      clear nHR4_
      have nHM_ := Aside0.mk ((hb9.block _ (heap_lt HM.out)).trans HM.out)
      clear HM
      have HM := nHM_
      clear nHM_
      have nHB_ := Aside0.mk (below_step HB.out hb9)
      clear HB
      have HB := nHB_
      clear nHB_
      clear hr9 hb9
      refine hK.out _ _ ⟨(hc0 _ HB.out), (hc1 _ HB.out), (hc3 _ HB.out)⟩ (fun hHeld => ?_)
      clear hK K
      refine norm_ (a' := ?_) ?_ ?_
      rotate_left
      · show Act.put _ (some 18) _ = _
        simp only [Act.put, List.setIfInBounds_toArray, List.set_cons_zero, List.set_cons_succ, i64_w, i32_w]
        rfl
      exact norm_ (by simp only [putAll, Act.put, List.setIfInBounds_toArray, List.set_cons_zero, List.set_cons_succ]) (hCont (v4, v9, W.drew.heap.size) _ ⟨HR4.out, HR9.out, HM.out, HL.out, HB.out⟩)
  rintro ⟨v4, v9, mm⟩ w3 ⟨hr4, hr9, hm3, hle3, hb3⟩
  simp only at hr4 hr9 hm3 hle3
  obtain ⟨A4, c4, rfl⟩ := Kd.R_slice hr4
  obtain ⟨A9, c9, rfl⟩ := Kd.R_slice hr9
  have HR4 := Aside0.mk hr4
  have HR9 := Aside0.mk hr9
  have HM := Aside0.mk hm3
  have HL := Aside0.mk hle3
  have HB := Aside0.mk hb3
  have hHeld : (w3.cell? ⟨D, 0, none⟩ = some (.slice AB bl.length cB)) ∧ (w3.cell? ⟨D, 1, none⟩ = some (.slice AQ q.length cQ)) ∧ (w3.cell? ⟨D, 3, none⟩ = some (.int .i64 last)) := ⟨hc0 _ hb3, hc1 _ hb3, hc3 _ hb3⟩
  clear hr4 hr9 hm3 hle3 hb3
  refine norm_ (a' := ?_) ?_ ?_
  rotate_left
  · simp only [putAll, Act.put, List.setIfInBounds_toArray, List.set_cons_zero, List.set_cons_succ]
    rfl
  refine pure_ (i := 15) (N := some 24) (v := ?_) (a' := ?_) #[true, true, true, true, true, true, true, true, true, true, true, true, true, true, true, true, false, false] rfl rfl (by kernel_rfl) (fun _ _ _ h => h) (Or.inl ⟨by rfl, ?_⟩) ?_ ?_
  rotate_left
  · intro w'
    go_simp
    with_reducible rfl
  rotate_left
  · simp only [Act.put, List.setIfInBounds_toArray, List.set_cons_zero, List.set_cons_succ, i64_w, i32_w]
    rfl
  refine one_ (i := 16) (N := some 25) #[true, true, true, true, true, true, true, true, true, true, true, true, true, true, true, true, true, false] rfl rfl (by kernel_rfl) (by decide) (fun K hK => ?_)
  refine value_ (w1 := ?_) (v := ?_) (by rfl) rfl ?_ ?_
  rotate_left 2
  · go_simp
    constructor
    · rfl
    · rfl
  refine hK.out _ _ ⟨(hc0 _ (below_alloc HB.out (.cells #[.slice A4 bl.length c4, .slice A9 q.length c9, .map (some mm), .int .i64 last] 70))), (hc1 _ (below_alloc HB.out (.cells #[.slice A4 bl.length c4, .slice A9 q.length c9, .map (some mm), .int .i64 last] 70))), (hc3 _ (below_alloc HB.out (.cells #[.slice A4 bl.length c4, .slice A9 q.length c9, .map (some mm), .int .i64 last] 70)))⟩ (fun hHeld => ?_)
  clear hK K
  refine norm_ (a' := ?_) ?_ ?_
  rotate_left
  · show Act.put _ (some 25) _ = _
    simp only [Act.put, List.setIfInBounds_toArray, List.set_cons_zero, List.set_cons_succ, i64_w, i32_w]
    rfl
  refine pure_ (i := 17) (N := some 3) (v := ?_) (a' := ?_) #[true, true, true, true, true, true, true, true, true, true, true, true, true, true, true, true, true, true] rfl rfl (by kernel_rfl) (fun _ _ _ h => h) (Or.inl ⟨by rfl, ?_⟩) ?_ ?_
  rotate_left
  · intro w'
    go_simp
    with_reducible rfl
  rotate_left
  · simp only [Act.put, List.setIfInBounds_toArray, List.set_cons_zero, List.set_cons_succ, i64_w, i32_w]
    rfl
  refine done_ (by kernel_rfl) ?_

  have HB4 := Aside0.mk (below_alloc HB.out (.cells #[.slice A4 bl.length c4, .slice A9 q.length c9, .map (some mm), .int .i64 last] 70))
  have HD4 := Aside0.mk (alloc_new_of HB.out (.cells #[.slice A4 bl.length c4, .slice A9 q.length c9, .map (some mm), .int .i64 last] 70))
  have HRB := Aside0.mk (Kd.R_alloc HR4.out (.cells #[.slice A4 bl.length c4, .slice A9 q.length c9, .map (some mm), .int .i64 last] 70))
  have HRQ := Aside0.mk (Kd.R_alloc HR9.out (.cells #[.slice A4 bl.length c4, .slice A9 q.length c9, .map (some mm), .int .i64 last] 70))
  have HM4 := Aside0.mk ((heap_alloc_old _ (.cells #[.slice A4 bl.length c4, .slice A9 q.length c9, .map (some mm), .int .i64 last] 70) _ (heap_lt HM.out)).trans HM.out)
  have HL4 := Aside0.mk HB.out.size
  have HMD := Aside0.mk (show mm ≠ w3.heap.size by have := heap_lt HM.out; omega)
  have HLT4 := Aside0.mk (show w3.heap.size < (w3.alloc (.cells #[.slice A4 bl.length c4, .slice A9 q.length c9, .map (some mm), .int .i64 last] 70)).heap.size by simp)
  clear HR4 HR9 HM HB hHeld
  generalize w3.alloc (.cells #[.slice A4 bl.length c4, .slice A9 q.length c9, .map (some mm), .int .i64 last] 70) = W4 at *
  generalize w3.heap.size = D4 at *
  have hcm := hc2 W4 HB4.out
  have hO4 := HO.out.at_ (HB4.out.block m hmlt.2)
  gi_wp2_with (first
    | (gi_at_range; refine wpListIn_range_own _ rfl _ 68 rfl 3 3 (Maps.int_keyed Try.underlying3) Try.underlying68 _ m n _ rfl hO4 ?_; intro w5 hrg0 hg0 hs0)
    | gi_in)
  go_frame
  gi_loopw [4] (fun _ wr => ∃ (left : Lit → Bool) (cnt : Nat) (Dout : DataW Unit), wr.ranges Try.prog 3 (plainElem Try.prog 3) m W4.heap.size n Dm left cnt ∧ cnt ≤ Maps.size Dm ∧
      wr.ownsMap Try.prog 3 (plainElem Try.prog 3) mm (Maps.size Dm - cnt) Dout ∧ Agree Dout Dm left ∧ Aside0 (Below W.heap.size W wr) ∧ Aside0 (wr.heap[D4]? = some (.cells #[.slice A4 bl.length c4, .slice A9 q.length c9, .map (some mm), .int .i64 last] 70 (0, 0))) ∧ Aside0 (Kd.R (Kd.slice 5 (Kd.int .u8)) 47 wr W.heap.size (fun k => k < W4.heap.size) (.slice A4 bl.length c4) bl) ∧ Aside0 (Kd.R k49 49 wr W.heap.size (fun k => k < W4.heap.size) (.slice A9 q.length c9) q))
    (fun _ wr => wr.rangeLeft m W4.heap.size)
  case atStart =>
    exact ⟨_, _, .map [], hrg0, Nat.le_refl _, ((made_own HM4.out _).at_ (hg0.block mm (heap_lt HM4.out) (by simp))), agree_start Dm, ⟨HB4.out.grown hg0 HB4.out.size (fun j hj => by cases hj)⟩, ⟨(hg0.block D4 HLT4.out (by simp)).trans HD4.out⟩, ⟨Kd.R_grown (Kd.R_mono (Kd.R_bound HRB.out) (fun k hk => hk.2.2.1)) hg0 (by simp)⟩, ⟨Kd.R_grown (Kd.R_mono (Kd.R_bound HRQ.out) (fun k hk => hk.2.2.1)) hg0 (by simp)⟩⟩
  case round =>
    obtain ⟨left, cnt, Dout, hrg, hcs, hout, hA, HB5, HD5, HRB5, HRQ5⟩ := hrel
    gi_wp2_with (first
      | (gi_at_next; refine wpListIn_next_ranges_ii _ rfl _ rfl 3 3 .i64 .i64 (Maps.int_keyed Try.underlying3) Try.underlying3 Try.underlying3 m W4.heap.size n _ _ _ rfl hrg ?_ ?_)
      | gi_in)
    · intro hc0 hl0
      gi_wp2
      go_ret
      subst hc0
      have e := agree_end hA hl0 (hout.canon (Maps.int_keyed Try.underlying3)) (HO.out.canon (Maps.int_keyed Try.underlying3))
      subst e
      have hlt := heap_lt HD5.out
      obtain ⟨es, ck, hm6, r6⟩ := hout
      refine ⟨D4, mm, _, rfl, ⟨hf, ⟨_, _, HD5.out, Kd.R_mono (Kd.R_bound HRB5.out) (fun k hk => ⟨hk.2.1, hk.2.2.1⟩), Kd.R_mono (Kd.R_bound HRQ5.out) (fun k hk => ⟨hk.2.1, hk.2.2.1⟩)⟩, hm6, ⟨_, _, rfl⟩, ⟨by have := HL4.out; omega, hlt⟩, ⟨HL.out, heap_lt hm6⟩, fun k hk => hk⟩, ⟨es, ck, hm6, r6⟩, HB5.out⟩
    · intro x c w1 cnt1 hwx hwc hlx hat hrg1 hlt hg1 hs1 hen
      have hrs : W4.heap.size < wr.heap.size := hrg.lt
      have hout1 := hout.kept hg1 (by have := heap_lt HM4.out; simp; omega)
      have hmm1 : mm < w1.heap.size := hout1.lt
      have HD6 := Aside0.mk ((hg1.block D4 (heap_lt HD5.out) (by have := HLT4.out; simp; omega)).trans HD5.out)
      have c2 : w1.cell? ⟨D4, 2, none⟩ = some (.map (some mm)) := (by simp [World.cell?, HD6.out])
      gi_wp2_with (first
        | (gi_at_mapUpdate; refine wpListIn_mapUpdate_own _ rfl _ _ _ 68 rfl 3 3 (Maps.int_keyed Try.underlying3) Try.underlying68 _ mm _ _ rfl hout1 (by omega) _ _ _ rfl rfl (Maps.keyOf_int_mk Try.underlying3 hwx) _ [] (plainElem_int Try.underlying3 hwc) ?_; intro w2 hout2 hg2; go_frame)
        | gi_in)
      have hmm4 := heap_lt HM4.out
      have hwm : W.heap.size ≤ mm := HL.out
      have hrg2 := hrg1.kept hg2 (fun e => by have := Option.some.inj e; have := hmlt.2; omega) (fun e => by have := Option.some.inj e; omega)
      go_roundw
      case rel =>
        exact ⟨_, cnt1, _, hrg2, by omega, hout2.mono (by omega), agree_step hA hout.isMap trivial hat, ⟨(HB5.out.grown hg1 HB5.out.size (fun j hj => by cases hj; exact HB4.out.size)).grown hg2 (by have := HB5.out.size; have := hg1.size; omega) (fun j hj => by cases hj; exact HL.out)⟩,
          ⟨(hg2.block D4 (heap_lt HD6.out) (fun e => HMD.out (Option.some.inj e).symm)).trans HD6.out⟩,
          ⟨Kd.R_mono (Kd.R_grown (R_map (Kd.R_grown HRB5.out hg1 (fun k hk e => by have := Option.some.inj e; omega)) hout1) hg2 (fun k hk e => hk.2 (Option.some.inj e))) (fun k hk => hk.1)⟩,
          ⟨Kd.R_mono (Kd.R_grown (R_map (Kd.R_grown HRQ5.out hg1 (fun k hk e => by have := Option.some.inj e; omega)) hout1) hg2 (fun k hk e => hk.2 (Option.some.inj e))) (fun k hk => hk.1)⟩⟩
      case measure => rw [hrg2.left_eq, hrg.left_eq]; exact hlt
end Go.Proofs.Ytlkijnnoalfblaa.Dk

namespace Go.Proofs.Ytlkijnnoalfblaa.Dk
open Go Go.RowKit Go.Shelf Go.Proofs Go.Maps Go.Proofs.Ytlkijnnoalfblaa.Sp Go.Proofs.Ytlkijnnoalfblaa.XFb Go.Proofs.YtlkijnnoalfblaaW.PrintWords Go.Proofs.YtlkijnnoalfblaaW.PrintLast Go.Proofs.YtlkijnnoalfblaaW.PrintMore
set_option linter.unusedVariables false
set_option linter.unusedSimpArgs false
theorem at_int {w : World} {A : Option Addr} {n : Nat} {xs : List Int} (h : Kd.C (Kd.int .i64) w A n xs) (i : Nat) (h1 : i < n) : ∃ ad, A = some ad ∧ w.cell? (ad.add i) = some (.int .i64 (xs.getD i 0)) := by
  obtain ⟨ad, c, e, _, hK, hc0⟩ := Kd.C_get h (0 : Int) (i : Int) (by omega) (by omega)
  rw [Int.toNat_natCast] at hK hc0
  have hc : ∀ j u, c[j]? = some u → w.cell? (ad.add (i * 1 + j)) = some u := hc0
  have hK' : c = [.int .i64 (xs.getD i 0)] := hK
  subst hK'
  exact ⟨ad, e, by have := hc 0 _ rfl; rwa [Nat.mul_one, Nat.add_zero] at this⟩
theorem empty_own {w : World} {b c : Nat} (hb : w.heap[b]? = some (.map #[] c)) (n : Nat) : Fz w b n (.map []) :=
  ⟨#[], c, hb, ⟨Nat.zero_le _, ⟨(fun x hx => by cases hx), (by simp)⟩, (fun x hx => by cases hx)⟩, Nat.zero_le _, rfl⟩
/-- The first place of a number that p holds of, from i on; -1: none. -/
def ixI (p : Int → Bool) : List Int → Int → Int
  | [], _ => -1
  | x :: r, i => if p x = true then i else ixI p r (i + 1)
set_option maxRecDepth 100000 in
set_option maxHeartbeats 8000000 in
theorem clCr {W : World} {base D m : Nat} {S : Nat → Prop} {bl : List (List Int)} {q : List S49} {mo : Obj} {last : Int} (h : IsDk W base D m S bl q mo last) (X : Nat) (hX : W.cell? ⟨X, 0, none⟩ = some (.pointer (some ⟨D, 0, none⟩))) (id : Int) :
    Calls Try.prog 37 #[.int .i64 id, .pointer (some ⟨X, 0, none⟩)] W fun e w' => e = .returned (.bool (decide (ixL (fun x : S49 => x.f0 == id) q 0 < 0))) ∧ Below W.heap.size W w' := by
  have H := Aside0.mk h
  clear h
  refine (callsIn_wide (n := 1)).1 ?_
  refine callsIn_of_wp Try.func37 rfl trivial ?_ rfl
  simp only [Try.ntmps37, List.size_toArray, List.length_cons, List.length_nil, Nat.reduceAdd, Nat.reduceSub, Array.replicate_succ, Array.replicate_zero, List.push_toArray, List.append_toArray, List.nil_append, List.cons_append]
  gi_wp2_with (first
    | (refine ⟨trivial, ?_⟩; gi_at_call 38; refine (callsIn_wide.2 (place_ok H.out id)).mono ?_; rintro e w1 ⟨rfl, hb⟩; have HW := Aside0.mk hb; clear hb))
  go_ret
  exact ⟨rfl, HW.out⟩
set_option maxRecDepth 100000 in
set_option maxHeartbeats 8000000 in
theorem indexCr {w : World} {base D m : Nat} {S : Nat → Prop} {bl : List (List Int)} {q : List S49} {mo : Obj} {last : Int} (h : IsDk w base D m S bl q mo last) (X : Nat) (hX : w.cell? ⟨X, 0, none⟩ = some (.pointer (some ⟨D, 0, none⟩))) (A : Option Addr) (c : Nat) (xs : List Int) (hC : Kd.C (Kd.int .i64) w A xs.length xs) (hlen : xs.length ≤ 1000000000000000) :
    Calls Try.prog 51 #[.slice A xs.length c, .func (.func 37) #[] #[.pointer (some ⟨X, 0, none⟩)]] w fun e w' => e = .returned (.int .i64 (ixI (fun i : Int => decide (ixL (fun x : S49 => x.f0 == i) q 0 < 0)) xs 0)) ∧ Below w.heap.size w w' := by
  have HC := Aside0.mk hC
  have HK := fun (W : World) (hB : Below w.heap.size w W) (id : Int) => clCr (h.below hB) X ((hB.cell (p := ⟨X, 0, none⟩) (World.block_lt_of_cell? w _ hX)).trans hX) id
  clear hC h hX
  refine (callsIn_wide (n := 1)).1 ?_
  refine callsIn_of_wp Try.func51 rfl trivial ?_ rfl
  simp only [Try.ntmps51, List.size_toArray, List.length_cons, List.length_nil, Nat.reduceAdd, Nat.reduceSub, Array.replicate_succ, Array.replicate_zero, List.push_toArray, List.append_toArray, List.nil_append, List.cons_append]
  gi_wp2
  gi_loopw [8] (fun v8 w' => ∃ i : Nat, v8 = .int .i64 (i : Int) ∧ i ≤ xs.length ∧ ixI (fun i : Int => decide (ixL (fun x : S49 => x.f0 == i) q 0 < 0)) xs 0 = ixI (fun i : Int => decide (ixL (fun x : S49 => x.f0 == i) q 0 < 0)) (xs.drop i) i ∧ Aside0 (Below w.heap.size w w')) (fun v8 _ => xs.length - (intOf v8).toNat)
  case atStart => exact ⟨0, rfl, Nat.zero_le _, rfl, ⟨Below.refl _ _⟩⟩
  case round =>
    obtain ⟨i, rfl, hi, hall, HB⟩ := hrel
    by_cases hlt : i < xs.length
    · have t1 : decide ((i : Int) < (xs.length : Int)) = true := decide_eq_true (by omega)
      have ew : wrap64 ((i : Int) + 1) = ((i + 1 : Nat) : Int) := by rw [IntWalk.wrap64_in _ (by omega)]; omega
      obtain ⟨ad, rfl, hcell⟩ := at_int (Kd.C_below HC.out HB.out) i hlt
      have hd : xs.drop i = xs.getD i 0 :: xs.drop (i + 1) := by
        rw [List.drop_eq_getElem_cons hlt]; simp [List.getD_eq_getElem?_getD, hlt]
      rw [hd] at hall
      generalize xs.getD i 0 = x at *
      rw [show ixI (fun i : Int => decide (ixL (fun x : S49 => x.f0 == i) q 0 < 0)) (x :: xs.drop (i + 1)) (i : Int) = if (fun i : Int => decide (ixL (fun x : S49 => x.f0 == i) q 0 < 0)) x = true then (i : Int) else ixI (fun i : Int => decide (ixL (fun x : S49 => x.f0 == i) q 0 < 0)) (xs.drop (i + 1)) ((i : Int) + 1) from rfl] at hall
      have HL := Aside0.mk hall
      clear hall hd
      obtain ⟨pv, hpv⟩ : ∃ pv, decide (ixL (fun y : S49 => y.f0 == x) q 0 < 0) = pv := ⟨_, rfl⟩
      have hcl := HK _ HB.out x
      rw [hpv] at hcl
      cases pv with
      | true =>
        have HL' := HL.out
        rw [if_pos (show (fun i : Int => decide (ixL (fun x : S49 => x.f0 == i) q 0 < 0)) x = true from hpv)] at HL'
        have HL2 := Aside0.mk HL'
        have HPV := Aside0.mk hpv
        clear HL' HL hpv
        gi_wp2_with (refine ⟨trivial, ?_⟩; gi_at_call 37; refine (callsIn_wide.2 hcl).mono ?_; rintro e w' ⟨rfl, hb⟩)
        go_ret
        have h1 := HL2.out
        exact ⟨by rw [h1]; rfl, below_step HB.out hb⟩
      | false =>
        have HL' := HL.out
        rw [if_neg (show ¬ (fun i : Int => decide (ixL (fun x : S49 => x.f0 == i) q 0 < 0)) x = true by show ¬ decide (ixL (fun y : S49 => y.f0 == x) q 0 < 0) = true; rw [hpv]; simp)] at HL'
        have HL2 := Aside0.mk HL'
        clear HL' HL hpv
        gi_wp2_with (refine ⟨trivial, ?_⟩; gi_at_call 37; refine (callsIn_wide.2 hcl).mono ?_; rintro e w' ⟨rfl, hb⟩)
        refine ⟨⟨i + 1, by simp, hlt, HL2.out.trans (congrArg (ixI (fun i : Int => decide (ixL (fun x : S49 => x.f0 == i) q 0 < 0)) _) (by omega)), ⟨below_step HB.out hb⟩⟩, by simp [intOf]; omega⟩
    · obtain rfl : i = xs.length := by omega
      have t1 : decide ((xs.length : Int) < (xs.length : Int)) = false := decide_eq_false (by omega)
      rw [List.drop_length] at hall
      have HL := Aside0.mk hall
      clear hall
      gi_wp2
      go_ret
      exact ⟨by rw [HL.out]; rfl, HB.out⟩
set_option maxRecDepth 100000 in
set_option maxHeartbeats 8000000 in
theorem containsCr {w : World} {base D m : Nat} {S : Nat → Prop} {bl : List (List Int)} {q : List S49} {mo : Obj} {last : Int} (h : IsDk w base D m S bl q mo last) (X : Nat) (hX : w.cell? ⟨X, 0, none⟩ = some (.pointer (some ⟨D, 0, none⟩))) (A : Option Addr) (c : Nat) (xs : List Int) (hC : Kd.C (Kd.int .i64) w A xs.length xs) (hlen : xs.length ≤ 1000000000000000) :
    Calls Try.prog 36 #[.slice A xs.length c, .func (.func 37) #[] #[.pointer (some ⟨X, 0, none⟩)]] w fun e w' => e = .returned (.bool (decide (0 ≤ ixI (fun i : Int => decide (ixL (fun x : S49 => x.f0 == i) q 0 < 0)) xs 0))) ∧ Below w.heap.size w w' := by
  have H := Aside0.mk h
  have HC := Aside0.mk hC
  clear hC h
  refine (callsIn_wide (n := 1)).1 ?_
  refine callsIn_of_wp Try.func36 rfl trivial ?_ rfl
  simp only [Try.ntmps36, List.size_toArray, List.length_cons, List.length_nil, Nat.reduceAdd, Nat.reduceSub, Array.replicate_succ, Array.replicate_zero, List.push_toArray, List.append_toArray, List.nil_append, List.cons_append]
  gi_wp2_with (first
    | (refine ⟨trivial, ?_⟩; gi_at_call 51; refine (callsIn_wide.2 (indexCr H.out X hX A c xs HC.out hlen)).mono ?_; rintro e w1 ⟨rfl, hb⟩; have HW := Aside0.mk hb; clear hb))
  go_ret
  exact ⟨rfl, HW.out⟩
theorem ixI_none (p : Int → Bool) : ∀ (xs : List Int) (i : Int), (∀ x ∈ xs, p x = false) → ixI p xs i = -1
  | [], _, _ => rfl
  | x :: r, i, h => by
    unfold ixI
    rw [if_neg (by rw [h x (List.mem_cons_self ..)]; simp)]
    exact ixI_none p r _ (fun y hy => h y (List.mem_cons_of_mem _ hy))
theorem ixI_some (p : Int → Bool) : ∀ (xs : List Int) (i : Int), 0 ≤ i → (∃ x ∈ xs, p x = true) → 0 ≤ ixI p xs i
  | [], _, _, h => by obtain ⟨x, hx, _⟩ := h; cases hx
  | x :: r, i, h0, h => by
    unfold ixI
    by_cases hp : p x = true
    · rw [if_pos hp]; exact h0
    · rw [if_neg hp]
      obtain ⟨y, hy, hpy⟩ := h
      rcases List.mem_cons.1 hy with rfl | hy
      · exact absurd hpy hp
      · exact ixI_some p r _ (by omega) ⟨y, hy, hpy⟩
theorem ixL_range (p : S49 → Bool) : ∀ (l : List S49) (i : Int), ixL p l i = -1 ∨ ∃ k : Nat, k < l.length ∧ ixL p l i = i + k
  | [], _ => .inl rfl
  | x :: r, i => by
    unfold ixL
    by_cases hp : p x = true
    · rw [if_pos hp]; exact .inr ⟨0, by simp, by simp⟩
    · rw [if_neg hp]
      rcases ixL_range p r (i + 1) with h | ⟨k, hk, h⟩
      · exact .inl h
      · exact .inr ⟨k + 1, by simpa using hk, by rw [h]; push_cast; omega⟩
set_option maxRecDepth 100000 in
set_option maxHeartbeats 8000000 in
theorem crash_no {W : World} {base D m : Nat} {S : Nat → Prop} {bl : List (List Int)} {q : List S49} {mo : Obj} {last : Int} (h : IsDk W base D m S bl q mo last) (A : Option Addr) (c : Nat) (ids : List Int) (hC : Kd.C (Kd.int .i64) W A ids.length ids) (hlen : ids.length ≤ 1000000000000000) (hno : ∃ i ∈ ids, ixL (fun x : S49 => x.f0 == i) q 0 < 0) :
    Calls Try.prog 13 #[.pointer (some ⟨D, 0, none⟩), .slice A ids.length c] W fun e W' => e = .returned (.int .i64 20) ∧ Below W.heap.size W W' := by
  have hb0 := below_alloc (Below.refl W.heap.size W) (.cells #[.pointer (some ⟨D, 0, none⟩)] 24)
  have HB := Aside0.mk hb0
  have H := Aside0.mk (h.below hb0)
  have HC := Aside0.mk (Kd.C_below hC hb0)
  have hX : (W.alloc (.cells #[.pointer (some ⟨D, 0, none⟩)] 24)).cell? ⟨W.heap.size, 0, none⟩ = some (.pointer (some ⟨D, 0, none⟩)) := by have h := World.alloc_heap_new W (.cells #[.pointer (some ⟨D, 0, none⟩)] 24); simp only [World.cell?, h]; rfl
  have hok : decide (0 ≤ ixI (fun i : Int => decide (ixL (fun x : S49 => x.f0 == i) q 0 < 0)) ids 0) = true := decide_eq_true (ixI_some _ ids 0 (by omega) (by obtain ⟨i, hi, h⟩ := hno; exact ⟨i, hi, decide_eq_true h⟩))
  clear h hC hb0 hno
  refine (callsIn_wide (n := 1)).1 ?_
  refine callsIn_of_wp Try.func13 rfl trivial ?_ rfl
  simp only [Try.ntmps13, List.size_toArray, List.length_cons, List.length_nil, Nat.reduceAdd, Nat.reduceSub, Array.replicate_succ, Array.replicate_zero, List.push_toArray, List.append_toArray, List.nil_append, List.cons_append]
  gi_wp2_with (first
    | (refine ⟨trivial, ?_⟩; gi_at_call 34; refine (callsIn_wide.2 (made_ok H.out)).mono ?_; rintro e w0 ⟨rfl, hw⟩; rw [hw]; clear hw)
    | (refine ⟨trivial, ?_⟩; gi_at_call 36; refine (callsIn_wide.2 (containsCr H.out W.heap.size hX A c ids HC.out hlen)).mono ?_; rintro e w1 ⟨rfl, hb⟩; rw [hok]; have HW := Aside0.mk (below_step HB.out hb); clear hb))
  go_ret
  exact ⟨rfl, HW.out⟩
end Go.Proofs.Ytlkijnnoalfblaa.Dk

namespace Go.Proofs.Ytlkijnnoalfblaa.Dk
open Go Go.RowKit Go.Shelf Go.Proofs Go.Maps Go.Proofs.Ytlkijnnoalfblaa.Sp Go.Proofs.Ytlkijnnoalfblaa.XFb Go.Proofs.YtlkijnnoalfblaaW.PrintWords Go.Proofs.YtlkijnnoalfblaaW.PrintLast Go.Proofs.YtlkijnnoalfblaaW.PrintMore
set_option linter.unusedVariables false
set_option linter.unusedSimpArgs false
theorem R_mapo {α : Type} {d : Kd α} {e base g c : Nat} {es : Array MapEntry} {ok : Nat → Prop} {w : World} {v : Value} {xs : List α} (h : Kd.R d e w base ok v xs) (hm : w.heap[g]? = some (.map es c)) : Kd.R d e w base (fun k => ok k ∧ k ≠ g) v xs :=
  Kd.R_mono (Kd.R_bound h) (fun k hk => ⟨hk.1, by
    obtain ⟨_, _, _, q, hq, cells, hc⟩ := hk
    rintro rfl
    rw [hm] at hc
    cases hc⟩)
/-- The write of a number. -/
def wrOf (q : List S49) (id : Int) : S49 := q.getD (ixL (fun x : S49 => x.f0 == id) q 0).toNat z49
/-- Blocks behind the write of a number. -/
def crB (q : List S49) (bl : List (List Int)) (id : Int) : List (List Int) := bl.set (wrOf q id).f1.toNat (wrOf q id).f2
theorem crB_fits {bl : List (List Int)} {q : List S49} {last : Int} (h : Fits bl q last) (id : Int) (hi : 0 ≤ ixL (fun x : S49 => x.f0 == id) q 0) : Fits (crB q bl id) q last := by
  rcases ixL_range (fun x : S49 => x.f0 == id) q 0 with e | ⟨k, hk, e⟩
  · rw [e] at hi; exact absurd hi (by decide)
  · have hw : wrOf q id = q[k] := by unfold wrOf; rw [e]; simp [List.getD_eq_getElem?_getD, hk]
    have hl : (crB q bl id).length = bl.length := by unfold crB; rw [List.length_set]
    exact ⟨by rw [hl]; exact h.some, by rw [hl]; exact h.most, fun x hx => by
      unfold crB at hx
      rcases List.mem_or_eq_of_mem_set hx with hx | rfl
      · exact h.each x hx
      · rw [hw]; exact h.sent _ (List.getElem_mem _), h.queue, h.sent, fun s hs => by rw [hl]; exact h.in_ s hs, h.low, h.high⟩
theorem crB_all {q : List S49} {last : Int} (ids : List Int) (hi : ∀ i ∈ ids, 0 ≤ ixL (fun x : S49 => x.f0 == i) q 0) : ∀ (bl : List (List Int)), Fits bl q last → Fits (ids.foldl (crB q) bl) q last := by
  induction ids with
  | nil => exact fun bl h => h
  | cons a r ih => exact fun bl h => ih (fun i hj => hi i (List.mem_cons_of_mem _ hj)) _ (crB_fits h a (hi a (List.mem_cons_self ..)))
theorem run_clear {W : World} (m : Nat) (es : Array MapEntry) (c : Nat) (hm : W.heap[m]? = some (.map es c)) (ty : TypeId) :
    (Builtin.clear_ #[68] ty #[.map (some m)]).run Try.prog W = .ok (.tuple #[]) { W with heap := W.heap.setIfInBounds m (.map #[] c) } := by
  simp [Builtin.clear_, run_underlying Try.underlying68, MapKept.run_getObj_map hm, MapKept.run_setObj_map _ hm, Result.andThen]
set_option maxRecDepth 100000 in
set_option maxHeartbeats 8000000 in
theorem crash_ok {W : World} {base D m : Nat} {S : Nat → Prop} {bl : List (List Int)} {q : List S49} {mo : Obj} {last : Int} (h : IsDk W base D m S bl q mo last) (A : Option Addr) (c : Nat) (ids : List Int) (hC : ∀ W', Kept S W W' → Kd.C (Kd.int .i64) W' A ids.length ids) (hlen : ids.length ≤ 1000000000000000) (hall : ∀ i ∈ ids, 0 ≤ ixL (fun x : S49 => x.f0 == i) q 0) :
    Calls Try.prog 13 #[.pointer (some ⟨D, 0, none⟩), .slice A ids.length c] W fun e W' => e = .returned (.int .i64 0) ∧ (∃ ck, IsDk W' base D m (fun k => S k ∨ (W.heap.size ≤ k ∧ k < W'.heap.size)) (ids.foldl (crB q) bl) [] (.map #[] ck) last) ∧ Kept S W W' := by
  have hb0 := below_alloc (Below.refl W.heap.size W) (.cells #[.pointer (some ⟨D, 0, none⟩)] 24)
  have HB := Aside0.mk hb0
  have H := Aside0.mk (h.below hb0)
  have HC := Aside0.mk hC
  have hCa := hC _ (Kept.of_below hb0)
  have HCa := Aside0.mk hCa
  have HX := Aside0.mk (World.alloc_heap_new W (.cells #[.pointer (some ⟨D, 0, none⟩)] 24))
  have hX : (W.alloc (.cells #[.pointer (some ⟨D, 0, none⟩)] 24)).cell? ⟨W.heap.size, 0, none⟩ = some (.pointer (some ⟨D, 0, none⟩)) := by simp only [World.cell?, HX.out]; rfl
  have hok : decide (0 ≤ ixI (fun i : Int => decide (ixL (fun x : S49 => x.f0 == i) q 0 < 0)) ids 0) = false := decide_eq_false (by rw [ixI_none _ ids 0 (fun i hi => decide_eq_false (by have := hall i hi; omega))]; decide)
  have HALL := Aside0.mk hall
  have HF := Aside0.mk (fun (i : Nat) => crB_all (ids.take i) (fun j hj => hall j (List.mem_of_mem_take hj)) bl h.fits)
  have HSL := Aside0.mk h.low
  have HSD := Aside0.mk h.inD
  have HSM := Aside0.mk h.inM
  have hDlt := (h.low D h.inD).2
  clear h hC hb0 hall hCa
  refine (callsIn_wide (n := 1)).1 ?_
  refine callsIn_of_wp Try.func13 rfl trivial ?_ rfl
  simp only [Try.ntmps13, List.size_toArray, List.length_cons, List.length_nil, Nat.reduceAdd, Nat.reduceSub, Array.replicate_succ, Array.replicate_zero, List.push_toArray, List.append_toArray, List.nil_append, List.cons_append]
  gi_wp2_with (first
    | (refine ⟨trivial, ?_⟩; gi_at_call 34; refine (callsIn_wide.2 (made_ok H.out)).mono ?_; rintro e w0 ⟨rfl, hw⟩; rw [hw]; clear hw)
    | (refine ⟨trivial, ?_⟩; gi_at_call 36; refine (callsIn_wide.2 (containsCr H.out W.heap.size hX A c ids HCa.out hlen)).mono ?_; rintro e w1 ⟨rfl, hb⟩; rw [hok]; have HW := Aside0.mk (below_step HB.out hb); have HI1 := Aside0.mk (H.out.below hb); have HX1 := Aside0.mk ((hb.block _ (heap_lt HX.out)).trans HX.out); clear hb))
  gi_loopw [16] (fun v16 wr => ∃ i : Nat, v16 = .int .i64 (i : Int) ∧ i ≤ ids.length ∧ Aside0 (IsDk wr base D m (fun k => S k ∨ (W.heap.size ≤ k ∧ k < wr.heap.size)) ((ids.take i).foldl (crB q) bl) q mo last) ∧ Aside0 (Kept S W wr) ∧ Aside0 (wr.heap[W.heap.size]? = some (.cells #[.pointer (some ⟨D, 0, none⟩)] 24 (0, 0))))
    (fun v16 _ => ids.length - (intOf v16).toNat)
  case atStart =>
    have hi1 := HI1.out
    exact ⟨0, rfl, Nat.zero_le _, ⟨⟨hi1.fits, by obtain ⟨vB, vQ, h1, h2, h3⟩ := hi1.cells; exact ⟨vB, vQ, h1, Kd.R_mono h2 (fun k hk => .inl hk), Kd.R_mono h3 (fun k hk => .inl hk)⟩, hi1.map, hi1.isMap, .inl hi1.inD, .inl hi1.inM, fun k hk => by
      rcases hk with hk | hk
      · exact hi1.low k hk
      · exact ⟨by have := (HSL.out D HSD.out); omega, hk.2⟩⟩⟩, ⟨Kept.of_below HW.out⟩, ⟨HX1.out⟩⟩
  case round =>
    obtain ⟨i, rfl, hi, HI, HK, HXr⟩ := hrel
    by_cases hlt : i < ids.length
    · have t1 : decide ((i : Int) < (ids.length : Int)) = true := decide_eq_true (by omega)
      have ew : wrap64 ((i : Int) + 1) = ((i + 1 : Nat) : Int) := by rw [IntWalk.wrap64_in _ (by omega)]; omega
      obtain ⟨ad, hA, hcid⟩ := at_int (HC.out wr HK.out) i hlt
      have hg : ids.getD i 0 = ids[i] := by simp [List.getD_eq_getElem?_getD, hlt]
      rw [hg] at hcid
      have hid0 := HALL.out ids[i] (List.getElem_mem _)
      have htk : (ids.take (i + 1)).foldl (crB q) bl = crB q ((ids.take i).foldl (crB q) bl) ids[i] := by rw [List.take_add_one, List.getElem?_eq_getElem hlt, List.foldl_append]; rfl
      have HTK := Aside0.mk htk
      clear htk hg
      have HF2 := Aside0.mk (HF.out i)
      generalize (ids.take i).foldl (crB q) bl = bl2 at *
      subst hA
      obtain ⟨id, hid⟩ : ∃ id, ids[i] = id := ⟨_, rfl⟩
      rw [hid] at hcid hid0 HTK
      clear hid
      obtain ⟨k, hkq, hix⟩ : ∃ k : Nat, k < q.length ∧ ixL (fun x : S49 => x.f0 == id) q 0 = (k : Int) := by
        rcases ixL_range (fun x : S49 => x.f0 == id) q 0 with e | ⟨k, hk, e⟩
        · rw [e] at hid0; exact absurd hid0 (by decide)
        · exact ⟨k, hk, by rw [e]; omega⟩
      have hq64 := HF2.out.queue
      obtain ⟨s, hsk⟩ : ∃ s, q[k] = s := ⟨_, rfl⟩
      have hws : wrOf q id = s := by unfold wrOf; rw [hix, ← hsk]; simp [List.getD_eq_getElem?_getD, hkq]
      have HTK2 := Aside0.mk (HTK.out.trans (by unfold crB; rw [hws] : crB q bl2 id = bl2.set s.f1.toNat s.f2))
      have HIN := Aside0.mk (show 0 ≤ s.f1 ∧ s.f1 < bl2.length by rw [← hsk]; exact HF2.out.in_ _ (List.getElem_mem _))
      obtain ⟨hf, ⟨vB, vQ, hD, hB, hQ⟩, hm, hmm, hSD, hSm, hlow⟩ := HI.out
      obtain ⟨gB, cB, rfl, hgB1, hgB2, csB, hgBc⟩ := Kd.R_form hB (by have := hf.some; omega)
      obtain ⟨gQ, cQ, rfl, hgQ1, hgQ2, csQ, hgQc⟩ := Kd.R_form hQ (by omega)
      have hSB := hB.1 gB (by simp [Value.ownBlock])
      obtain ⟨cs, hcl, hM, hcell, _⟩ := Kd.R_elem hQ z49 (k : Int) (by omega) (by omega)
      rw [Int.toNat_natCast, show q.getD k z49 = s by rw [← hsk]; simp [List.getD_eq_getElem?_getD, hkq]] at hM
      obtain ⟨v2, rfl, hv2⟩ := k49_openM hM
      obtain ⟨A2, c2, rfl⟩ := Kd.R_slice hv2
      have hq0 := hcell 0 _ rfl
      have hq1 := hcell 1 _ rfl
      have hq2 := hcell 2 _ rfl
      rw [Int.toNat_natCast, show (k49 : Kd S49).sz = 3 from rfl, Nat.add_zero] at hq0
      rw [Int.toNat_natCast, show (k49 : Kd S49).sz = 3 from rfl] at hq1 hq2
      clear hcell hcl hM
      have hDr := (hlow D hSD).2
      have rx : ∀ W1, Below wr.heap.size wr W1 → W1.cell? ⟨W.heap.size, 0, none⟩ = some (.pointer (some ⟨D, 0, none⟩)) := fun W1 hb => by simp [World.cell?, hb.block _ (heap_lt HXr.out), HXr.out]
      have rd0 : ∀ W1, Below wr.heap.size wr W1 → W1.cell? ⟨D, 0, none⟩ = some (.slice (some ⟨gB, 0, none⟩) bl2.length cB) := fun W1 hb => by simp [World.cell?, hb.block _ hDr, hD]
      have rd1 : ∀ W1, Below wr.heap.size wr W1 → W1.cell? ⟨D, 1, none⟩ = some (.slice (some ⟨gQ, 0, none⟩) q.length cQ) := fun W1 hb => by simp [World.cell?, hb.block _ hDr, hD]
      have rq0 : ∀ W1, Below wr.heap.size wr W1 → W1.cell? ⟨gQ, k * 3, none⟩ = some (.int .i64 s.f0) := fun W1 hb => (hb.cell (p := ⟨gQ, k * 3, none⟩) hgQ2).trans hq0
      have rq1 : ∀ W1, Below wr.heap.size wr W1 → W1.cell? ⟨gQ, k * 3 + 1, none⟩ = some (.int .i64 s.f1) := fun W1 hb => (hb.cell (p := ⟨gQ, k * 3 + 1, none⟩) hgQ2).trans hq1
      have rq2 : ∀ W1, Below wr.heap.size wr W1 → W1.cell? ⟨gQ, k * 3 + 2, none⟩ = some (.slice A2 s.f2.length c2) := fun W1 hb => (hb.cell (p := ⟨gQ, k * 3 + 2, none⟩) hgQ2).trans hq2
      have HV2 := Aside0.mk hv2
      have HBL := Aside0.mk hB
      have HDk := Aside0.mk (And.intro hD (And.intro hgBc (And.intro hSB (And.intro hgB1 (And.intro hgB2 hmm)))))
      have p0 : (0 : Int) ≤ (k : Int) := by omega
      have p1 : (k : Int) < (q.length : Int) := by omega
      clear hq0 hq1 hq2 hv2 hB hQ hD hgBc hSB hgB1 hgB2 hmm hgQ1 hgQc hf hm hSm hSD hlow hws hid0 hq64
      gi_wp2
      have HB8 := Aside0.mk (below_drew (Below.refl wr.heap.size wr))
      refine wpIn_wide.2 ?_
      refine start_ (n := 11) (S := fun w' => w'.cell? ⟨W.heap.size, 0, none⟩ = some (.pointer (some ⟨D, 0, none⟩)) ∧ w'.cell? ⟨D, 1, none⟩ = some (.slice (some ⟨gQ, 0, none⟩) q.length cQ) ∧ w'.cell? ⟨gQ, k * 3, none⟩ = some (.int .i64 s.f0) ∧ w'.cell? ⟨gQ, k * 3 + 1, none⟩ = some (.int .i64 s.f1) ∧ w'.cell? ⟨gQ, k * 3 + 2, none⟩ = some (.slice A2 s.f2.length c2)) (ds := [10]) #[false, false, false, false, false, false, false, false, false, false, false] (by kernel_rfl) rfl rfl ⟨(rx _ HB8.out), (rd1 _ HB8.out), (rq0 _ HB8.out), (rq1 _ HB8.out), (rq2 _ HB8.out)⟩ (fun hHeld => ?_)
      generalize wr.drew = W2 at HB8 hHeld ⊢
      refine pure_ (i := 5) (N := some 25) (v := ?_) (a' := ?_) #[false, false, false, false, false, true, false, false, false, false, false] rfl rfl (by kernel_rfl) (fun _ _ _ h => h) (Or.inl ⟨by rfl, ?_⟩) ?_ ?_
      rotate_left
      · intro w'
        go_simp
        with_reducible rfl
      rotate_left
      · simp only [Act.put, List.setIfInBounds_toArray, List.set_cons_zero, List.set_cons_succ, i64_w, i32_w]
        rfl
      refine take_ (i := 0) (N := some 20) (v := ?_) (a' := ?_) #[true, false, false, false, false, true, false, false, false, false, false] rfl rfl (by kernel_rfl) (fun _ _ _ h => h) (Or.inl ⟨by rfl, ?_⟩) hHeld ?_ ?_
      rotate_left
      · rintro w' ⟨s0, s1, s2, s3, s4⟩
        go_simp
        with_reducible rfl
      rotate_left
      · simp only [Act.put, List.setIfInBounds_toArray, List.set_cons_zero, List.set_cons_succ, i64_w, i32_w]
        rfl
      refine pure_ (i := 1) (N := some 21) (v := ?_) (a' := ?_) #[true, true, false, false, false, true, false, false, false, false, false] rfl rfl (by kernel_rfl) (fun _ _ _ h => h) (Or.inl ⟨by rfl, ?_⟩) ?_ ?_
      rotate_left
      · intro w'
        go_simp
        with_reducible rfl
      rotate_left
      · simp only [Act.put, List.setIfInBounds_toArray, List.set_cons_zero, List.set_cons_succ, i64_w, i32_w]
        rfl
      refine pure_ (i := 2) (N := some 22) (v := ?_) (a' := ?_) #[true, true, true, false, false, true, false, false, false, false, false] rfl rfl (by kernel_rfl) (fun _ _ _ h => h) (Or.inl ⟨by rfl, ?_⟩) ?_ ?_
      rotate_left
      · intro w'
        go_simp
        with_reducible rfl
      rotate_left
      · simp only [Act.put, List.setIfInBounds_toArray, List.set_cons_zero, List.set_cons_succ, i64_w, i32_w]
        rfl
      refine take_ (i := 3) (N := some 23) (v := ?_) (a' := ?_) #[true, true, true, true, false, true, false, false, false, false, false] rfl rfl (by kernel_rfl) (fun _ _ _ h => h) (Or.inl ⟨by rfl, ?_⟩) hHeld ?_ ?_
      rotate_left
      · rintro w' ⟨s0, s1, s2, s3, s4⟩
        go_simp
        with_reducible rfl
      rotate_left
      · simp only [Act.put, List.setIfInBounds_toArray, List.set_cons_zero, List.set_cons_succ, i64_w, i32_w]
        rfl
      refine take_ (i := 4) (N := some 24) (v := ?_) (a' := ?_) #[true, true, true, true, true, true, false, false, false, false, false] rfl rfl (by kernel_rfl) (fun _ _ _ h => h) (Or.inl ⟨by rfl, ?_⟩) hHeld ?_ ?_
      rotate_left
      · rintro w' ⟨s0, s1, s2, s3, s4⟩
        go_simp
        with_reducible rfl
      rotate_left
      · simp only [Act.put, List.setIfInBounds_toArray, List.set_cons_zero, List.set_cons_succ, i64_w, i32_w]
        rfl
      refine join_ (σ := Nat) 1 #[true, true, true, true, true, true, true, true, true, true, false] (fun zz => [(26, .int .i64 (k : Int)), (27, .pointer (some ⟨gQ, k * 3, none⟩)), (28, .agg #[.int .i64 s.f0, .int .i64 s.f1, .slice A2 s.f2.length c2]), (7, .pointer (some ⟨zz, 0, none⟩))]) (fun z w' => w'.heap[z]? = some (.cells #[.int .i64 0, .int .i64 0, .slice none 0 0] 49 (0, 0)) ∧ wr.heap.size ≤ z ∧ Below wr.heap.size wr w') ?_ ?_
      rotate_left
      · intro hCont
        refine two_ (i := 6) (j := 9) (Ni := some 26) (Nj := some 7) #[true, true, true, true, true, true, true, false, false, false, false] #[true, true, true, true, true, true, false, false, false, true, false] rfl rfl rfl rfl (by kernel_rfl) (by decide) (by decide) (fun K hK => ?_) (fun K hK => ?_)
        · skip
          refine goes_ Try.func38 (by kernel_rfl) rfl #[.pointer (some ⟨D, 0, none⟩), .int .i64 id] (by rfl) rfl rfl (by simp only [List.map_toArray, List.map_cons, List.map_nil]; rfl) ?_
          with_reducible refine ((place_ok (HI.out.below HB8.out) id)).mono ?_
          rintro e w6 ⟨rfl, hb6⟩
          refine ⟨_, rfl, ?_⟩
          rw [hix]
          have nHB8_ := Aside0.mk (below_step HB8.out hb6)
          clear HB8
          have HB8 := nHB8_
          clear nHB8_
          clear hb6
          refine hK.out _ _ ⟨(rx _ HB8.out), (rd1 _ HB8.out), (rq0 _ HB8.out), (rq1 _ HB8.out), (rq2 _ HB8.out)⟩ (fun hHeld => ?_)
          clear hK K
          refine norm_ (a' := ?_) ?_ ?_
          rotate_left
          · show Act.put _ (some 26) _ = _
            simp only [Act.put, List.setIfInBounds_toArray, List.set_cons_zero, List.set_cons_succ, i64_w, i32_w]
            rfl
          refine pure_ (i := 7) (N := some 27) (v := ?_) (a' := ?_) #[true, true, true, true, true, true, true, true, false, false, false] rfl rfl (by kernel_rfl) (fun _ _ _ h => h) (Or.inl ⟨by rfl, ?_⟩) ?_ ?_
          rotate_left
          · intro w'
            go_simp
            with_reducible rfl
          rotate_left
          · simp only [Act.put, List.setIfInBounds_toArray, List.set_cons_zero, List.set_cons_succ, i64_w, i32_w]
            rfl
          refine take_ (i := 8) (N := some 28) (v := ?_) (a' := ?_) #[true, true, true, true, true, true, true, true, true, false, false] rfl rfl (by kernel_rfl) (fun _ _ _ h => h) (Or.inl ⟨by rfl, ?_⟩) hHeld ?_ ?_
          rotate_left
          · rintro w' ⟨s0, s1, s2, s3, s4⟩
            go_simp
            with_reducible rfl
          rotate_left
          · simp only [Act.put, List.setIfInBounds_toArray, List.set_cons_zero, List.set_cons_succ, i64_w, i32_w]
            rfl
          refine one_ (i := 9) (N := some 7) #[true, true, true, true, true, true, true, true, true, true, false] rfl rfl (by kernel_rfl) (by decide) (fun K hK => ?_)
          refine value_ (w1 := ?_) (v := ?_) (by rfl) rfl ?_ ?_
          rotate_left 2
          · go_simp
            constructor
            · rfl
            · rfl
          have HZ := Aside0.mk (alloc_new_of HB8.out (.cells #[.int .i64 0, .int .i64 0, .slice none 0 0] 49))
          have HLZ := Aside0.mk HB8.out.size
          have nHB8_ := Aside0.mk (below_alloc HB8.out (.cells #[.int .i64 0, .int .i64 0, .slice none 0 0] 49))
          clear HB8
          have HB8 := nHB8_
          clear nHB8_
          refine hK.out _ _ ⟨(rx _ HB8.out), (rd1 _ HB8.out), (rq0 _ HB8.out), (rq1 _ HB8.out), (rq2 _ HB8.out)⟩ (fun hHeld => ?_)
          clear hK K
          refine norm_ (a' := ?_) ?_ ?_
          rotate_left
          · show Act.put _ (some 7) _ = _
            simp only [Act.put, List.setIfInBounds_toArray, List.set_cons_zero, List.set_cons_succ, i64_w, i32_w]
            rfl
          exact norm_ (by simp only [putAll, Act.put, List.setIfInBounds_toArray, List.set_cons_zero, List.set_cons_succ]) (hCont (w6.heap.size) _ ⟨HZ.out, HLZ.out, HB8.out⟩)
        · skip
          refine value_ (w1 := ?_) (v := ?_) (by rfl) rfl ?_ ?_
          rotate_left 2
          · go_simp
            constructor
            · rfl
            · rfl
          have HZ := Aside0.mk (alloc_new_of HB8.out (.cells #[.int .i64 0, .int .i64 0, .slice none 0 0] 49))
          have HLZ := Aside0.mk HB8.out.size
          have nHB8_ := Aside0.mk (below_alloc HB8.out (.cells #[.int .i64 0, .int .i64 0, .slice none 0 0] 49))
          clear HB8
          have HB8 := nHB8_
          clear nHB8_
          refine hK.out _ _ ⟨(rx _ HB8.out), (rd1 _ HB8.out), (rq0 _ HB8.out), (rq1 _ HB8.out), (rq2 _ HB8.out)⟩ (fun hHeld => ?_)
          clear hK K
          refine norm_ (a' := ?_) ?_ ?_
          rotate_left
          · show Act.put _ (some 7) _ = _
            simp only [Act.put, List.setIfInBounds_toArray, List.set_cons_zero, List.set_cons_succ, i64_w, i32_w]
            rfl
          refine one_ (i := 6) (N := some 26) #[true, true, true, true, true, true, true, false, false, true, false] rfl rfl (by kernel_rfl) (by decide) (fun K hK => ?_)
          refine goes_ Try.func38 (by kernel_rfl) rfl #[.pointer (some ⟨D, 0, none⟩), .int .i64 id] (by rfl) rfl rfl (by simp only [List.map_toArray, List.map_cons, List.map_nil]; rfl) ?_
          with_reducible refine ((place_ok (HI.out.below HB8.out) id)).mono ?_
          rintro e w6 ⟨rfl, hb6⟩
          refine ⟨_, rfl, ?_⟩
          rw [hix]
          have nHZ_ := Aside0.mk ((hb6.block _ (heap_lt HZ.out)).trans HZ.out)
          clear HZ
          have HZ := nHZ_
          clear nHZ_
          have nHB8_ := Aside0.mk (below_step HB8.out hb6)
          clear HB8
          have HB8 := nHB8_
          clear nHB8_
          clear hb6
          refine hK.out _ _ ⟨(rx _ HB8.out), (rd1 _ HB8.out), (rq0 _ HB8.out), (rq1 _ HB8.out), (rq2 _ HB8.out)⟩ (fun hHeld => ?_)
          clear hK K
          refine norm_ (a' := ?_) ?_ ?_
          rotate_left
          · show Act.put _ (some 26) _ = _
            simp only [Act.put, List.setIfInBounds_toArray, List.set_cons_zero, List.set_cons_succ, i64_w, i32_w]
            rfl
          refine pure_ (i := 7) (N := some 27) (v := ?_) (a' := ?_) #[true, true, true, true, true, true, true, true, false, true, false] rfl rfl (by kernel_rfl) (fun _ _ _ h => h) (Or.inl ⟨by rfl, ?_⟩) ?_ ?_
          rotate_left
          · intro w'
            go_simp
            with_reducible rfl
          rotate_left
          · simp only [Act.put, List.setIfInBounds_toArray, List.set_cons_zero, List.set_cons_succ, i64_w, i32_w]
            rfl
          refine take_ (i := 8) (N := some 28) (v := ?_) (a' := ?_) #[true, true, true, true, true, true, true, true, true, true, false] rfl rfl (by kernel_rfl) (fun _ _ _ h => h) (Or.inl ⟨by rfl, ?_⟩) hHeld ?_ ?_
          rotate_left
          · rintro w' ⟨s0, s1, s2, s3, s4⟩
            go_simp
            with_reducible rfl
          rotate_left
          · simp only [Act.put, List.setIfInBounds_toArray, List.set_cons_zero, List.set_cons_succ, i64_w, i32_w]
            rfl
          exact norm_ (by simp only [putAll, Act.put, List.setIfInBounds_toArray, List.set_cons_zero, List.set_cons_succ]) (hCont (W2.heap.size) _ ⟨HZ.out, HLZ.out, HB8.out⟩)
      rintro z w3 ⟨hz3, hle3, hb3⟩
      have HZ := Aside0.mk hz3
      have HLZ := Aside0.mk hle3
      have HB8 := Aside0.mk hb3
      have z0 : w3.cell? ⟨z, 0, none⟩ = some (.int .i64 0) := by simp [World.cell?, hz3]
      have z1 : w3.cell? ⟨z, 1, none⟩ = some (.int .i64 0) := by simp [World.cell?, hz3]
      have z2 : w3.cell? ⟨z, 2, none⟩ = some (.slice none 0 0) := by simp [World.cell?, hz3]
      have zf : ∀ i, w3.frozen? ⟨z, i, none⟩ = false := fun i => by simp [World.frozen?, hz3]
      have hHeld : (w3.cell? ⟨W.heap.size, 0, none⟩ = some (.pointer (some ⟨D, 0, none⟩))) ∧ (w3.cell? ⟨D, 1, none⟩ = some (.slice (some ⟨gQ, 0, none⟩) q.length cQ)) ∧ (w3.cell? ⟨gQ, k * 3, none⟩ = some (.int .i64 s.f0)) ∧ (w3.cell? ⟨gQ, k * 3 + 1, none⟩ = some (.int .i64 s.f1)) ∧ (w3.cell? ⟨gQ, k * 3 + 2, none⟩ = some (.slice A2 s.f2.length c2)) := ⟨rx _ hb3, rd1 _ hb3, rq0 _ hb3, rq1 _ hb3, rq2 _ hb3⟩
      clear hz3 hle3 hb3
      refine norm_ (a' := ?_) ?_ ?_
      rotate_left
      · simp only [putAll, Act.put, List.setIfInBounds_toArray, List.set_cons_zero, List.set_cons_succ]
        rfl
      refine last_ (i := 10) (N := none) #[true, true, true, true, true, true, true, true, true, true, true] rfl rfl (by kernel_rfl) (by decide) (fun K hK => ?_)
      refine skip_ (w1 := ?_) (by rfl) rfl ?_ ?_
      rotate_left
      · go_simp
        rfl
      refine hK.out _ _ ?_
      clear hK K
      refine done_ (by kernel_rfl) ?_

      have HZ4 := Aside0.mk (Go.Proofs.Ytlkijnnoalfblaa.Nb.set_heap (Go.Proofs.Ytlkijnnoalfblaa.Nb.set_heap (Go.Proofs.Ytlkijnnoalfblaa.Nb.set_heap HZ.out (o := 0) (.int .i64 s.f0)) (o := 1) (.int .i64 s.f1)) (o := 2) (.slice A2 s.f2.length c2))
      have HB4 := Aside0.mk (((HB8.out.setCell (p := ⟨z, 0, none⟩) HLZ.out (.int .i64 s.f0)).setCell (p := ⟨z, 1, none⟩) HLZ.out (.int .i64 s.f1)).setCell (p := ⟨z, 2, none⟩) HLZ.out (.slice A2 s.f2.length c2))
      simp only [List.setIfInBounds_toArray, List.set_cons_zero, List.set_cons_succ] at HZ4
      clear z0 z1 z2 zf hHeld HB8 HZ
      generalize ((w3.setCell ⟨z, 0, none⟩ (.int .i64 s.f0)).setCell ⟨z, 1, none⟩ (.int .i64 s.f1)).setCell ⟨z, 2, none⟩ (.slice A2 s.f2.length c2) = W4 at *
      have HB4d := Aside0.mk (below_drew HB4.out)
      have HBL4 := Aside0.mk (Kd.R_below HBL.out HB4d.out)
      have HV4 := Aside0.mk (Kd.R_below HV2.out HB4d.out)
      have pz1 : 0 ≤ s.f1 := HIN.out.1
      have pz2 : s.f1 < (bl2.length : Int) := HIN.out.2
      have hcl : Calls Try.prog 39 #[.slice A2 s.f2.length c2] W4.drew (fun e w' => ∃ v0 : Value, e = .returned v0 ∧ Kd.R (Kd.int .u8) 5 w' W4.drew.heap.size (fun _ => True) v0 s.f2 ∧ Below W4.drew.heap.size W4.drew w') :=
        bytes_Clone.calls A2 c2 s.f2 s.f2 W4.drew (Kd.R_reads' HV4.out).2.2 (Kd.R_reads' HV4.out).2.1 (by unfold bytes_Clone.f; rw [if_pos (by have := HF2.out.sent s (by rw [← hsk]; exact List.getElem_mem _); omega)])
      have y0x := rx _ HB4d.out
      have y0d := rd0 _ HB4d.out
      have y0z : W4.drew.cell? ⟨z, 1, none⟩ = some (.int .i64 s.f1) := show W4.cell? _ = _ by simp [World.cell?, HZ4.out]
      have y0y : W4.drew.cell? ⟨z, 2, none⟩ = some (.slice A2 s.f2.length c2) := show W4.cell? _ = _ by simp [World.cell?, HZ4.out]
      have kx5 := fun (W1 : World) (hb : Below W4.drew.heap.size W4.drew W1) => rx W1 (below_step HB4d.out hb)
      have kd5 := fun (W1 : World) (hb : Below W4.drew.heap.size W4.drew W1) => rd0 W1 (below_step HB4d.out hb)
      have hz4l := heap_lt HZ4.out
      have kz5 : ∀ (W1 : World), Below W4.drew.heap.size W4.drew W1 → W1.cell? ⟨z, 1, none⟩ = some (.int .i64 s.f1) := fun W1 hb => (hb.cell (p := ⟨z, 1, none⟩) hz4l).trans y0z
      have ky5 : ∀ (W1 : World), Below W4.drew.heap.size W4.drew W1 → W1.cell? ⟨z, 2, none⟩ = some (.slice A2 s.f2.length c2) := fun W1 hb => (hb.cell (p := ⟨z, 2, none⟩) hz4l).trans y0y
      clear rx rd0 rd1 rq0 rq1 rq2 hcid t1
      gi_wp2
      refine wpIn_wide.2 ?_
      refine start_ (n := 11) (S := fun w' => w'.cell? ⟨W.heap.size, 0, none⟩ = some (.pointer (some ⟨D, 0, none⟩)) ∧ w'.cell? ⟨D, 0, none⟩ = some (.slice (some ⟨gB, 0, none⟩) bl2.length cB) ∧ w'.cell? ⟨z, 1, none⟩ = some (.int .i64 s.f1) ∧ w'.cell? ⟨z, 2, none⟩ = some (.slice A2 s.f2.length c2)) (ds := [10]) #[false, false, false, false, false, false, false, false, false, false, false] (by kernel_rfl) rfl rfl ⟨y0x, y0d, y0z, y0y⟩ (fun hHeld => ?_)
      refine pure_ (i := 4) (N := some 33) (v := ?_) (a' := ?_) #[false, false, false, false, true, false, false, false, false, false, false] rfl rfl (by kernel_rfl) (fun _ _ _ h => h) (Or.inl ⟨by rfl, ?_⟩) ?_ ?_
      rotate_left
      · intro w'
        go_simp
        with_reducible rfl
      rotate_left
      · simp only [Act.put, List.setIfInBounds_toArray, List.set_cons_zero, List.set_cons_succ, i64_w, i32_w]
        rfl
      refine pure_ (i := 6) (N := some 35) (v := ?_) (a' := ?_) #[false, false, false, false, true, false, true, false, false, false, false] rfl rfl (by kernel_rfl) (fun _ _ _ h => h) (Or.inl ⟨by rfl, ?_⟩) ?_ ?_
      rotate_left
      · intro w'
        go_simp
        with_reducible rfl
      rotate_left
      · simp only [Act.put, List.setIfInBounds_toArray, List.set_cons_zero, List.set_cons_succ, i64_w, i32_w]
        rfl
      refine take_ (i := 0) (N := some 29) (v := ?_) (a' := ?_) #[true, false, false, false, true, false, true, false, false, false, false] rfl rfl (by kernel_rfl) (fun _ _ _ h => h) (Or.inl ⟨by rfl, ?_⟩) hHeld ?_ ?_
      rotate_left
      · rintro w' ⟨s0, s1, s2, s3⟩
        go_simp
        with_reducible rfl
      rotate_left
      · simp only [Act.put, List.setIfInBounds_toArray, List.set_cons_zero, List.set_cons_succ, i64_w, i32_w]
        rfl
      refine pure_ (i := 1) (N := some 30) (v := ?_) (a' := ?_) #[true, true, false, false, true, false, true, false, false, false, false] rfl rfl (by kernel_rfl) (fun _ _ _ h => h) (Or.inl ⟨by rfl, ?_⟩) ?_ ?_
      rotate_left
      · intro w'
        go_simp
        with_reducible rfl
      rotate_left
      · simp only [Act.put, List.setIfInBounds_toArray, List.set_cons_zero, List.set_cons_succ, i64_w, i32_w]
        rfl
      refine pure_ (i := 2) (N := some 31) (v := ?_) (a' := ?_) #[true, true, true, false, true, false, true, false, false, false, false] rfl rfl (by kernel_rfl) (fun _ _ _ h => h) (Or.inl ⟨by rfl, ?_⟩) ?_ ?_
      rotate_left
      · intro w'
        go_simp
        with_reducible rfl
      rotate_left
      · simp only [Act.put, List.setIfInBounds_toArray, List.set_cons_zero, List.set_cons_succ, i64_w, i32_w]
        rfl
      refine take_ (i := 3) (N := some 32) (v := ?_) (a' := ?_) #[true, true, true, true, true, false, true, false, false, false, false] rfl rfl (by kernel_rfl) (fun _ _ _ h => h) (Or.inl ⟨by rfl, ?_⟩) hHeld ?_ ?_
      rotate_left
      · rintro w' ⟨s0, s1, s2, s3⟩
        go_simp
        with_reducible rfl
      rotate_left
      · simp only [Act.put, List.setIfInBounds_toArray, List.set_cons_zero, List.set_cons_succ, i64_w, i32_w]
        rfl
      refine take_ (i := 5) (N := some 34) (v := ?_) (a' := ?_) #[true, true, true, true, true, true, true, false, false, false, false] rfl rfl (by kernel_rfl) (fun _ _ _ h => h) (Or.inl ⟨by rfl, ?_⟩) hHeld ?_ ?_
      rotate_left
      · rintro w' ⟨s0, s1, s2, s3⟩
        go_simp
        with_reducible rfl
      rotate_left
      · simp only [Act.put, List.setIfInBounds_toArray, List.set_cons_zero, List.set_cons_succ, i64_w, i32_w]
        rfl
      refine take_ (i := 7) (N := some 36) (v := ?_) (a' := ?_) #[true, true, true, true, true, true, true, true, false, false, false] rfl rfl (by kernel_rfl) (fun _ _ _ h => h) (Or.inl ⟨by rfl, ?_⟩) hHeld ?_ ?_
      rotate_left
      · rintro w' ⟨s0, s1, s2, s3⟩
        go_simp
        with_reducible rfl
      rotate_left
      · simp only [Act.put, List.setIfInBounds_toArray, List.set_cons_zero, List.set_cons_succ, i64_w, i32_w]
        rfl
      refine one_ (i := 8) (N := some 37) #[true, true, true, true, true, true, true, true, true, false, false] rfl rfl (by kernel_rfl) (by decide) (fun K hK => ?_)
      refine goes_ Try.func39 (by kernel_rfl) rfl #[.slice A2 s.f2.length c2] (by rfl) rfl rfl (by simp only [List.map_toArray, List.map_cons, List.map_nil]; rfl) ?_
      with_reducible refine (hcl).mono ?_
      rintro e w5 ⟨v5, rfl, hr5, hb5⟩
      refine ⟨_, rfl, ?_⟩
      obtain ⟨A5, c5, rfl⟩ := Kd.R_slice hr5
      have HR5 := Aside0.mk hr5
      have HB5 := Aside0.mk hb5
      have HBL5 := Aside0.mk (Kd.R_below HBL4.out hb5)
      obtain ⟨csE, hclE, ⟨vE, rfl, hvE⟩, hcellE, hfroE⟩ := Kd.R_elem HBL5.out ([] : List Int) s.f1 HIN.out.1 HIN.out.2
      have y0 : w5.cell? ⟨gB, s.f1.toNat, none⟩ = some vE := (by have h := hcellE 0 vE rfl; rw [show s.f1.toNat * (Kd.slice 5 (Kd.int .u8)).sz + 0 = s.f1.toNat from Nat.mul_one _] at h; exact h)
      have y1 : w5.frozen? ⟨gB, s.f1.toNat, none⟩ = false := (by have h := hfroE 0; rw [show s.f1.toNat * (Kd.slice 5 (Kd.int .u8)).sz + 0 = s.f1.toNat from Nat.mul_one _] at h; exact h)
      have HCE := Aside0.mk (And.intro hclE hcellE)
      clear hr5 hb5 hfroE hvE hclE hcellE
      refine hK.out _ _ ⟨(kx5 _ HB5.out), (kd5 _ HB5.out), (kz5 _ HB5.out), (ky5 _ HB5.out)⟩ (fun hHeld => ?_)
      clear hK K
      refine norm_ (a' := ?_) ?_ ?_
      rotate_left
      · show Act.put _ (some 37) _ = _
        simp only [Act.put, List.setIfInBounds_toArray, List.set_cons_zero, List.set_cons_succ, i64_w, i32_w]
        rfl
      refine pure_ (i := 9) (N := some 38) (v := ?_) (a' := ?_) #[true, true, true, true, true, true, true, true, true, true, false] rfl rfl (by kernel_rfl) (fun _ _ _ h => h) (Or.inl ⟨by rfl, ?_⟩) ?_ ?_
      rotate_left
      · intro w'
        go_simp
        with_reducible rfl
      rotate_left
      · simp only [Act.put, List.setIfInBounds_toArray, List.set_cons_zero, List.set_cons_succ, i64_w, i32_w]
        rfl
      refine last_ (i := 10) (N := none) #[true, true, true, true, true, true, true, true, true, true, true] rfl rfl (by kernel_rfl) (by decide) (fun K hK => ?_)
      refine skip_ (w1 := ?_) (by rfl) rfl ?_ ?_
      rotate_left
      · go_simp
        rfl
      refine hK.out _ _ ?_
      clear hK K
      refine done_ (by kernel_rfl) ?_

      obtain ⟨hclE, hcellE⟩ := HCE.out
      obtain ⟨hDo, hgBc, hSB, hgB1, hgB2, hmm⟩ := HDk.out
      have hle4 : wr.heap.size ≤ W4.drew.heap.size := HB4d.out.size
      have hle5 : W4.drew.heap.size ≤ w5.heap.size := HB5.out.size
      have hleK : W.heap.size ≤ wr.heap.size := HK.out.size
      have hbw : base ≤ W.heap.size := by have := HSL.out D HSD.out; omega
      have hV5 : Kd.R (Kd.int .u8) 5 w5 base (fun k => W4.drew.heap.size ≤ k ∧ k < w5.heap.size) (.slice A5 s.f2.length c5) s.f2 := Kd.R_mono (Kd.R_lower (Kd.R_bound HR5.out) (by omega)) (fun k hk => ⟨hk.2.1, hk.2.2.1⟩)
      obtain ⟨hB6, hg6⟩ := Kd.R_seg (okp := fun k => W4.drew.heap.size ≤ k ∧ k < w5.heap.size) (j := 0) (seg := [.slice A5 s.f2.length c5]) (Kd.R_mono HBL5.out (fun k hk => hk.imp (fun h => h) (fun h => ⟨h.1, by omega⟩)) : Kd.R (Kd.slice 5 (Kd.int .u8)) 47 w5 base (fun k => S k ∨ (W.heap.size ≤ k ∧ k < w5.heap.size)) (.slice (some ⟨gB, 0, none⟩) bl2.length cB) bl2) s.f1 HIN.out.1 HIN.out.2 hclE hcellE (show (0 + 1 : Nat) ≤ 1 by decide) (x' := s.f2) ⟨_, rfl, hV5⟩ (fun k hk => ⟨.inr ⟨by omega, hk.2⟩, fun e => by omega⟩)
      have e4 : w5.setCells gB (s.f1.toNat * (Kd.slice 5 (Kd.int .u8)).sz + 0) [.slice A5 s.f2.length c5] = w5.setCell ⟨gB, s.f1.toNat, none⟩ (.slice A5 s.f2.length c5) := by
        show w5.setCell ⟨gB, s.f1.toNat * 1 + 0, none⟩ _ = _
        rw [Nat.mul_one, Nat.add_zero]
      rw [e4] at hB6 hg6
      have hb5 : Below wr.heap.size wr w5 := below_step HB4d.out HB5.out
      have hk6 : ∀ j, j < wr.heap.size → j ≠ gB → (w5.setCell ⟨gB, s.f1.toNat, none⟩ (.slice A5 s.f2.length c5)).heap[j]? = wr.heap[j]? := fun j hj hn => (Below.heap_setCell w5 ⟨gB, s.f1.toNat, none⟩ _ j hn).trans (hb5.block j hj)
      have hs6 : (w5.setCell ⟨gB, s.f1.toNat, none⟩ (.slice A5 s.f2.length c5)).heap.size = w5.heap.size := by simp [World.setCell]
      have HR6 := Aside0.mk (And.intro hB6 (And.intro hg6 (And.intro hk6 hs6)))
      clear hB6 hg6 hk6 hs6 e4 hV5 hclE hcellE hcl kx5 kd5 kz5 ky5 y0x y0d y0z y0y
      generalize w5.setCell ⟨gB, s.f1.toNat, none⟩ (.slice A5 s.f2.length c5) = W6 at *
      gi_wp2
      go_roundw
      case rel =>
        obtain ⟨hB6, hg6, hk6, hs6⟩ := HR6.out
        have hi := HI.out
        have hDB : D ≠ gB := fun e => by rw [e, hgBc] at hDo; simp at hDo
        have hmB : m ≠ gB := fun e => by obtain ⟨es, cc, rfl⟩ := hmm; have := hi.map; rw [e, hgBc] at this; simp at this
        have hXB : W.heap.size ≠ gB := fun e => by have := HXr.out; rw [e, hgBc] at this; simp at this
        obtain ⟨vB, vQ, hD1, hB1, hQ1⟩ := hi.cells
        have hQ6 := Kd.R_step (Kd.R_types hQ1 hgBc (by decide)) (fun j hj hlt => hk6 j hlt hj.2)
        rw [hDo] at hD1
        injection hD1 with hD1
        injection hD1 with hD1
        injection hD1 with hD1
        injection hD1 with e1 e2
        injection e2 with e2 e3
        subst e2
        refine ⟨i + 1, rfl, hlt, ⟨?_⟩, ⟨(HK.out.trans (Kept.of_below hb5) (fun j hj => .inl hj)).trans (Kept.of_grown (S := fun k => k = gB) hg6 (fun k hk => by injection hk with hk; exact hk.symm)) (fun j hj => by subst hj; exact hSB.imp (fun h => h) (fun h => h.1))⟩, ⟨(hk6 _ (heap_lt HXr.out) hXB).trans HXr.out⟩⟩
        rw [HTK2.out]
        exact ⟨HTK2.out ▸ HF.out (i + 1), ⟨_, _, (hk6 D (hi.low D hi.inD).2 hDB).trans hDo, Kd.R_mono hB6 (fun k hk => by rw [hs6]; exact hk), Kd.R_mono hQ6 (fun k hk => hk.1.imp (fun h => h) (fun h => ⟨h.1, by omega⟩))⟩, (hk6 m (hi.low m hi.inM).2 hmB).trans hi.map, hi.isMap, .inl HSD.out, .inl HSM.out, fun k hk => by
          rcases hk with hk | hk
          · exact ⟨(HSL.out k hk).1, by have := (HSL.out k hk).2; omega⟩
          · exact ⟨by omega, hk.2⟩⟩
      case measure =>
        show ids.length - ((i : Int) + 1).toNat < ids.length - ((i : Int)).toNat
        omega
    · obtain rfl : i = ids.length := by omega
      have t1 : decide ((ids.length : Int) < (ids.length : Int)) = false := decide_eq_false (by omega)
      have hi0 := HI.out
      rw [List.take_length] at hi0
      have HI2 := Aside0.mk hi0
      clear HI hi0
      obtain ⟨hf, ⟨vB, vQ, hD, hB, hQ⟩, hm, ⟨es, ck, rfl⟩, hSD, hSm, hlow⟩ := HI2.out
      have hDr := (hlow D hSD).2
      have hXD : W.heap.size ≠ D := fun e => by have := HXr.out; rw [e, hD] at this; simp at this
      have hmD : m ≠ D := fun e => by rw [e, hD] at hm; simp at hm
      have cx : wr.cell? ⟨W.heap.size, 0, none⟩ = some (.pointer (some ⟨D, 0, none⟩)) := by simp [World.cell?, HXr.out]
      obtain ⟨AB, cB, rfl⟩ := Kd.R_slice hB
      obtain ⟨AQ, cQ, rfl⟩ := Kd.R_slice hQ
      have cq : wr.cell? ⟨D, 1, none⟩ = some (.slice AQ q.length cQ) := by simp [World.cell?, hD]
      have fq : wr.frozen? ⟨D, 1, none⟩ = false := by simp [World.frozen?, hD]
      have hD7 : (wr.setCell ⟨D, 1, none⟩ (.slice none 0 0)).heap[D]? = some (.cells #[.slice AB (ids.foldl (crB q) bl).length cB, .slice none 0 0, .map (some m), .int .i64 last] 70 (0, 0)) := Go.Proofs.Ytlkijnnoalfblaa.Nb.set_heap hD _
      have cx7 : (wr.setCell ⟨D, 1, none⟩ (.slice none 0 0)).cell? ⟨W.heap.size, 0, none⟩ = some (.pointer (some ⟨D, 0, none⟩)) := by simp [World.cell?, Below.heap_setCell wr ⟨D, 1, none⟩ (.slice none 0 0) W.heap.size hXD, HXr.out]
      have cm7 : (wr.setCell ⟨D, 1, none⟩ (.slice none 0 0)).cell? ⟨D, 2, none⟩ = some (.map (some m)) := by simp [World.cell?, hD7]
      have hm7 : (wr.setCell ⟨D, 1, none⟩ (.slice none 0 0)).heap[m]? = some (.map es ck) := (Below.heap_setCell wr ⟨D, 1, none⟩ _ m hmD).trans hm
      have hrun := run_clear m es ck hm7
      have HB := Aside0.mk (Kd.R_types hB hD (by decide))
      have HF7 := Aside0.mk hf
      clear hB hQ hf HF HC HCa
      gi_wp2
      go_ret
      have hDm : D ≠ m := fun e => hmD e.symm
      have hm7l := heap_lt hm7
      have hs7 : (wr.setCell ⟨D, 1, none⟩ (.slice none 0 0)).heap.size = wr.heap.size := by simp [World.setCell]
      have h8 : ∀ j, j ≠ m → ({ (wr.setCell ⟨D, 1, none⟩ (.slice none 0 0)) with heap := (wr.setCell ⟨D, 1, none⟩ (.slice none 0 0)).heap.setIfInBounds m (.map #[] ck) } : World).heap[j]? = (wr.setCell ⟨D, 1, none⟩ (.slice none 0 0)).heap[j]? := fun j hj => Array.getElem?_setIfInBounds_ne (fun e => hj e.symm)
      have h8m : ({ (wr.setCell ⟨D, 1, none⟩ (.slice none 0 0)) with heap := (wr.setCell ⟨D, 1, none⟩ (.slice none 0 0)).heap.setIfInBounds m (.map #[] ck) } : World).heap[m]? = some (.map #[] ck) := Array.getElem?_setIfInBounds_self_of_lt hm7l
      have hs8 : ({ (wr.setCell ⟨D, 1, none⟩ (.slice none 0 0)) with heap := (wr.setCell ⟨D, 1, none⟩ (.slice none 0 0)).heap.setIfInBounds m (.map #[] ck) } : World).heap.size = wr.heap.size := by simp [hs7]
      have h87 : ∀ j, j ≠ m → j ≠ D → ({ (wr.setCell ⟨D, 1, none⟩ (.slice none 0 0)) with heap := (wr.setCell ⟨D, 1, none⟩ (.slice none 0 0)).heap.setIfInBounds m (.map #[] ck) } : World).heap[j]? = wr.heap[j]? := fun j h1 h2 => (h8 j h1).trans (Below.heap_setCell wr ⟨D, 1, none⟩ _ j h2)
      have hk8 : Kept (fun k => k = D ∨ k = m) wr ({ (wr.setCell ⟨D, 1, none⟩ (.slice none 0 0)) with heap := (wr.setCell ⟨D, 1, none⟩ (.slice none 0 0)).heap.setIfInBounds m (.map #[] ck) } : World) := ⟨rfl, rfl, rfl, by rw [hs8]; exact Nat.le_refl _, fun k hk hn => h87 k (fun e => hn (.inr e)) (fun e => hn (.inl e))⟩
      have hD8 := (h8 D hDm).trans hD7
      have key : (∃ ck2, IsDk ({ (wr.setCell ⟨D, 1, none⟩ (.slice none 0 0)) with heap := (wr.setCell ⟨D, 1, none⟩ (.slice none 0 0)).heap.setIfInBounds m (.map #[] ck) } : World) base D m (fun k => S k ∨ (W.heap.size ≤ k ∧ k < ({ (wr.setCell ⟨D, 1, none⟩ (.slice none 0 0)) with heap := (wr.setCell ⟨D, 1, none⟩ (.slice none 0 0)).heap.setIfInBounds m (.map #[] ck) } : World).heap.size)) (ids.foldl (crB q) bl) [] (.map #[] ck2) last) ∧ Kept S W ({ (wr.setCell ⟨D, 1, none⟩ (.slice none 0 0)) with heap := (wr.setCell ⟨D, 1, none⟩ (.slice none 0 0)).heap.setIfInBounds m (.map #[] ck) } : World) := by
        generalize ({ (wr.setCell ⟨D, 1, none⟩ (.slice none 0 0)) with heap := (wr.setCell ⟨D, 1, none⟩ (.slice none 0 0)).heap.setIfInBounds m (.map #[] ck) } : World) = W8 at *
        have hf := HF7.out
        exact ⟨⟨ck, ⟨hf.some, hf.most, hf.each, Nat.zero_le 64, (fun s hs => by cases hs), (fun s hs => by cases hs), hf.low, hf.high⟩, ⟨_, _, hD8, Kd.R_mono (Kd.R_step (R_mapo HB.out hm) (fun j hj hlt => h87 j hj.2 hj.1.2)) (fun k hk => by rw [hs8]; exact hk.1.1), Kd.R_nil _ _ _ _ _⟩, h8m, ⟨_, _, rfl⟩, .inl HSD.out, .inl HSM.out, fun k hk => by rw [hs8] at hk ⊢; exact hlow k hk⟩, HK.out.trans hk8 (fun j hj => .inl (by rcases hj with rfl | rfl; exact HSD.out; exact HSM.out))⟩
      exact ⟨rfl, key.1, key.2⟩
end Go.Proofs.Ytlkijnnoalfblaa.Dk

namespace Go.Proofs.Ytlkijnnoalfblaa.Dk
open Go Go.RowKit Go.Shelf Go.Proofs Go.Maps Go.Proofs.Ytlkijnnoalfblaa.Sp Go.Proofs.Ytlkijnnoalfblaa.XFb Go.Proofs.YtlkijnnoalfblaaW.PrintWords Go.Proofs.YtlkijnnoalfblaaW.PrintLast Go.Proofs.YtlkijnnoalfblaaW.PrintMore
set_option linter.unusedVariables false
set_option linter.unusedSimpArgs false
/-- The error of a read; how many reads fail behind it; its bytes. -/
def rdE (bl : List (List Int)) (fl : List Int) (b : Int) : Int := if ¬ (0 ≤ b ∧ b < bl.length) then 1 else if 0 < fl.getD b.toNat 0 then 4 else 0
def rdF (bl : List (List Int)) (fl : List Int) (b : Int) : List Int := if rdE bl fl b = 4 then fl.set b.toNat (fl.getD b.toNat 0 - 1) else fl
def rdB (bl : List (List Int)) (fl : List Int) (b : Int) : List Int := if rdE bl fl b = 0 then bl.getD b.toNat [] else []
def faE (bl : List (List Int)) (b t : Int) : Int := if 0 ≤ b ∧ b < bl.length ∧ 0 ≤ t ∧ t ≤ 1000 then 0 else 1
def faF (bl : List (List Int)) (fl : List Int) (b t : Int) : List Int := if faE bl b t = 0 then fl.set b.toNat t else fl
theorem i64_bd {x : Int} (h : (Lit.int .i64 x).wf = true) : -9223372036854775808 ≤ x ∧ x ≤ 9223372036854775807 := by
  simp [Lit.wf, IntKind.min, IntKind.max, IntKind.bits, IntKind.signed] at h
  omega
/-- A map reads as a list. -/
def AgF (Dm : DataW Unit) (fl : List Int) : Prop := ∀ b : Nat, b < fl.length → Dm.atKey (.int .i64 (b : Int)) (.lit (.int .i64 0)) = .lit (.int .i64 (fl.getD b 0))
theorem AgF.put {Dm : DataW Unit} {fl : List Int} (h : AgF Dm fl) (hm : IsMap Dm) (b : Nat) (c : Int) : AgF (Dm.put (.int .i64 (b : Int)) (.lit (.int .i64 c))) (fl.set b c) := fun k hk => by
  rw [List.length_set] at hk
  by_cases e : k = b
  · subst e
    rw [atKey_put_same hm (show WideAt.IsKeyLit (Lit.int .i64 (k : Int)) from trivial), List.getD_eq_getElem?_getD, List.getElem?_set_self hk]
    rfl
  · rw [atKey_put_other (by intro hh; injection hh with _ hh; omega), h k hk, List.getD_eq_getElem?_getD, List.getD_eq_getElem?_getD, List.getElem?_set_ne (fun hh => e hh.symm)]
theorem AgF.none_ (k : Nat) : AgF (.map []) (List.replicate k 0) := fun b hb => by
  rw [List.length_replicate] at hb
  rw [WideAt.atKey_none _ (fun p hp => by cases hp)]
  simp [List.getD_eq_getElem?_getD, hb]
structure IsDm (W : World) (base D m : Nat) (S : Nat → Prop) (bl : List (List Int)) (q : List S49) (fl : List Int) (last : Int) (n : Nat) : Prop where
  dk : ∃ mo, IsDk W base D m S bl q mo last
  own : ∃ Dm, Fz W m n Dm ∧ AgF Dm fl
  fails : fl.length = bl.length
theorem IsDm.kept {W W' : World} {base D m : Nat} {S S2 : Nat → Prop} {bl : List (List Int)} {q : List S49} {fl : List Int} {last : Int} {n : Nat} (h : IsDm W base D m S bl q fl last n) (hk : Kept S2 W W') (hn : ∀ k, S k → ¬ S2 k) : IsDm W' base D m S bl q fl last n := by
  obtain ⟨⟨mo, h1⟩, ⟨Dm, h2, h3⟩, h4⟩ := h
  exact ⟨⟨mo, h1.kept hk hn⟩, ⟨Dm, h2.at_ (hk.same m (h1.low m h1.inM).2 (hn m h1.inM)), h3⟩, h4⟩
theorem IsDm.below {W W' : World} {base D m : Nat} {S : Nat → Prop} {bl : List (List Int)} {q : List S49} {fl : List Int} {last : Int} {n : Nat} (h : IsDm W base D m S bl q fl last n) (hb : Below W.heap.size W W') : IsDm W' base D m S bl q fl last n :=
  h.kept (S2 := fun _ => False) (Kept.of_below hb) (fun _ _ h => h)
theorem IsDm.mono {W : World} {base D m : Nat} {S : Nat → Prop} {bl : List (List Int)} {q : List S49} {fl : List Int} {last : Int} {n n' : Nat} (h : IsDm W base D m S bl q fl last n) (hn : n ≤ n') : IsDm W base D m S bl q fl last n' := by
  obtain ⟨h1, ⟨Dm, h2, h3⟩, h4⟩ := h
  exact ⟨h1, ⟨Dm, h2.mono hn, h3⟩, h4⟩
/-- Behind a step that has left the map. -/
theorem IsDm.next {W W' : World} {base D m : Nat} {S S' : Nat → Prop} {bl bl' : List (List Int)} {q q' : List S49} {mo : Obj} {fl : List Int} {last last' : Int} {n : Nat} (h : IsDm W base D m S bl q fl last n) (hm : W.heap[m]? = some mo) (h' : IsDk W' base D m S' bl' q' mo last') (hl : bl'.length = bl.length) : IsDm W' base D m S' bl' q' fl last' n := by
  obtain ⟨h1, ⟨Dm, h2, h3⟩, h4⟩ := h
  exact ⟨⟨mo, h'⟩, ⟨Dm, h2.at_ (h'.map.trans hm.symm), h3⟩, h4.trans hl.symm⟩
/-- Behind a step that has turned the map alone. -/
theorem IsDk.map_turned {W W' : World} {base D m : Nat} {S : Nat → Prop} {bl : List (List Int)} {q : List S49} {mo mo' : Obj} {last : Int} (h : IsDk W base D m S bl q mo last) (hg : W.grownBy W' (some m)) (hm : W'.heap[m]? = some mo') (hmm : ∃ es c, mo' = .map es c) : IsDk W' base D m S bl q mo' last := by
  obtain ⟨h1, ⟨vB, vQ, hD, hB, hQ⟩, hm0, ⟨es, c, rfl⟩, h2, h3, h4⟩ := h
  have hne : D ≠ m := fun e => by rw [e, hm0] at hD; simp at hD
  have hk : ∀ k, k < W.heap.size → k ≠ m → W'.heap[k]? = W.heap[k]? := fun k hk hn => hg.block k hk (fun e => hn (Option.some.inj e))
  refine ⟨h1, ⟨vB, vQ, (hk D (h4 D h2).2 hne).trans hD, ?_, ?_⟩, hm, hmm, h2, h3, fun k hs => ⟨(h4 k hs).1, Nat.lt_of_lt_of_le (h4 k hs).2 hg.size⟩⟩
  · exact Kd.R_mono (Kd.R_step (R_mapo hB hm0) (fun j hj hlt => hk j hlt hj.2)) (fun j hj => hj.1)
  · exact Kd.R_mono (Kd.R_step (R_mapo hQ hm0) (fun j hj hlt => hk j hlt hj.2)) (fun j hj => hj.1)
theorem zero_int (w : World) : (zeroValue 3).run Try.prog w = .ok (.int .i64 0) w := by
  first | rfl | simp [zeroValue]
end Go.Proofs.Ytlkijnnoalfblaa.Dk

