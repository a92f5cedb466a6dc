/- Written by a program of this session. Write of a disk. -/
import Derived.Test.YtbopccjcehnfnaaDm
namespace Go.Proofs.Ytbopccjcehnfnaa.Dk
open Go Go.RowKit Go.Shelf Go.Proofs Go.Proofs.Ytbopccjcehnfnaa.Sp Go.Proofs.Ytbopccjcehnfnaa.XFb Go.Proofs.YtbopccjcehnfnaaW.PrintWords Go.Proofs.YtbopccjcehnfnaaW.PrintLast Go.Proofs.YtbopccjcehnfnaaW.PrintMore
set_option linter.unusedVariables false
set_option linter.unusedSimpArgs false
def wrE (bl : List (List Int)) (q : List S32) (b : Int) (n : Nat) : Int := if ¬ (0 ≤ b ∧ b < bl.length) then 1 else if n ≠ 128 then 1 else if 0 ≤ ixL (fun x : S32 => x.f1 == b) q 0 then 21 else if 64 ≤ q.length then 3 else 0
set_option maxRecDepth 100000 in
set_option maxHeartbeats 8000000 in
theorem write_no {W : World} {base D m : Nat} {S : Nat → Prop} {bl : List (List Int)} {q : List S32} {mo : Obj} {last : Int} (h : IsDk W base D m S bl q mo last) (b : Int) (A : Option Addr) (n c : Nat) (he : wrE bl q b n ≠ 0) :
    Calls Try.prog 18 #[.pointer (some ⟨D, 0, none⟩), .int .i64 b, .slice A n c] W fun e W' => e = .returned (.tuple #[.int .i64 0, .int .i64 (wrE bl q b n)]) ∧ Below W.heap.size W W' := by
  have hq64 := h.fits.queue
  have hDlt : D < W.heap.size := (h.low D h.inD).2
  have hq6 : q.length ≤ 1000000 := by omega
  have hDs : D < (W.alloc (.cells #[.int .i64 b] 3)).heap.size := by simp; omega
  have hXs : W.heap.size < (W.alloc (.cells #[.int .i64 b] 3)).heap.size := by simp
  have H1 := Aside0.mk (h.below (below_alloc (Below.refl W.heap.size W) (.cells #[.int .i64 b] 3)))
  obtain ⟨hf, ⟨vB, vQ, hD, hB, hQ⟩, hm, hmm, hSD, hSm, hlow⟩ := h
  have hD1 : (W.alloc (.cells #[.int .i64 b] 3)).heap[D]? = _ := (heap_alloc_old _ _ _ hDlt).trans hD
  have hX1 : (W.alloc (.cells #[.int .i64 b] 3)).heap[W.heap.size]? = some (.cells #[.int .i64 b] 3 (0, 0)) := World.alloc_heap_new _ _
  have cb : (W.alloc (.cells #[.int .i64 b] 3)).cell? ⟨W.heap.size, 0, none⟩ = some (.int .i64 b) := by simp only [World.cell?, hX1]; rfl
  have c1 : (W.alloc (.cells #[.int .i64 b] 3)).cell? ⟨D, 1, none⟩ = some vQ := by simp only [World.cell?, hD1]; rfl
  have HQ1 := Aside0.mk (Kd.R_alloc hQ (.cells #[.int .i64 b] 3))
  obtain ⟨AQ, cQ, rfl⟩ := Kd.R_slice hQ
  clear hB hQ hD1 hX1
  have HW := Aside0.mk (below_alloc (Below.refl W.heap.size W) (.cells #[.int .i64 b] 3))
  refine (callsIn_wide (n := 1)).1 ?_
  refine callsIn_of_wp Try.func18 rfl trivial ?_ rfl
  simp only [Try.ntmps18, List.size_toArray, List.length_cons, List.length_nil, Nat.reduceAdd, Nat.reduceSub, Array.replicate_succ, Array.replicate_zero, List.push_toArray, List.append_toArray, List.nil_append, List.cons_append]
  unfold wrE at he ⊢
  by_cases h0 : 0 ≤ b ∧ b < bl.length
  · have e0 : (if 0 ≤ b ∧ b < (bl.length : Int) then (0 : Int) else 1) = 0 := if_pos h0
    rw [if_neg (fun hh => hh h0)] at he ⊢
    by_cases h1 : n = 128
    · subst h1
      rw [if_neg (by decide)] at he ⊢
      by_cases h2 : 0 ≤ ixL (fun x : S32 => x.f1 == b) q 0
      · have t2 : decide (0 ≤ ixL (fun x : S32 => x.f1 == b) q 0) = true := decide_eq_true h2
        rw [if_pos h2]
        gi_wp2_with (first
          | (refine ⟨trivial, ?_⟩; gi_at_call 38; refine (callsIn_wide.2 (look_ok H1.out b)).mono ?_; rintro e w0 ⟨rfl, hw⟩; rw [e0, hw]; clear hw)
          | (refine ⟨trivial, ?_⟩; gi_at_call 39; refine (callsIn_wide.2 (containsBl W.heap.size b AQ cQ q _ (Kd.R_reads' HQ1.out).2.2 hq6 cb)).mono ?_; rintro e w2 ⟨rfl, hb2⟩; have HW2 := Aside0.mk (below_step HW.out hb2); have d2 := (hb2.block D hDs).trans ((heap_alloc_old _ _ _ hDlt).trans hD); have c2 : w2.cell? ⟨D, 1, none⟩ = some (.slice AQ q.length cQ) := (by simp [World.cell?, d2]); clear hb2 d2))
        refine bodyPost_ret (results_tmp2 rfl _ _ _) rfl ?_
        exact ⟨rfl, HW2.out⟩
      · have t2 : decide (0 ≤ ixL (fun x : S32 => x.f1 == b) q 0) = false := decide_eq_false h2
        rw [if_neg h2] at he ⊢
        by_cases h3 : 64 ≤ q.length
        · have t3 : decide ((64 : Int) ≤ (q.length : Int)) = true := decide_eq_true (by omega)
          rw [if_pos h3]
          gi_wp2_with (first
            | (refine ⟨trivial, ?_⟩; gi_at_call 38; refine (callsIn_wide.2 (look_ok H1.out b)).mono ?_; rintro e w0 ⟨rfl, hw⟩; rw [e0, hw]; clear hw)
            | (refine ⟨trivial, ?_⟩; gi_at_call 39; refine (callsIn_wide.2 (containsBl W.heap.size b AQ cQ q _ (Kd.R_reads' HQ1.out).2.2 hq6 cb)).mono ?_; rintro e w2 ⟨rfl, hb2⟩; have HW2 := Aside0.mk (below_step HW.out hb2); have d2 := (hb2.block D hDs).trans ((heap_alloc_old _ _ _ hDlt).trans hD); have c2 : w2.cell? ⟨D, 1, none⟩ = some (.slice AQ q.length cQ) := (by simp [World.cell?, d2]); clear hb2 d2))
          refine bodyPost_ret (results_tmp2 rfl _ _ _) rfl ?_
          exact ⟨rfl, HW2.out⟩
        · rw [if_neg h3] at he; exact absurd rfl he
    · have t1 : ((n : Int) != 128) = true := bne_iff_ne.mpr (by omega)
      rw [if_pos h1]
      gi_wp2_with (first
        | (refine ⟨trivial, ?_⟩; gi_at_call 38; refine (callsIn_wide.2 (look_ok H1.out b)).mono ?_; rintro e w0 ⟨rfl, hw⟩; rw [e0, hw]; clear hw))
      refine bodyPost_ret (results_tmp2 rfl _ _ _) rfl ?_
      exact ⟨rfl, HW.out⟩
  · have e0 : (if 0 ≤ b ∧ b < (bl.length : Int) then (0 : Int) else 1) = 1 := if_neg h0
    rw [if_pos h0]
    gi_wp2_with (first
      | (refine ⟨trivial, ?_⟩; gi_at_call 38; refine (callsIn_wide.2 (look_ok H1.out b)).mono ?_; rintro e w0 ⟨rfl, hw⟩; rw [e0, hw]; clear hw))
    refine bodyPost_ret (results_tmp2 rfl _ _ _) rfl ?_
    exact ⟨rfl, HW.out⟩
set_option maxRecDepth 100000 in
set_option maxHeartbeats 8000000 in
theorem write_full {W : World} {base D m : Nat} {S : Nat → Prop} {bl : List (List Int)} {q : List S32} {mo : Obj} {last : Int} (h : IsDk W base D m S bl q mo last) (b : Int) (A : Option Addr) (c : Nat) (x : List Int) (hx128 : x.length = 128) (hc : 128 ≤ c) (hC : ∀ W', Kept S W W' → Kd.C (Kd.int .u8) W' A x.length x) (he : wrE bl q b 128 = 0) (hlast : last + 1 < 1000000000000000000) :
    Calls Try.prog 18 #[.pointer (some ⟨D, 0, none⟩), .int .i64 b, .slice A 128 c] W fun e W' => e = .returned (.tuple #[.int .i64 (last + 1), .int .i64 0]) ∧ IsDk W' base D m (fun k => S k ∨ (W.heap.size ≤ k ∧ k < W'.heap.size)) bl (q ++ [⟨last + 1, b, x⟩]) mo (last + 1) ∧ Kept S W W' := by
  have hq64 := h.fits.queue
  have hDlt : D < W.heap.size := (h.low D h.inD).2
  have hq6 : q.length ≤ 1000000 := by omega
  have hDs : D < (W.alloc (.cells #[.int .i64 b] 3)).heap.size := by simp; omega
  have hXs : W.heap.size < (W.alloc (.cells #[.int .i64 b] 3)).heap.size := by simp
  have H1 := Aside0.mk (h.below (below_alloc (Below.refl W.heap.size W) (.cells #[.int .i64 b] 3)))
  obtain ⟨hf, ⟨vB, vQ, hD, hB, hQ⟩, hm, hmm, hSD, hSm, hlow⟩ := h
  have hD1 : (W.alloc (.cells #[.int .i64 b] 3)).heap[D]? = _ := (heap_alloc_old _ _ _ hDlt).trans hD
  have hX1 : (W.alloc (.cells #[.int .i64 b] 3)).heap[W.heap.size]? = some (.cells #[.int .i64 b] 3 (0, 0)) := World.alloc_heap_new _ _
  have cb : (W.alloc (.cells #[.int .i64 b] 3)).cell? ⟨W.heap.size, 0, none⟩ = some (.int .i64 b) := by simp only [World.cell?, hX1]; rfl
  have c1 : (W.alloc (.cells #[.int .i64 b] 3)).cell? ⟨D, 1, none⟩ = some vQ := by simp only [World.cell?, hD1]; rfl
  have HQ1 := Aside0.mk (Kd.R_alloc hQ (.cells #[.int .i64 b] 3))
  obtain ⟨h0, h2, h3⟩ : (0 ≤ b ∧ b < bl.length) ∧ ¬ 0 ≤ ixL (fun x : S32 => x.f1 == b) q 0 ∧ ¬ 64 ≤ q.length := by
    unfold wrE at he
    split at he
    · exact absurd he (by decide)
    · next h0 =>
      rw [if_neg (by decide)] at he
      split at he
      · exact absurd he (by decide)
      · next h2 =>
        split at he
        · exact absurd he (by decide)
        · next h3 => exact ⟨Decidable.not_not.1 h0, h2, h3⟩
  have hvQlt : ∀ k, vQ.ownBlock = some k → k < W.heap.size := fun k hk => Kd.R_lt hQ k hk
  have hvQS : ∀ k, vQ.ownBlock = some k → S k := hQ.1
  have hDQ : some D ≠ vQ.ownBlock := Kd.R_ne hQ hD (by decide)
  have hmQ : some m ≠ vQ.ownBlock := fun e => by
    obtain ⟨cells, hcc⟩ := Kd.R_typed hQ m e.symm
    obtain ⟨es, cc, rfl⟩ := hmm
    rw [hm] at hcc; simp at hcc
  have hmD : m ≠ D := fun e => by obtain ⟨es, c, rfl⟩ := hmm; rw [e, hD] at hm; simp at hm
  have HBB := Aside0.mk (Kd.R_apart' (Kd.R_types hB hD (by decide)) (Kd.R_typed hQ) (by decide))
  have HQQ := Aside0.mk (Kd.R_types hQ hD (by decide))
  obtain ⟨AQ, cQ, hvQ⟩ := Kd.R_slice hQ
  have e0 : (if 0 ≤ b ∧ b < (bl.length : Int) then (0 : Int) else 1) = 0 := if_pos h0
  have t2 : decide (0 ≤ ixL (fun x : S32 => x.f1 == b) q 0) = false := decide_eq_false h2
  have t3 : decide ((64 : Int) ≤ (q.length : Int)) = false := decide_eq_false (by omega)
  have ew : wrap64 (last + 1) = last + 1 := IntWalk.wrap64_in _ (by have := hf.low; omega)
  have HW := Aside0.mk (below_alloc (Below.refl W.heap.size W) (.cells #[.int .i64 b] 3))
  have hlow0 := hf.low
  clear hB hQ hD1 hX1
  rw [hvQ] at c1 HQ1
  have HB00 := Aside0.mk (And.intro h0 (And.intro h3 hlast))
  clear h0 h3 hlast
  have HALL := Aside0.mk (And.intro hvQ (And.intro hvQlt (And.intro hvQS (And.intro hDQ (And.intro hmQ (And.intro hmD (And.intro hC (And.intro hlow (And.intro hm (And.intro hmm (And.intro hf hD)))))))))))
  clear hvQ hvQlt hvQS hDQ hmQ hmD hC hlow hm hmm hf hD he h2 hlow0
  refine (callsIn_wide (n := 1)).1 ?_
  refine callsIn_of_wp Try.func18 rfl trivial ?_ rfl
  simp only [Try.ntmps18, List.size_toArray, List.length_cons, List.length_nil, Nat.reduceAdd, Nat.reduceSub, Array.replicate_succ, Array.replicate_zero, List.push_toArray, List.append_toArray, List.nil_append, List.cons_append]
  gi_wp2_with (first
    | (refine ⟨trivial, ?_⟩; gi_at_call 38; refine (callsIn_wide.2 (look_ok H1.out b)).mono ?_; rintro e w0 ⟨rfl, hw⟩; rw [e0, hw]; clear hw)
    | (refine ⟨trivial, ?_⟩; gi_at_call 39; refine (callsIn_wide.2 (containsBl W.heap.size b AQ cQ q _ (Kd.R_reads' HQ1.out).2.2 hq6 cb)).mono ?_; rintro e w2 ⟨rfl, hb2⟩; have HW2 := Aside0.mk (below_step HW.out hb2); have D2 := Aside0.mk ((hb2.block D hDs).trans ((heap_alloc_old _ _ _ hDlt).trans HALL.out.2.2.2.2.2.2.2.2.2.2.2)); have X2 := Aside0.mk ((hb2.block W.heap.size hXs).trans (World.alloc_heap_new _ _)); have c2 : w2.cell? ⟨D, 1, none⟩ = some (.slice AQ q.length cQ) := (by have := HALL.out.1; simp [World.cell?, D2.out, this]); have c3 : w2.cell? ⟨D, 3, none⟩ = some (.int .i64 last) := (by simp [World.cell?, D2.out]); have f3 : w2.frozen? ⟨D, 3, none⟩ = false := (by simp [World.frozen?, D2.out]); clear hb2))
  clear ew
  obtain ⟨hvQ, hvQlt, hvQS, hDQ, hmQ, hmD, hC, hlow, hm, hmm, hf, hD⟩ := HALL.out
  subst hvQ
  obtain ⟨h0, h3, hlast⟩ := HB00.out
  have hlow0 := hf.low
  have hD3 : (w2.setCell ⟨D, 3, none⟩ (.int .i64 (last + 1))).heap[D]? = some (.cells #[vB, .slice AQ q.length cQ, .map (some m), .int .i64 (last + 1)] 45 (0, 0)) := Go.Proofs.Ytbopccjcehnfnaa.Nb.set_heap D2.out _
  have hX3 : (w2.setCell ⟨D, 3, none⟩ (.int .i64 (last + 1))).heap[W.heap.size]? = some (.cells #[.int .i64 b] 3 (0, 0)) := (Below.heap_setCell w2 ⟨D, 3, none⟩ _ _ (by simp; omega)).trans X2.out
  have hk3 : ∀ j, j < W.heap.size → j ≠ D → (w2.setCell ⟨D, 3, none⟩ (.int .i64 (last + 1))).heap[j]? = W.heap[j]? := fun j hj hn => (Below.heap_setCell w2 ⟨D, 3, none⟩ _ j hn).trans (HW2.out.block j hj)
  have hs3 : W.heap.size < (w2.setCell ⟨D, 3, none⟩ (.int .i64 (last + 1))).heap.size := (Array.getElem?_eq_some_iff.1 hX3).1
  have hK3 : Kept S W (w2.setCell ⟨D, 3, none⟩ (.int .i64 (last + 1))) := ⟨HW2.out.os, HW2.out.tape, HW2.out.output, Nat.le_of_lt hs3, fun j hj hn => hk3 j hj (fun e => hn (e ▸ hSD))⟩
  generalize w2.setCell ⟨D, 3, none⟩ (.int .i64 (last + 1)) = W3 at *
  have hbd : Below W3.heap.size W3 W3.drew := below_drew (Below.refl _ _)
  have hK3d : Kept S W W3.drew := hK3.trans (Kept.of_below (S := S) hbd) (fun j hj => .inl hj)
  have hsd : W3.drew.heap.size = W3.heap.size := rfl
  have hcl : Calls Try.prog 29 #[.slice A 128 c] W3.drew (fun e w' => ∃ v0 : Value, e = .returned v0 ∧ Kd.R (Kd.int .u8) 5 w' W3.drew.heap.size (fun _ => True) v0 x ∧ Below W3.drew.heap.size W3.drew w') := by
    have := bytes_Clone.calls A c x x W3.drew (hC _ hK3d) (by omega) (by unfold bytes_Clone.f; rw [if_pos (by omega)])
    rw [hx128] at this
    exact this
  have hD3d : W3.drew.heap[D]? = some (.cells #[vB, .slice AQ q.length cQ, .map (some m), .int .i64 (last + 1)] 45 (0, 0)) := hD3
  have hX3d : W3.drew.heap[W.heap.size]? = some (.cells #[.int .i64 b] 3 (0, 0)) := hX3
  have hD3lt : D < W3.drew.heap.size := by omega
  have hX3lt : W.heap.size < W3.drew.heap.size := by omega
  have hQ3d : Kd.R k32 32 W3.drew base (fun k => k ≠ D ∧ (S k ∨ W.heap.size ≤ k)) (.slice AQ q.length cQ) q := Kd.R_mono (Kd.R_step HQQ.out (fun j hj hlt => (hk3 j hlt hj.2 : W3.heap[j]? = W.heap[j]?))) (fun j hj => ⟨hj.2, .inl hj.1⟩)
  have hbase3 : base ≤ W3.drew.heap.size := by have := (hlow D hSD).1; omega
  have y1 : W3.drew.cell? ⟨D, 1, none⟩ = some (.slice AQ q.length cQ) := show W3.cell? _ = _ by simp [World.cell?, hD3]
  have y3 : W3.drew.cell? ⟨D, 3, none⟩ = some (.int .i64 (last + 1)) := show W3.cell? _ = _ by simp [World.cell?, hD3]
  have yb : W3.drew.cell? ⟨W.heap.size, 0, none⟩ = some (.int .i64 b) := show W3.cell? _ = _ by simp [World.cell?, hX3]
  have HK3 := Aside0.mk hK3d
  have HC := Aside0.mk hC
  clear hC hK3 hK3d hbd
  refine wpIn_wide.2 ?_
  refine start_ (n := 18) (S := fun w' => w'.cell? ⟨D, 1, none⟩ = some (.slice AQ q.length cQ) ∧ w'.cell? ⟨D, 3, none⟩ = some (.int .i64 (last + 1)) ∧ w'.cell? ⟨W.heap.size, 0, none⟩ = some (.int .i64 b)) (ds := [17]) #[false, false, false, false, false, false, false, false, false, false, false, false, false, false, false, false, false, false] (by kernel_rfl) rfl rfl ⟨y1, y3, yb⟩ (fun hHeld => ?_)
  refine pure_ (i := 0) (N := some 40) (v := ?_) (a' := ?_) #[true, false, false, false, false, false, false, false, false, false, false, false, false, false, false, false, false, false] rfl rfl (by kernel_rfl) (fun _ _ _ h => h) (Or.inl ⟨by rfl, ?_⟩) ?_ ?_
  rotate_left
  · intro w'
    go_simp
    with_reducible rfl
  rotate_left
  · simp only [Act.put, List.setIfInBounds_toArray, List.set_cons_zero, List.set_cons_succ, i64_w, i32_w]
    rfl
  refine pure_ (i := 1) (N := some 41) (v := ?_) (a' := ?_) #[true, true, false, false, false, false, false, false, false, false, false, false, false, false, false, false, false, false] rfl rfl (by kernel_rfl) (fun _ _ _ h => h) (Or.inl ⟨by rfl, ?_⟩) ?_ ?_
  rotate_left
  · intro w'
    go_simp
    with_reducible rfl
  rotate_left
  · simp only [Act.put, List.setIfInBounds_toArray, List.set_cons_zero, List.set_cons_succ, i64_w, i32_w]
    rfl
  refine pure_ (i := 2) (N := some 42) (v := ?_) (a' := ?_) #[true, true, true, false, false, false, false, false, false, false, false, false, false, false, false, false, false, false] rfl rfl (by kernel_rfl) (fun _ _ _ h => h) (Or.inl ⟨by rfl, ?_⟩) ?_ ?_
  rotate_left
  · intro w'
    go_simp
    with_reducible rfl
  rotate_left
  · simp only [Act.put, List.setIfInBounds_toArray, List.set_cons_zero, List.set_cons_succ, i64_w, i32_w]
    rfl
  refine pure_ (i := 3) (N := some 43) (v := ?_) (a' := ?_) #[true, true, true, true, false, false, false, false, false, false, false, false, false, false, false, false, false, false] rfl rfl (by kernel_rfl) (fun _ _ _ h => h) (Or.inl ⟨by rfl, ?_⟩) ?_ ?_
  rotate_left
  · intro w'
    go_simp
    with_reducible rfl
  rotate_left
  · simp only [Act.put, List.setIfInBounds_toArray, List.set_cons_zero, List.set_cons_succ, i64_w, i32_w]
    rfl
  refine pure_ (i := 5) (N := some 45) (v := ?_) (a' := ?_) #[true, true, true, true, false, true, false, false, false, false, false, false, false, false, false, false, false, false] rfl rfl (by kernel_rfl) (fun _ _ _ h => h) (Or.inl ⟨by rfl, ?_⟩) ?_ ?_
  rotate_left
  · intro w'
    go_simp
    with_reducible rfl
  rotate_left
  · simp only [Act.put, List.setIfInBounds_toArray, List.set_cons_zero, List.set_cons_succ, i64_w, i32_w]
    rfl
  refine pure_ (i := 6) (N := some 46) (v := ?_) (a' := ?_) #[true, true, true, true, false, true, true, false, false, false, false, false, false, false, false, false, false, false] rfl rfl (by kernel_rfl) (fun _ _ _ h => h) (Or.inl ⟨by rfl, ?_⟩) ?_ ?_
  rotate_left
  · intro w'
    go_simp
    with_reducible rfl
  rotate_left
  · simp only [Act.put, List.setIfInBounds_toArray, List.set_cons_zero, List.set_cons_succ, i64_w, i32_w]
    rfl
  refine pure_ (i := 7) (N := some 47) (v := ?_) (a' := ?_) #[true, true, true, true, false, true, true, true, false, false, false, false, false, false, false, false, false, false] rfl rfl (by kernel_rfl) (fun _ _ _ h => h) (Or.inl ⟨by rfl, ?_⟩) ?_ ?_
  rotate_left
  · intro w'
    go_simp
    with_reducible rfl
  rotate_left
  · simp only [Act.put, List.setIfInBounds_toArray, List.set_cons_zero, List.set_cons_succ, i64_w, i32_w]
    rfl
  refine pure_ (i := 10) (N := some 50) (v := ?_) (a' := ?_) #[true, true, true, true, false, true, true, true, false, false, true, false, false, false, false, false, false, false] rfl rfl (by kernel_rfl) (fun _ _ _ h => h) (Or.inl ⟨by rfl, ?_⟩) ?_ ?_
  rotate_left
  · intro w'
    go_simp
    with_reducible rfl
  rotate_left
  · simp only [Act.put, List.setIfInBounds_toArray, List.set_cons_zero, List.set_cons_succ, i64_w, i32_w]
    rfl
  refine take_ (i := 4) (N := some 44) (v := ?_) (a' := ?_) #[true, true, true, true, true, true, true, true, false, false, true, false, false, false, false, false, false, false] rfl rfl (by kernel_rfl) (fun _ _ _ h => h) (Or.inl ⟨by rfl, ?_⟩) hHeld ?_ ?_
  rotate_left
  · rintro w' ⟨s0, s1, s2⟩
    go_simp
    with_reducible rfl
  rotate_left
  · simp only [Act.put, List.setIfInBounds_toArray, List.set_cons_zero, List.set_cons_succ, i64_w, i32_w]
    rfl
  refine take_ (i := 8) (N := some 48) (v := ?_) (a' := ?_) #[true, true, true, true, true, true, true, true, true, false, true, false, false, false, false, false, false, false] rfl rfl (by kernel_rfl) (fun _ _ _ h => h) (Or.inl ⟨by rfl, ?_⟩) hHeld ?_ ?_
  rotate_left
  · rintro w' ⟨s0, s1, s2⟩
    go_simp
    with_reducible rfl
  rotate_left
  · simp only [Act.put, List.setIfInBounds_toArray, List.set_cons_zero, List.set_cons_succ, i64_w, i32_w]
    rfl
  refine take_ (i := 9) (N := some 49) (v := ?_) (a' := ?_) #[true, true, true, true, true, true, true, true, true, true, true, false, false, false, false, false, false, false] rfl rfl (by kernel_rfl) (fun _ _ _ h => h) (Or.inl ⟨by rfl, ?_⟩) hHeld ?_ ?_
  rotate_left
  · rintro w' ⟨s0, s1, s2⟩
    go_simp
    with_reducible rfl
  rotate_left
  · simp only [Act.put, List.setIfInBounds_toArray, List.set_cons_zero, List.set_cons_succ, i64_w, i32_w]
    rfl
  refine one_ (i := 11) (N := some 51) #[true, true, true, true, true, true, true, true, true, true, true, true, false, false, false, false, false, false] rfl rfl (by kernel_rfl) (by decide) (fun K hK => ?_)
  refine goes_ Try.func29 (by kernel_rfl) rfl #[.slice A 128 c] (by rfl) rfl rfl (by simp only [List.map_toArray, List.map_cons, List.map_nil]; rfl) ?_
  with_reducible refine (hcl).mono ?_
  rintro e w4 ⟨v0, rfl, hr1, hb1⟩
  refine ⟨_, rfl, ?_⟩
  obtain ⟨A1, c1, hv0⟩ := Kd.R_slice hr1
  rw [hx128] at hv0
  subst hv0
  have HD4 := Aside0.mk ((hb1.block D hD3lt).trans hD3d)
  have HX4 := Aside0.mk ((hb1.block W.heap.size hX3lt).trans hX3d)
  have HR4 := Aside0.mk hr1
  have HQ4 := Aside0.mk (Kd.R_below hQ3d hb1)
  have HB4 := Aside0.mk hb1
  clear hr1 hb1
  refine hK.out _ _ ⟨(show w4.cell? ⟨D, 1, none⟩ = _ by simp [World.cell?, HD4.out]), (show w4.cell? ⟨D, 3, none⟩ = _ by simp [World.cell?, HD4.out]), (show w4.cell? ⟨W.heap.size, 0, none⟩ = _ by simp [World.cell?, HX4.out])⟩ (fun hHeld => ?_)
  clear hK K
  refine norm_ (a' := ?_) ?_ ?_
  rotate_left
  · show Act.put _ (some 51) _ = _
    simp only [Act.put, List.setIfInBounds_toArray, List.set_cons_zero, List.set_cons_succ, i64_w, i32_w]
    rfl
  refine pure_ (i := 12) (N := some 52) (v := ?_) (a' := ?_) #[true, true, true, true, true, true, true, true, true, true, true, true, true, false, false, false, false, false] rfl rfl (by kernel_rfl) (fun _ _ _ h => h) (Or.inl ⟨by rfl, ?_⟩) ?_ ?_
  rotate_left
  · intro w'
    go_simp
    with_reducible rfl
  rotate_left
  · simp only [Act.put, List.setIfInBounds_toArray, List.set_cons_zero, List.set_cons_succ, i64_w, i32_w]
    rfl
  refine one_ (i := 13) (N := some 53) #[true, true, true, true, true, true, true, true, true, true, true, true, true, true, false, false, false, false] rfl rfl (by kernel_rfl) (by decide) (fun K hK => ?_)
  refine value_ (w1 := ?_) (v := ?_) (by rfl) rfl ?_ ?_
  rotate_left 2
  · go_simp
    constructor
    · rfl
    · rfl
  refine hK.out _ _ ⟨(show (w4.alloc (.cells #[.int .i64 (last + 1), .int .i64 b, .slice A1 128 c1] 32)).cell? ⟨D, 1, none⟩ = _ by simp [World.cell?, heap_alloc_old _ _ _ (show D < w4.heap.size by have := HB4.out.size; omega), HD4.out]), (show (w4.alloc (.cells #[.int .i64 (last + 1), .int .i64 b, .slice A1 128 c1] 32)).cell? ⟨D, 3, none⟩ = _ by simp [World.cell?, heap_alloc_old _ _ _ (show D < w4.heap.size by have := HB4.out.size; omega), HD4.out]), (show (w4.alloc (.cells #[.int .i64 (last + 1), .int .i64 b, .slice A1 128 c1] 32)).cell? ⟨W.heap.size, 0, none⟩ = _ by simp [World.cell?, heap_alloc_old _ _ _ (show W.heap.size < w4.heap.size by have := HB4.out.size; omega), HX4.out])⟩ (fun hHeld => ?_)
  clear hK K
  refine norm_ (a' := ?_) ?_ ?_
  rotate_left
  · show Act.put _ (some 53) _ = _
    simp only [Act.put, List.setIfInBounds_toArray, List.set_cons_zero, List.set_cons_succ, i64_w, i32_w]
    rfl
  refine one_ (i := 14) (N := some 54) #[true, true, true, true, true, true, true, true, true, true, true, true, true, true, true, false, false, false] rfl rfl (by kernel_rfl) (by decide) (fun K hK => ?_)
  refine Kd.R_append_step k32 (w0 := W3.drew) base (by rfl) (.tmp 44) (.tmp 53) 28 32 _ _ rfl Try.underlying28 info32 rfl (by decide) (by decide) (.slice AQ q.length cQ) q ⟨last + 1, b, x⟩ [_, _, _] (fun k => k ≠ D ∧ (S k ∨ W.heap.size ≤ k)) (fun k => W3.drew.heap.size ≤ k) rfl rfl (k32_mkM _ _ _ ⟨last + 1, b, x⟩ (Kd.R_mono (Kd.R_lower (Kd.R_bound HR4.out) hbase3) (fun k hk => hk.2.1))) ?okp ?fresh HQ4.out ?below ?base ?room ?_
  case okp => exact fun k hk => ⟨⟨fun e => by omega, .inr (by omega)⟩, fun e => by have := hvQlt k e.symm; omega⟩
  case fresh => exact fun k hk => by have := HB4.out.size; exact ⟨fun e => by omega, .inr (by omega)⟩
  case below => exact ⟨HB4.out.os, HB4.out.tape, HB4.out.output, HB4.out.size, fun k hk => HB4.out.block k (by omega)⟩
  case base => have := HB4.out.size; omega
  case room => omega
  intro v5 w5 hr5 hb5 hg5 ht5
  obtain ⟨ad5, cp5, rfl⟩ := Kd.R_slice1 hr5 (by simp)
  have HD5 := Aside0.mk ((hg5.block D (by have := HB4.out.size; omega) (fun e => hDQ e)).trans HD4.out)
  have HX5 := Aside0.mk ((hg5.block W.heap.size (by have := HB4.out.size; omega) (fun e => by have := hvQlt _ e.symm; omega)).trans HX4.out)
  have HR5 := Aside0.mk hr5
  have HG5 := Aside0.mk hg5
  have c5 : w5.cell? ⟨D, 1, none⟩ = some (.slice AQ q.length cQ) := (by simp [World.cell?, HD5.out])
  have f5 : w5.frozen? ⟨D, 1, none⟩ = false := (by simp [World.frozen?, HD5.out])
  clear hr5 hb5 hg5 ht5
  refine hK.out _ _ ⟨(show w5.cell? ⟨D, 1, none⟩ = _ by simp [World.cell?, HD5.out]), (show w5.cell? ⟨D, 3, none⟩ = _ by simp [World.cell?, HD5.out]), (show w5.cell? ⟨W.heap.size, 0, none⟩ = _ by simp [World.cell?, HX5.out])⟩ (fun hHeld => ?_)
  clear hK K
  refine norm_ (a' := ?_) ?_ ?_
  rotate_left
  · show Act.put _ (some 54) _ = _
    simp only [Act.put, List.setIfInBounds_toArray, List.set_cons_zero, List.set_cons_succ, i64_w, i32_w]
    rfl
  refine pure_ (i := 15) (N := some 55) (v := ?_) (a' := ?_) #[true, true, true, true, true, true, true, true, true, true, true, true, true, true, true, true, false, false] rfl rfl (by kernel_rfl) (fun _ _ _ h => h) (Or.inl ⟨by rfl, ?_⟩) ?_ ?_
  rotate_left
  · intro w'
    go_simp
    with_reducible rfl
  rotate_left
  · simp only [Act.put, List.setIfInBounds_toArray, List.set_cons_zero, List.set_cons_succ, i64_w, i32_w]
    rfl
  refine pure_ (i := 16) (N := some 56) (v := ?_) (a' := ?_) #[true, true, true, true, true, true, true, true, true, true, true, true, true, true, true, true, true, false] rfl rfl (by kernel_rfl) (fun _ _ _ h => h) (Or.inl ⟨by rfl, ?_⟩) ?_ ?_
  rotate_left
  · intro w'
    go_simp
    with_reducible rfl
  rotate_left
  · simp only [Act.put, List.setIfInBounds_toArray, List.set_cons_zero, List.set_cons_succ, i64_w, i32_w]
    rfl
  refine last_ (i := 17) (N := none) #[true, true, true, true, true, true, true, true, true, true, true, true, true, true, true, true, true, true] rfl rfl (by kernel_rfl) (by decide) (fun K hK => ?_)
  refine skip_ (w1 := ?_) (by rfl) rfl ?_ ?_
  rotate_left
  · go_simp
    rfl
  refine hK.out _ _ ?_
  clear hK K
  refine done_ (by kernel_rfl) ?_

  have hR5 := HR5.out
  rw [List.length_append, List.length_singleton] at hR5
  have hD6 := Go.Proofs.Ytbopccjcehnfnaa.Nb.set_heap HD5.out (o := 1) (.slice (some ad5) (q.length + 1) cp5)
  have hs6 : (w5.setCell ⟨D, 1, none⟩ (.slice (some ad5) (q.length + 1) cp5)).heap.size = w5.heap.size := by simp [World.setCell]
  have hk6 : ∀ j, j < W.heap.size → j ≠ D → some j ≠ (Value.slice AQ q.length cQ).ownBlock → (w5.setCell ⟨D, 1, none⟩ (.slice (some ad5) (q.length + 1) cp5)).heap[j]? = W.heap[j]? := fun j hj h1 h2 =>
    (Below.heap_setCell w5 ⟨D, 1, none⟩ _ j h1).trans ((HG5.out.block j (by have := HB4.out.size; omega) h2).trans ((HB4.out.block j (by omega)).trans (hk3 j hj h1)))
  have hQ6 := Kd.R_far (Kd.R_bound hR5) (p := ⟨D, 1, none⟩) (fun j hj => hj.1.1) (.slice (some ad5) (q.length + 1) cp5)
  have hsz6 : W.heap.size ≤ w5.heap.size := by have := HB4.out.size; have := HG5.out.size; omega
  have hK6 : Kept S W (w5.setCell ⟨D, 1, none⟩ (.slice (some ad5) (q.length + 1) cp5)) := ⟨HG5.out.os.trans (HB4.out.os.trans HK3.out.os), HG5.out.tape.trans (HB4.out.tape.trans HK3.out.tape), HG5.out.output.trans (HB4.out.output.trans HK3.out.output), by rw [hs6]; exact hsz6, fun j hj hn => hk6 j hj (fun e => hn (e ▸ hSD)) (fun e => hn (hvQS j e.symm))⟩
  have c63 : (w5.setCell ⟨D, 1, none⟩ (.slice (some ad5) (q.length + 1) cp5)).cell? ⟨D, 3, none⟩ = some (.int .i64 (last + 1)) := by simp [World.cell?, hD6]
  generalize w5.setCell ⟨D, 1, none⟩ (.slice (some ad5) (q.length + 1) cp5) = W6 at *
  have HK6 := Aside0.mk hK6
  have HH6 := Aside0.mk (And.intro hD6 (And.intro hk6 hQ6))
  clear hK6 hD6 hk6 hQ6
  gi_wp2
  refine bodyPost_ret (results_tmp2 rfl _ _ _) rfl ?_
  obtain ⟨hD6, hk6, hQ6⟩ := HH6.out
  refine ⟨rfl, ⟨⟨hf.some, hf.most, hf.each, by rw [List.length_append, List.length_singleton]; omega, fun s hs => ?_, fun s hs => ?_, by show 0 ≤ last + 1; omega, hlast⟩, ⟨vB, _, hD6, Kd.R_mono (Kd.R_step HBB.out (fun j hj hlt => hk6 j hlt hj.1.2 hj.2)) (fun j hj => .inl hj.1.1), Kd.R_mono hQ6 (fun j hj => ?_)⟩, (hk6 m (hlow m hSm).2 hmD hmQ).trans hm, hmm, .inl hSD, .inl hSm, fun j hj => ?_⟩, HK6.out⟩
  · rcases List.mem_append.1 hs with hs | hs
    · exact hf.sent s hs
    · rw [List.mem_singleton.1 hs]; exact hx128
  · rcases List.mem_append.1 hs with hs | hs
    · exact hf.in_ s hs
    · rw [List.mem_singleton.1 hs]; exact HB00.out.1
  · rcases hj.1.2 with h | h
    · exact .inl h
    · exact .inr ⟨h, by have := hj.2.2.1; omega⟩
  · rcases hj with h | h
    · exact ⟨(hlow j h).1, by have := (hlow j h).2; omega⟩
    · exact ⟨by have := (hlow D hSD).1; omega, h.2⟩
end Go.Proofs.Ytbopccjcehnfnaa.Dk
