/- Written by a program of this session. All names of a path but the last one, and that: the walks. -/
import Derived.Test.YtnbkbmhiajfbpaaDoorSp
namespace Go.Proofs.YtnbkbmhiajfbpaaDoor.Sp
open Go Go.RowKit Go.Shelf Go.Proofs Go.Proofs.YtnbkbmhiajfbpaaDoor.XDp Go.Proofs.YtnbkbmhiajfbpaaDoorW.PrintWords Go.Proofs.YtnbkbmhiajfbpaaDoorW.PrintLast
set_option linter.unusedVariables false
set_option linter.unusedSimpArgs false

/-- What Base answers of what Split answered. -/
def baseOf (r : List (List UInt8) × Int) : List (List UInt8) × List UInt8 × Int :=
  if r.2 ≠ 0 then ([], [], r.2) else match r.1.getLast? with
    | none => ([], [], 1)
    | some x => (r.1.dropLast, x, 0)

theorem rsplit_ok (p : ByteArray) (hp : p.size < 1000000000) (w : World) :
    Calls Tryd.prog 6 #[.string p] w fun e w' => ∃ A c, e = .returned (.tuple #[.slice A (splitL p.data.toList).1.length c, .int .i64 (splitL p.data.toList).2]) ∧ (splitL p.data.toList).1.length ≤ c ∧
      Kd.C Kd.string w' A (splitL p.data.toList).1.length ((splitL p.data.toList).1.map mk) ∧ Below w.heap.size w w' := by
  refine (bollardref12_Split.calls (3 * p.size + 40) p _ _ w (ref_f p hp _ (Nat.le_refl _))).mono ?_
  rintro e w' ⟨v, rfl, hr, hb⟩
  obtain ⟨A, c, rfl⟩ := Kd.R_slice hr
  obtain ⟨h1, h2, h3⟩ := Kd.R_reads' hr
  rw [List.length_map] at h2 h3 ⊢
  exact ⟨A, c, rfl, h2, h3, hb⟩

theorem cut_hm (A : Option Addr) (n c j : Nat) (h1 : j ≤ n) (h2 : n ≤ c) (W : World) : (Instr.slice 22 (.slice A n c) none (some (.int .i64 (j : Int))) (some (.int .i64 (j : Int)))).run Tryd.prog W = .ok (.slice A j j) W := by
  have hel : Tryd.prog.elem 22 = 9 := by simp [Program.elem, Tryd.underlying22]
  have hu : Tryd.prog.underlying 22 = some (.slice (Tryd.prog.elem 22)) := by rw [hel]; exact Tryd.underlying22
  have ha : (A.map fun x => x.add 0) = A := by cases A <;> simp [Addr.add]
  obtain ⟨i0, hi, hz0, hz1, hz2⟩ := info_parts infostr
  rw [run_slice_hm W 22 A n c hu .i64 .i64 (j : Int) (j : Int) (by omega) (Int.le_refl _) (by omega), hel]
  simp [sizeOf, typeInfo, hi, hz1, sliced, Result.andThen, ha]
theorem cut_h (A : Option Addr) (n c j : Nat) (h1 : j ≤ n) (h2 : n ≤ c) (W : World) : (Instr.slice 22 (.slice A n c) none (some (.int .i64 (j : Int))) none).run Tryd.prog W = .ok (.slice A j c) W := by
  have hel : Tryd.prog.elem 22 = 9 := by simp [Program.elem, Tryd.underlying22]
  have hu : Tryd.prog.underlying 22 = some (.slice (Tryd.prog.elem 22)) := by rw [hel]; exact Tryd.underlying22
  have ha : (A.map fun x => x.add 0) = A := by cases A <;> simp [Addr.add]
  obtain ⟨i0, hi, hz0, hz1, hz2⟩ := info_parts infostr
  rw [run_slice_h W 22 A n c hu .i64 (j : Int) (by omega) (by omega), hel]
  simp [sizeOf, typeInfo, hi, hz1, sliced, Result.andThen, ha]

theorem C_take (w : World) (A : Option Addr) (xs : List (List UInt8)) (j : Nat) (hj : j ≤ xs.length) (h : Kd.C Kd.string w A xs.length (xs.map mk)) : Kd.C Kd.string w A j ((xs.take j).map mk) := by
  have := Kd.C_of_reads (d := ByteArray.empty) (enc := Value.string) (h1 := fun _ => rfl) ((Kd.reads_of_C (d := ByteArray.empty) h).take_ j hj)
  rwa [← List.map_take] at this

set_option maxRecDepth 100000 in
set_option maxHeartbeats 2000000 in
theorem base_ok (p : ByteArray) (hp : p.size < 1000000000) (w : World) :
    Calls Tryd.prog 7 #[.string p] w fun e w' => ∃ A c, e = .returned (.tuple #[.slice A (baseOf (splitL p.data.toList)).1.length c, .string (mk (baseOf (splitL p.data.toList)).2.1), .int .i64 (baseOf (splitL p.data.toList)).2.2]) ∧ (baseOf (splitL p.data.toList)).1.length ≤ c ∧
      Kd.C Kd.string w' A (baseOf (splitL p.data.toList)).1.length ((baseOf (splitL p.data.toList)).1.map mk) ∧ Below w.heap.size w w' := by
  have hnil : ∀ W : World, Kd.C Kd.string W none 0 (([] : List (List UInt8)).map mk) := fun W => Kd.C_of_reads (d := ByteArray.empty) (enc := Value.string) (h1 := fun _ => rfl) ⟨rfl, by decide, fun h => absurd h (by decide)⟩
  obtain ⟨xs, k, hr⟩ : ∃ xs k, splitL p.data.toList = (xs, k) := ⟨_, _, rfl⟩
  rw [hr]
  by_cases hk : k = 0
  · subst hk
    have t1 : ((0 : Int) != 0) = false := rfl
    rcases List.eq_nil_or_concat xs with rfl | ⟨ys, x, rfl⟩
    · have e1 : baseOf (([] : List (List UInt8)), (0 : Int)) = ([], [], 1) := rfl
      rw [e1]
      refine (callsIn_wide (n := 1)).1 ?_
      refine callsIn_of_wp Tryd.func7 rfl trivial ?_ rfl
      simp only [Tryd.ntmps7, List.size_toArray, List.length_cons, List.length_nil, Nat.reduceAdd, Nat.reduceSub, Array.replicate_succ, Array.replicate_zero, List.push_toArray, List.append_toArray, List.nil_append, List.cons_append]
      gi_wp2_with (refine ⟨trivial, ?_⟩; gi_at_call 5; refine (callsIn_wide.2 (split_ok p hp _)).mono ?_; rw [hr]; dsimp only; rintro e w' ⟨A, c, rfl, hle, hC, hb⟩)
      refine bodyPost_ret (results_tmp3 rfl _ _ _) rfl ?_
      exact ⟨none, 0, rfl, Nat.le_refl _, hnil _, hb⟩
    · rw [List.concat_eq_append] at hr ⊢
      have e1 : baseOf (ys ++ [x], (0 : Int)) = (ys, x, 0) := by simp [baseOf]
      rw [e1]
      have t2 : (((ys.length : Int) + 1) == 0) = false := by rw [beq_eq_false_iff_ne]; omega
      refine (callsIn_wide (n := 1)).1 ?_
      refine callsIn_of_wp Tryd.func7 rfl trivial ?_ rfl
      simp only [Tryd.ntmps7, List.size_toArray, List.length_cons, List.length_nil, Nat.reduceAdd, Nat.reduceSub, Array.replicate_succ, Array.replicate_zero, List.push_toArray, List.append_toArray, List.nil_append, List.cons_append]
      gi_wp2_with (refine ⟨trivial, ?_⟩; gi_at_call 5; refine (callsIn_wide.2 (split_ok p hp _)).mono ?_; rw [hr]; dsimp only; rintro e w' ⟨A, c, rfl, hle, hC, hb⟩; rw [show (ys ++ [x]).length = ys.length + 1 by simp] at hle hC ⊢; have HC := Aside0.mk hC; clear hC)
      obtain ⟨ad, rfl, hcell⟩ := Kd.at_string HC.out (ys.length : Int) (by omega) (by omega)
      rw [rd_mk (ys ++ [x]) ys.length (by simp), Int.toNat_natCast] at hcell
      rw [show (ys ++ [x])[ys.length]'(by simp) = x by simp] at hcell
      have hmx : ys.length + 1 ≤ 9223372036854775807 := HC.out.2.1
      have hw1 : wrap64 (ys.length : Int) = (ys.length : Int) := by unfold wrap64; omega
      have hw2 : IntKind.i64.wrap (ys.length : Int) = (ys.length : Int) := (i64_w _).trans hw1
      have hcut := cut_hm (some ad) (ys.length + 1) c ys.length (by omega) hle
      have hT := C_take w' (some ad) (ys ++ [x]) ys.length (by simp) (by rw [show (ys ++ [x]).length = ys.length + 1 by simp]; exact HC.out)
      rw [List.take_left] at hT
      have HT := Aside0.mk hT
      have HB := Aside0.mk hb
      clear hT hb
      have p1 : (0 : Int) ≤ (ys.length : Int) := by omega
      have q1 : (ys.length : Int) < (ys.length : Int) + 1 := by omega
      refine wpIn_wide.2 ?_
      refine start_ (n := 11) (S := fun w' => w'.cell? (ad.add ys.length) = some (.string (mk x))) (ds := []) #[false, false, false, false, false, false, false, false, false, false, false] (by kernel_rfl) rfl rfl (hcell) (fun hHeld => ?_)
      refine pure_ (i := 0) (N := some 22) (v := ?_) (a' := ?_) #[true, false, false, false, false, false, false, false, false, false, false] rfl rfl (by kernel_rfl) (fun _ _ _ h => h) (Or.inl ⟨by rfl, ?_⟩) ?_ ?_
      rotate_left
      · intro w'
        go_simp
        with_reducible rfl
      rotate_left
      · simp only [Act.put, List.setIfInBounds_toArray, List.set_cons_zero, List.set_cons_succ, i64_w, i32_w]
        rfl
      refine pure_ (i := 1) (N := some 23) (v := ?_) (a' := ?_) #[true, true, false, false, false, false, false, false, false, false, false] rfl rfl (by kernel_rfl) (fun _ _ _ h => h) (Or.inl ⟨by rfl, ?_⟩) ?_ ?_
      rotate_left
      · intro w'
        go_simp
        with_reducible rfl
      rotate_left
      · simp only [Act.put, List.setIfInBounds_toArray, List.set_cons_zero, List.set_cons_succ, i64_w, i32_w]
        rfl
      refine pure_ (i := 2) (N := some 24) (v := ?_) (a' := ?_) #[true, true, true, false, false, false, false, false, false, false, false] rfl rfl (by kernel_rfl) (fun _ _ _ h => h) (Or.inl ⟨by rfl, ?_⟩) ?_ ?_
      rotate_left
      · intro w'
        go_simp
        with_reducible rfl
      rotate_left
      · simp only [Act.put, List.setIfInBounds_toArray, List.set_cons_zero, List.set_cons_succ, i64_w, i32_w]
        rfl
      refine pure_ (i := 3) (N := some 25) (v := ?_) (a' := ?_) #[true, true, true, true, false, false, false, false, false, false, false] rfl rfl (by kernel_rfl) (fun _ _ _ h => h) (Or.inl ⟨by rfl, ?_⟩) ?_ ?_
      rotate_left
      · intro w'
        go_simp
        with_reducible rfl
      rotate_left
      · simp only [Act.put, List.setIfInBounds_toArray, List.set_cons_zero, List.set_cons_succ, i64_w, i32_w]
        rfl
      refine pure_ (i := 4) (N := some 26) (v := ?_) (a' := ?_) #[true, true, true, true, true, false, false, false, false, false, false] rfl rfl (by kernel_rfl) (fun _ _ _ h => h) (Or.inl ⟨by rfl, ?_⟩) ?_ ?_
      rotate_left
      · intro w'
        go_simp
        with_reducible rfl
      rotate_left
      · simp only [Act.put, List.setIfInBounds_toArray, List.set_cons_zero, List.set_cons_succ, i64_w, i32_w]
        rfl
      refine pure_ (i := 5) (N := some 27) (v := ?_) (a' := ?_) #[true, true, true, true, true, true, false, false, false, false, false] rfl rfl (by kernel_rfl) (fun _ _ _ h => h) (Or.inl ⟨by rfl, ?_⟩) ?_ ?_
      rotate_left
      · intro w'
        go_simp
        with_reducible rfl
      rotate_left
      · simp only [Act.put, List.setIfInBounds_toArray, List.set_cons_zero, List.set_cons_succ, i64_w, i32_w]
        rfl
      refine pure_ (i := 6) (N := some 28) (v := ?_) (a' := ?_) #[true, true, true, true, true, true, true, false, false, false, false] rfl rfl (by kernel_rfl) (fun _ _ _ h => h) (Or.inl ⟨by rfl, ?_⟩) ?_ ?_
      rotate_left
      · intro w'
        go_simp
        with_reducible rfl
      rotate_left
      · simp only [Act.put, List.setIfInBounds_toArray, List.set_cons_zero, List.set_cons_succ, i64_w, i32_w]
        rfl
      refine pure_ (i := 8) (N := some 2) (v := ?_) (a' := ?_) #[true, true, true, true, true, true, true, false, true, false, false] rfl rfl (by kernel_rfl) (fun _ _ _ h => h) (Or.inl ⟨by rfl, ?_⟩) ?_ ?_
      rotate_left
      · intro w'
        go_simp
        with_reducible rfl
      rotate_left
      · simp only [Act.put, List.setIfInBounds_toArray, List.set_cons_zero, List.set_cons_succ, i64_w, i32_w]
        rfl
      refine take_ (i := 7) (N := some 29) (v := ?_) (a' := ?_) #[true, true, true, true, true, true, true, true, true, false, false] rfl rfl (by kernel_rfl) (fun _ _ _ h => h) (Or.inl ⟨by rfl, ?_⟩) hHeld ?_ ?_
      rotate_left
      · intro w' s0
        go_simp
        with_reducible rfl
      rotate_left
      · simp only [Act.put, List.setIfInBounds_toArray, List.set_cons_zero, List.set_cons_succ, i64_w, i32_w]
        rfl
      refine pure_ (i := 9) (N := some 3) (v := ?_) (a' := ?_) #[true, true, true, true, true, true, true, true, true, true, false] rfl rfl (by kernel_rfl) (fun _ _ _ h => h) (Or.inl ⟨by rfl, ?_⟩) ?_ ?_
      rotate_left
      · intro w'
        go_simp
        with_reducible rfl
      rotate_left
      · simp only [Act.put, List.setIfInBounds_toArray, List.set_cons_zero, List.set_cons_succ, i64_w, i32_w]
        rfl
      refine pure_ (i := 10) (N := some 4) (v := ?_) (a' := ?_) #[true, true, true, true, true, true, true, true, true, true, true] rfl rfl (by kernel_rfl) (fun _ _ _ h => h) (Or.inl ⟨by rfl, ?_⟩) ?_ ?_
      rotate_left
      · intro w'
        go_simp
        with_reducible rfl
      rotate_left
      · simp only [Act.put, List.setIfInBounds_toArray, List.set_cons_zero, List.set_cons_succ, i64_w, i32_w]
        rfl
      refine done_ (by kernel_rfl) ?_

      gi_wp2
      refine bodyPost_ret (results_tmp3 rfl _ _ _) rfl ?_
      exact ⟨some ad, _, rfl, by omega, Kd.C_drew HT.out, pw_below_drewN HB.out 1⟩
  · have t1 : (k != 0) = true := bne_iff_ne.mpr hk
    have e1 : baseOf (xs, k) = ([], [], k) := by simp [baseOf, hk]
    rw [e1]
    refine (callsIn_wide (n := 1)).1 ?_
    refine callsIn_of_wp Tryd.func7 rfl trivial ?_ rfl
    simp only [Tryd.ntmps7, List.size_toArray, List.length_cons, List.length_nil, Nat.reduceAdd, Nat.reduceSub, Array.replicate_succ, Array.replicate_zero, List.push_toArray, List.append_toArray, List.nil_append, List.cons_append]
    gi_wp2_with (refine ⟨trivial, ?_⟩; gi_at_call 5; refine (callsIn_wide.2 (split_ok p hp _)).mono ?_; rw [hr]; dsimp only; rintro e w' ⟨A, c, rfl, hle, hC, hb⟩)
    refine bodyPost_ret (results_tmp3 rfl _ _ _) rfl ?_
    exact ⟨none, 0, rfl, Nat.le_refl _, hnil _, hb⟩

set_option maxRecDepth 100000 in
set_option maxHeartbeats 2000000 in
theorem rbase_ok (p : ByteArray) (hp : p.size < 1000000000) (w : World) :
    Calls Tryd.prog 8 #[.string p] w fun e w' => ∃ A c, e = .returned (.tuple #[.slice A (baseOf (splitL p.data.toList)).1.length c, .string (mk (baseOf (splitL p.data.toList)).2.1), .int .i64 (baseOf (splitL p.data.toList)).2.2]) ∧ (baseOf (splitL p.data.toList)).1.length ≤ c ∧
      Kd.C Kd.string w' A (baseOf (splitL p.data.toList)).1.length ((baseOf (splitL p.data.toList)).1.map mk) ∧ Below w.heap.size w w' := by
  have hnil : ∀ W : World, Kd.C Kd.string W none 0 (([] : List (List UInt8)).map mk) := fun W => Kd.C_of_reads (d := ByteArray.empty) (enc := Value.string) (h1 := fun _ => rfl) ⟨rfl, by decide, fun h => absurd h (by decide)⟩
  obtain ⟨xs, k, hr⟩ : ∃ xs k, splitL p.data.toList = (xs, k) := ⟨_, _, rfl⟩
  rw [hr]
  by_cases hk : k = 0
  · subst hk
    have t1 : ((0 : Int) != 0) = false := rfl
    rcases List.eq_nil_or_concat xs with rfl | ⟨ys, x, rfl⟩
    · have e1 : baseOf (([] : List (List UInt8)), (0 : Int)) = ([], [], 1) := rfl
      rw [e1]
      refine (callsIn_wide (n := 1)).1 ?_
      refine callsIn_of_wp Tryd.func8 rfl trivial ?_ rfl
      simp only [Tryd.ntmps8, List.size_toArray, List.length_cons, List.length_nil, Nat.reduceAdd, Nat.reduceSub, Array.replicate_succ, Array.replicate_zero, List.push_toArray, List.append_toArray, List.nil_append, List.cons_append]
      gi_wp2_with (refine ⟨trivial, ?_⟩; gi_at_call 6; refine (callsIn_wide.2 (rsplit_ok p hp _)).mono ?_; rw [hr]; dsimp only; rintro e w' ⟨A, c, rfl, hle, hC, hb⟩)
      refine bodyPost_ret (results_tmp3 rfl _ _ _) rfl ?_
      exact ⟨none, 0, rfl, Nat.le_refl _, hnil _, hb⟩
    · rw [List.concat_eq_append] at hr ⊢
      have e1 : baseOf (ys ++ [x], (0 : Int)) = (ys, x, 0) := by simp [baseOf]
      rw [e1]
      have t2 : (((ys.length : Int) + 1) == 0) = false := by rw [beq_eq_false_iff_ne]; omega
      refine (callsIn_wide (n := 1)).1 ?_
      refine callsIn_of_wp Tryd.func8 rfl trivial ?_ rfl
      simp only [Tryd.ntmps8, List.size_toArray, List.length_cons, List.length_nil, Nat.reduceAdd, Nat.reduceSub, Array.replicate_succ, Array.replicate_zero, List.push_toArray, List.append_toArray, List.nil_append, List.cons_append]
      gi_wp2_with (refine ⟨trivial, ?_⟩; gi_at_call 6; refine (callsIn_wide.2 (rsplit_ok p hp _)).mono ?_; rw [hr]; dsimp only; rintro e w' ⟨A, c, rfl, hle, hC, hb⟩; rw [show (ys ++ [x]).length = ys.length + 1 by simp] at hle hC ⊢; have HC := Aside0.mk hC; clear hC)
      obtain ⟨ad, rfl, hcell⟩ := Kd.at_string HC.out (ys.length : Int) (by omega) (by omega)
      rw [rd_mk (ys ++ [x]) ys.length (by simp), Int.toNat_natCast] at hcell
      rw [show (ys ++ [x])[ys.length]'(by simp) = x by simp] at hcell
      have hmx : ys.length + 1 ≤ 9223372036854775807 := HC.out.2.1
      have hw1 : wrap64 (ys.length : Int) = (ys.length : Int) := by unfold wrap64; omega
      have hw2 : IntKind.i64.wrap (ys.length : Int) = (ys.length : Int) := (i64_w _).trans hw1
      have hcut := cut_h (some ad) (ys.length + 1) c ys.length (by omega) hle
      have hT := C_take w' (some ad) (ys ++ [x]) ys.length (by simp) (by rw [show (ys ++ [x]).length = ys.length + 1 by simp]; exact HC.out)
      rw [List.take_left] at hT
      have HT := Aside0.mk hT
      have HB := Aside0.mk hb
      clear hT hb
      have p1 : (0 : Int) ≤ (ys.length : Int) := by omega
      have q1 : (ys.length : Int) < (ys.length : Int) + 1 := by omega
      refine wpIn_wide.2 ?_
      refine start_ (n := 14) (S := fun w' => w'.cell? (ad.add ys.length) = some (.string (mk x))) (ds := []) #[false, false, false, false, false, false, false, false, false, false, false, false, false, false] (by kernel_rfl) rfl rfl (hcell) (fun hHeld => ?_)
      refine pure_ (i := 0) (N := some 18) (v := ?_) (a' := ?_) #[true, false, false, false, false, false, false, false, false, false, false, false, false, false] rfl rfl (by kernel_rfl) (fun _ _ _ h => h) (Or.inl ⟨by rfl, ?_⟩) ?_ ?_
      rotate_left
      · intro w'
        go_simp
        with_reducible rfl
      rotate_left
      · simp only [Act.put, List.setIfInBounds_toArray, List.set_cons_zero, List.set_cons_succ, i64_w, i32_w]
        rfl
      refine pure_ (i := 1) (N := some 19) (v := ?_) (a' := ?_) #[true, true, false, false, false, false, false, false, false, false, false, false, false, false] rfl rfl (by kernel_rfl) (fun _ _ _ h => h) (Or.inl ⟨by rfl, ?_⟩) ?_ ?_
      rotate_left
      · intro w'
        go_simp
        with_reducible rfl
      rotate_left
      · simp only [Act.put, List.setIfInBounds_toArray, List.set_cons_zero, List.set_cons_succ, i64_w, i32_w]
        rfl
      refine pure_ (i := 2) (N := some 20) (v := ?_) (a' := ?_) #[true, true, true, false, false, false, false, false, false, false, false, false, false, false] rfl rfl (by kernel_rfl) (fun _ _ _ h => h) (Or.inl ⟨by rfl, ?_⟩) ?_ ?_
      rotate_left
      · intro w'
        go_simp
        with_reducible rfl
      rotate_left
      · simp only [Act.put, List.setIfInBounds_toArray, List.set_cons_zero, List.set_cons_succ, i64_w, i32_w]
        rfl
      refine pure_ (i := 3) (N := some 21) (v := ?_) (a' := ?_) #[true, true, true, true, false, false, false, false, false, false, false, false, false, false] rfl rfl (by kernel_rfl) (fun _ _ _ h => h) (Or.inl ⟨by rfl, ?_⟩) ?_ ?_
      rotate_left
      · intro w'
        go_simp
        with_reducible rfl
      rotate_left
      · simp only [Act.put, List.setIfInBounds_toArray, List.set_cons_zero, List.set_cons_succ, i64_w, i32_w]
        rfl
      refine pure_ (i := 4) (N := some 22) (v := ?_) (a' := ?_) #[true, true, true, true, true, false, false, false, false, false, false, false, false, false] rfl rfl (by kernel_rfl) (fun _ _ _ h => h) (Or.inl ⟨by rfl, ?_⟩) ?_ ?_
      rotate_left
      · intro w'
        go_simp
        with_reducible rfl
      rotate_left
      · simp only [Act.put, List.setIfInBounds_toArray, List.set_cons_zero, List.set_cons_succ, i64_w, i32_w]
        rfl
      refine pure_ (i := 5) (N := some 23) (v := ?_) (a' := ?_) #[true, true, true, true, true, true, false, false, false, false, false, false, false, false] rfl rfl (by kernel_rfl) (fun _ _ _ h => h) (Or.inl ⟨by rfl, ?_⟩) ?_ ?_
      rotate_left
      · intro w'
        go_simp
        with_reducible rfl
      rotate_left
      · simp only [Act.put, List.setIfInBounds_toArray, List.set_cons_zero, List.set_cons_succ, i64_w, i32_w]
        rfl
      refine pure_ (i := 6) (N := some 24) (v := ?_) (a' := ?_) #[true, true, true, true, true, true, true, false, false, false, false, false, false, false] rfl rfl (by kernel_rfl) (fun _ _ _ h => h) (Or.inl ⟨by rfl, ?_⟩) ?_ ?_
      rotate_left
      · intro w'
        go_simp
        with_reducible rfl
      rotate_left
      · simp only [Act.put, List.setIfInBounds_toArray, List.set_cons_zero, List.set_cons_succ, i64_w, i32_w]
        rfl
      refine pure_ (i := 7) (N := some 25) (v := ?_) (a' := ?_) #[true, true, true, true, true, true, true, true, false, false, false, false, false, false] rfl rfl (by kernel_rfl) (fun _ _ _ h => h) (Or.inl ⟨by rfl, ?_⟩) ?_ ?_
      rotate_left
      · intro w'
        go_simp
        with_reducible rfl
      rotate_left
      · simp only [Act.put, List.setIfInBounds_toArray, List.set_cons_zero, List.set_cons_succ, i64_w, i32_w]
        rfl
      refine pure_ (i := 8) (N := some 26) (v := ?_) (a' := ?_) #[true, true, true, true, true, true, true, true, true, false, false, false, false, false] rfl rfl (by kernel_rfl) (fun _ _ _ h => h) (Or.inl ⟨by rfl, ?_⟩) ?_ ?_
      rotate_left
      · intro w'
        go_simp
        with_reducible rfl
      rotate_left
      · simp only [Act.put, List.setIfInBounds_toArray, List.set_cons_zero, List.set_cons_succ, i64_w, i32_w]
        rfl
      refine pure_ (i := 9) (N := some 27) (v := ?_) (a' := ?_) #[true, true, true, true, true, true, true, true, true, true, false, false, false, false] rfl rfl (by kernel_rfl) (fun _ _ _ h => h) (Or.inl ⟨by rfl, ?_⟩) ?_ ?_
      rotate_left
      · intro w'
        go_simp
        with_reducible rfl
      rotate_left
      · simp only [Act.put, List.setIfInBounds_toArray, List.set_cons_zero, List.set_cons_succ, i64_w, i32_w]
        rfl
      refine pure_ (i := 11) (N := some 2) (v := ?_) (a' := ?_) #[true, true, true, true, true, true, true, true, true, true, false, true, false, false] rfl rfl (by kernel_rfl) (fun _ _ _ h => h) (Or.inl ⟨by rfl, ?_⟩) ?_ ?_
      rotate_left
      · intro w'
        go_simp
        with_reducible rfl
      rotate_left
      · simp only [Act.put, List.setIfInBounds_toArray, List.set_cons_zero, List.set_cons_succ, i64_w, i32_w]
        rfl
      refine take_ (i := 10) (N := some 28) (v := ?_) (a' := ?_) #[true, true, true, true, true, true, true, true, true, true, true, true, false, false] rfl rfl (by kernel_rfl) (fun _ _ _ h => h) (Or.inl ⟨by rfl, ?_⟩) hHeld ?_ ?_
      rotate_left
      · intro w' s0
        go_simp
        with_reducible rfl
      rotate_left
      · simp only [Act.put, List.setIfInBounds_toArray, List.set_cons_zero, List.set_cons_succ, i64_w, i32_w]
        rfl
      refine pure_ (i := 12) (N := some 3) (v := ?_) (a' := ?_) #[true, true, true, true, true, true, true, true, true, true, true, true, true, false] rfl rfl (by kernel_rfl) (fun _ _ _ h => h) (Or.inl ⟨by rfl, ?_⟩) ?_ ?_
      rotate_left
      · intro w'
        go_simp
        with_reducible rfl
      rotate_left
      · simp only [Act.put, List.setIfInBounds_toArray, List.set_cons_zero, List.set_cons_succ, i64_w, i32_w]
        rfl
      refine pure_ (i := 13) (N := some 4) (v := ?_) (a' := ?_) #[true, true, true, true, true, true, true, true, true, true, true, true, true, true] rfl rfl (by kernel_rfl) (fun _ _ _ h => h) (Or.inl ⟨by rfl, ?_⟩) ?_ ?_
      rotate_left
      · intro w'
        go_simp
        with_reducible rfl
      rotate_left
      · simp only [Act.put, List.setIfInBounds_toArray, List.set_cons_zero, List.set_cons_succ, i64_w, i32_w]
        rfl
      refine done_ (by kernel_rfl) ?_

      gi_wp2
      refine bodyPost_ret (results_tmp3 rfl _ _ _) rfl ?_
      exact ⟨some ad, _, rfl, by omega, Kd.C_drew HT.out, pw_below_drewN HB.out 1⟩
  · have t1 : (k != 0) = true := bne_iff_ne.mpr hk
    have e1 : baseOf (xs, k) = ([], [], k) := by simp [baseOf, hk]
    rw [e1]
    refine (callsIn_wide (n := 1)).1 ?_
    refine callsIn_of_wp Tryd.func8 rfl trivial ?_ rfl
    simp only [Tryd.ntmps8, List.size_toArray, List.length_cons, List.length_nil, Nat.reduceAdd, Nat.reduceSub, Array.replicate_succ, Array.replicate_zero, List.push_toArray, List.append_toArray, List.nil_append, List.cons_append]
    gi_wp2_with (refine ⟨trivial, ?_⟩; gi_at_call 6; refine (callsIn_wide.2 (rsplit_ok p hp _)).mono ?_; rw [hr]; dsimp only; rintro e w' ⟨A, c, rfl, hle, hC, hb⟩)
    refine bodyPost_ret (results_tmp3 rfl _ _ _) rfl ?_
    exact ⟨none, 0, rfl, Nat.le_refl _, hnil _, hb⟩

end Go.Proofs.YtnbkbmhiajfbpaaDoor.Sp
