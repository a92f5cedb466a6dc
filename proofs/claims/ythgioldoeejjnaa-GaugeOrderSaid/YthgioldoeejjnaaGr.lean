/- GaugeOrder: for all gauges a, b, c: the order (gauge.Order) is one and goes on from one to the next, and the best of the three (gauge.Best) is none below another one. Conditions: none beyond those of the row. -/
import Derived.Test.YthgioldoeejjnaaGb
import Derived.Test.YthgioldoeejjnaaWMore
namespace Go.Proofs.Ythgioldoeejjnaa.Gf
open Go.RowKit Go.Proofs.YthgioldoeejjnaaW.PrintWords Go.Proofs.YthgioldoeejjnaaW.PrintLast Go.Proofs.YthgioldoeejjnaaW.PrintMore
attribute [local go_sem] max2_int min2_int max_two min_two
set_option linter.unusedVariables false
set_option linter.unusedSimpArgs false

theorem ord_range (x y : Nat) : -1 ≤ ordS x y ∧ ordS x y ≤ 1 := by unfold ordS; split <;> (try split) <;> omega
theorem ord_anti (x y : Nat) : ordS y x = -ordS x y := by unfold ordS; repeat' split
                                                          all_goals omega
theorem ord_self (x : Nat) : ordS x x = 0 := ord_eq rfl
theorem ord_trans (x y z : Nat) (h : ordS x y ≤ 0) (k : ordS y z ≤ 0) : ordS x z ≤ 0 := by
  unfold ordS at *
  repeat' split at *
  all_goals omega
theorem ord_pos (x y : Nat) : 0 ≤ ordS x y ↔ rank y ≤ rank x := by
  unfold ordS
  repeat' split
  all_goals omega
theorem ord_pos' (x y : Nat) : 0 < ordS x y ↔ rank y < rank x := by
  unfold ordS
  repeat' split
  all_goals omega

/-- The best of three. -/
theorem best3 (a b c : Int) : (bestP [a, b, c] 3 = 0 ∧ 0 ≤ ordS a.toNat b.toNat ∧ 0 ≤ ordS a.toNat c.toNat) ∨ (bestP [a, b, c] 3 = 1 ∧ ordS a.toNat b.toNat ≤ 0 ∧ 0 ≤ ordS b.toNat c.toNat) ∨ (bestP [a, b, c] 3 = 2 ∧ ordS a.toNat c.toNat ≤ 0 ∧ ordS b.toNat c.toNat ≤ 0) := by
  have r0 : rd [a, b, c] ((0 : Nat) : Int) = a := rfl
  have r1 : rd [a, b, c] ((1 : Nat) : Int) = b := rfl
  have r2 : rd [a, b, c] ((2 : Nat) : Int) = c := rfl
  have e1 : bestP [a, b, c] 1 = 0 := by
    rw [bestP, show bestP [a, b, c] 0 = 0 from rfl, r0, ord_self, if_neg (by omega)]
  have e2 : bestP [a, b, c] 2 = if 0 < ordS b.toNat a.toNat then 1 else 0 := by
    rw [bestP, e1, r1, r0]
  have e3 : bestP [a, b, c] 3 = if 0 < ordS c.toNat (rd [a, b, c] (bestP [a, b, c] 2 : Nat)).toNat then 2 else bestP [a, b, c] 2 := by
    rw [bestP, r2]
  rw [e3, e2]
  have p1 := ord_anti a.toNat b.toNat
  have p2 := ord_anti a.toNat c.toNat
  have p3 := ord_anti b.toNat c.toNat
  have q1 := ord_pos' b.toNat a.toNat
  have q2 := ord_pos' c.toNat a.toNat
  have q3 := ord_pos' c.toNat b.toNat
  have s1 := ord_pos a.toNat b.toNat
  have s2 := ord_pos a.toNat c.toNat
  have s3 := ord_pos b.toNat c.toNat
  by_cases h1 : 0 < ordS b.toNat a.toNat
  · rw [if_pos h1, r1]
    by_cases h2 : 0 < ordS c.toNat b.toNat
    · rw [if_pos h2]; right; right; exact ⟨rfl, by omega, by omega⟩
    · rw [if_neg h2]; right; left; exact ⟨rfl, by omega, by omega⟩
  · rw [if_neg h1, r0]
    by_cases h2 : 0 < ordS c.toNat a.toNat
    · rw [if_pos h2]; right; right; exact ⟨rfl, by omega, by omega⟩
    · rw [if_neg h2]; left; exact ⟨rfl, by omega, by omega⟩

/-- What Order tells of two, whatever the world. -/
structure Tells (a b r : Int) : Prop where out : ∀ w : World, Calls Try.prog 18 #[.int .u64 a, .int .u64 b] w fun e w' => e = .returned (.int .i64 r) ∧ w' = w
theorem tells (a b : Int) (ha : (Lit.int .u64 a).wf = true) (hb : (Lit.int .u64 b).wf = true) (r : Int) (h : ordS a.toNat b.toNat = r) : Tells a b r := by
  refine ⟨fun w => ?_⟩
  rw [← h]
  exact Order_call a b w ha hb
structure Bests (a b c : Int) (k : Nat) : Prop where out : ∀ (A : Addr) (w : World), w.cell? A = some (.int .u64 a) → w.cell? (A.add 1) = some (.int .u64 b) → w.cell? (A.add 2) = some (.int .u64 c) → Calls Try.prog 19 #[.slice (some A) 3 3] w fun e w' => e = .returned (.tuple #[.int .i64 k, .bool true]) ∧ Below w.heap.size w w'
theorem bests (a b c : Int) (ha : (Lit.int .u64 a).wf = true) (hb : (Lit.int .u64 b).wf = true) (hc : (Lit.int .u64 c).wf = true) (k : Nat) (h : bestP [a, b, c] 3 = k) : Bests a b c k := by
  refine ⟨fun A w h0 h1 h2 => ?_⟩
  rw [← h]
  refine Best_call (some A) 3 [a, b, c] w (Kd.C_of_reads (d := (0 : Int)) (enc := Value.int .u64) (h1 := fun _ => rfl) ⟨rfl, by simp, fun _ => ⟨A, rfl, fun j hj => ?_⟩⟩) (by simp) ?_
  · rcases j with _ | _ | _ | j
    · rw [show A.add 0 = A by simp [Addr.add]]; exact h0
    · exact h1
    · exact h2
    · simp at hj; omega
  · intro x hx
    simp at hx
    rcases hx with rfl | rfl | rfl <;> assumption
set_option maxHeartbeats 4000000 in
theorem order_a (a b c x y z : Int) (w : World) (hx : -1 ≤ x ∧ x ≤ 1) (hy : -1 ≤ y ∧ y ≤ 1) (hz : -1 ≤ z ∧ z ≤ 1) (hxyz : x ≤ 0 → y ≤ 0 → z ≤ 0)
    (Tab : Tells a b x) (Tbc : Tells b c y) (Tac : Tells a c z) (Tba : Tells b a (-x)) (Tcb : Tells c b (-y)) (Tca : Tells c a (-z)) (Taa : Tells a a 0) (Tbb : Tells b b 0) (Tcc : Tells c c 0) (TB : Bests a b c 0)
    (h1 : 0 ≤ x) (h2 : 0 ≤ z) : Calls Try.prog 5 #[.int .u64 a, .int .u64 b, .int .u64 c] w fun e w' => e = .returned (.bool true) ∧ Below w.heap.size w w' := by
  obtain ⟨hx1, hx2⟩ := hx
  obtain ⟨hy1, hy2⟩ := hy
  obtain ⟨hz1, hz2⟩ := hz
  have hcase : 0 < x ∨ (x ≤ 0 ∧ 0 < y) ∨ (x ≤ 0 ∧ y ≤ 0 ∧ z ≤ 0) := by omega
  clear hxyz
  have HB := Lib.hid (Below.refl w.heap.size w)
  rcases hcase with hc1 | ⟨hc1, hc2⟩ | ⟨hc1, hc2, hc3⟩
  · first | (exfalso; omega) | skip
    all_goals
      go_enter Try.func5, Try.ntmps5
      go_wp2_with (first
        | (go_at_call 18; first | ((with_reducible refine (Tab.out _).mono ?_); rintro e w' ⟨rfl, rfl⟩) | ((with_reducible refine (Tbc.out _).mono ?_); rintro e w' ⟨rfl, rfl⟩) | ((with_reducible refine (Tac.out _).mono ?_); rintro e w' ⟨rfl, rfl⟩) | ((with_reducible refine (Tba.out _).mono ?_); rintro e w' ⟨rfl, rfl⟩) | ((with_reducible refine (Tcb.out _).mono ?_); rintro e w' ⟨rfl, rfl⟩) | ((with_reducible refine (Tca.out _).mono ?_); rintro e w' ⟨rfl, rfl⟩) | ((with_reducible refine (Taa.out _).mono ?_); rintro e w' ⟨rfl, rfl⟩) | ((with_reducible refine (Tbb.out _).mono ?_); rintro e w' ⟨rfl, rfl⟩) | ((with_reducible refine (Tcc.out _).mono ?_); rintro e w' ⟨rfl, rfl⟩))
        | (go_at_call 19; refine (TB.out _ _ (by go_simp) (by go_simp) (by go_simp)).mono ?_; rintro e w1 ⟨rfl, hb1⟩; have n0_ := Lib.hid (below_then (below_alloc HB.out _) (by simp) hb1); clear HB hb1; have HB := n0_; clear n0_))
      go_ret
      exact ⟨rfl, by repeat (first | exact HB.out | apply below_alloc | apply pw_below_drewN)⟩
  · first | (exfalso; omega) | skip
    all_goals
      go_enter Try.func5, Try.ntmps5
      go_wp2_with (first
        | (go_at_call 18; first | ((with_reducible refine (Tab.out _).mono ?_); rintro e w' ⟨rfl, rfl⟩) | ((with_reducible refine (Tbc.out _).mono ?_); rintro e w' ⟨rfl, rfl⟩) | ((with_reducible refine (Tac.out _).mono ?_); rintro e w' ⟨rfl, rfl⟩) | ((with_reducible refine (Tba.out _).mono ?_); rintro e w' ⟨rfl, rfl⟩) | ((with_reducible refine (Tcb.out _).mono ?_); rintro e w' ⟨rfl, rfl⟩) | ((with_reducible refine (Tca.out _).mono ?_); rintro e w' ⟨rfl, rfl⟩) | ((with_reducible refine (Taa.out _).mono ?_); rintro e w' ⟨rfl, rfl⟩) | ((with_reducible refine (Tbb.out _).mono ?_); rintro e w' ⟨rfl, rfl⟩) | ((with_reducible refine (Tcc.out _).mono ?_); rintro e w' ⟨rfl, rfl⟩))
        | (go_at_call 19; refine (TB.out _ _ (by go_simp) (by go_simp) (by go_simp)).mono ?_; rintro e w1 ⟨rfl, hb1⟩; have n0_ := Lib.hid (below_then (below_alloc HB.out _) (by simp) hb1); clear HB hb1; have HB := n0_; clear n0_))
      go_ret
      exact ⟨rfl, by repeat (first | exact HB.out | apply below_alloc | apply pw_below_drewN)⟩
  · first | (exfalso; omega) | skip
    all_goals
      go_enter Try.func5, Try.ntmps5
      go_wp2_with (first
        | (go_at_call 18; first | ((with_reducible refine (Tab.out _).mono ?_); rintro e w' ⟨rfl, rfl⟩) | ((with_reducible refine (Tbc.out _).mono ?_); rintro e w' ⟨rfl, rfl⟩) | ((with_reducible refine (Tac.out _).mono ?_); rintro e w' ⟨rfl, rfl⟩) | ((with_reducible refine (Tba.out _).mono ?_); rintro e w' ⟨rfl, rfl⟩) | ((with_reducible refine (Tcb.out _).mono ?_); rintro e w' ⟨rfl, rfl⟩) | ((with_reducible refine (Tca.out _).mono ?_); rintro e w' ⟨rfl, rfl⟩) | ((with_reducible refine (Taa.out _).mono ?_); rintro e w' ⟨rfl, rfl⟩) | ((with_reducible refine (Tbb.out _).mono ?_); rintro e w' ⟨rfl, rfl⟩) | ((with_reducible refine (Tcc.out _).mono ?_); rintro e w' ⟨rfl, rfl⟩))
        | (go_at_call 19; refine (TB.out _ _ (by go_simp) (by go_simp) (by go_simp)).mono ?_; rintro e w1 ⟨rfl, hb1⟩; have n0_ := Lib.hid (below_then (below_alloc HB.out _) (by simp) hb1); clear HB hb1; have HB := n0_; clear n0_))
      go_ret
      exact ⟨rfl, by repeat (first | exact HB.out | apply below_alloc | apply pw_below_drewN)⟩
set_option maxHeartbeats 4000000 in
theorem order_b (a b c x y z : Int) (w : World) (hx : -1 ≤ x ∧ x ≤ 1) (hy : -1 ≤ y ∧ y ≤ 1) (hz : -1 ≤ z ∧ z ≤ 1) (hxyz : x ≤ 0 → y ≤ 0 → z ≤ 0)
    (Tab : Tells a b x) (Tbc : Tells b c y) (Tac : Tells a c z) (Tba : Tells b a (-x)) (Tcb : Tells c b (-y)) (Tca : Tells c a (-z)) (Taa : Tells a a 0) (Tbb : Tells b b 0) (Tcc : Tells c c 0) (TB : Bests a b c 1)
    (h1 : x ≤ 0) (h2 : 0 ≤ y) : Calls Try.prog 5 #[.int .u64 a, .int .u64 b, .int .u64 c] w fun e w' => e = .returned (.bool true) ∧ Below w.heap.size w w' := by
  obtain ⟨hx1, hx2⟩ := hx
  obtain ⟨hy1, hy2⟩ := hy
  obtain ⟨hz1, hz2⟩ := hz
  have hcase : 0 < x ∨ (x ≤ 0 ∧ 0 < y) ∨ (x ≤ 0 ∧ y ≤ 0 ∧ z ≤ 0) := by omega
  clear hxyz
  have HB := Lib.hid (Below.refl w.heap.size w)
  rcases hcase with hc1 | ⟨hc1, hc2⟩ | ⟨hc1, hc2, hc3⟩
  · first | (exfalso; omega) | skip
    all_goals
      go_enter Try.func5, Try.ntmps5
      go_wp2_with (first
        | (go_at_call 18; first | ((with_reducible refine (Tab.out _).mono ?_); rintro e w' ⟨rfl, rfl⟩) | ((with_reducible refine (Tbc.out _).mono ?_); rintro e w' ⟨rfl, rfl⟩) | ((with_reducible refine (Tac.out _).mono ?_); rintro e w' ⟨rfl, rfl⟩) | ((with_reducible refine (Tba.out _).mono ?_); rintro e w' ⟨rfl, rfl⟩) | ((with_reducible refine (Tcb.out _).mono ?_); rintro e w' ⟨rfl, rfl⟩) | ((with_reducible refine (Tca.out _).mono ?_); rintro e w' ⟨rfl, rfl⟩) | ((with_reducible refine (Taa.out _).mono ?_); rintro e w' ⟨rfl, rfl⟩) | ((with_reducible refine (Tbb.out _).mono ?_); rintro e w' ⟨rfl, rfl⟩) | ((with_reducible refine (Tcc.out _).mono ?_); rintro e w' ⟨rfl, rfl⟩))
        | (go_at_call 19; refine (TB.out _ _ (by go_simp) (by go_simp) (by go_simp)).mono ?_; rintro e w1 ⟨rfl, hb1⟩; have n0_ := Lib.hid (below_then (below_alloc HB.out _) (by simp) hb1); clear HB hb1; have HB := n0_; clear n0_))
      go_ret
      exact ⟨rfl, by repeat (first | exact HB.out | apply below_alloc | apply pw_below_drewN)⟩
  · first | (exfalso; omega) | skip
    all_goals
      go_enter Try.func5, Try.ntmps5
      go_wp2_with (first
        | (go_at_call 18; first | ((with_reducible refine (Tab.out _).mono ?_); rintro e w' ⟨rfl, rfl⟩) | ((with_reducible refine (Tbc.out _).mono ?_); rintro e w' ⟨rfl, rfl⟩) | ((with_reducible refine (Tac.out _).mono ?_); rintro e w' ⟨rfl, rfl⟩) | ((with_reducible refine (Tba.out _).mono ?_); rintro e w' ⟨rfl, rfl⟩) | ((with_reducible refine (Tcb.out _).mono ?_); rintro e w' ⟨rfl, rfl⟩) | ((with_reducible refine (Tca.out _).mono ?_); rintro e w' ⟨rfl, rfl⟩) | ((with_reducible refine (Taa.out _).mono ?_); rintro e w' ⟨rfl, rfl⟩) | ((with_reducible refine (Tbb.out _).mono ?_); rintro e w' ⟨rfl, rfl⟩) | ((with_reducible refine (Tcc.out _).mono ?_); rintro e w' ⟨rfl, rfl⟩))
        | (go_at_call 19; refine (TB.out _ _ (by go_simp) (by go_simp) (by go_simp)).mono ?_; rintro e w1 ⟨rfl, hb1⟩; have n0_ := Lib.hid (below_then (below_alloc HB.out _) (by simp) hb1); clear HB hb1; have HB := n0_; clear n0_))
      go_ret
      exact ⟨rfl, by repeat (first | exact HB.out | apply below_alloc | apply pw_below_drewN)⟩
  · first | (exfalso; omega) | skip
    all_goals
      go_enter Try.func5, Try.ntmps5
      go_wp2_with (first
        | (go_at_call 18; first | ((with_reducible refine (Tab.out _).mono ?_); rintro e w' ⟨rfl, rfl⟩) | ((with_reducible refine (Tbc.out _).mono ?_); rintro e w' ⟨rfl, rfl⟩) | ((with_reducible refine (Tac.out _).mono ?_); rintro e w' ⟨rfl, rfl⟩) | ((with_reducible refine (Tba.out _).mono ?_); rintro e w' ⟨rfl, rfl⟩) | ((with_reducible refine (Tcb.out _).mono ?_); rintro e w' ⟨rfl, rfl⟩) | ((with_reducible refine (Tca.out _).mono ?_); rintro e w' ⟨rfl, rfl⟩) | ((with_reducible refine (Taa.out _).mono ?_); rintro e w' ⟨rfl, rfl⟩) | ((with_reducible refine (Tbb.out _).mono ?_); rintro e w' ⟨rfl, rfl⟩) | ((with_reducible refine (Tcc.out _).mono ?_); rintro e w' ⟨rfl, rfl⟩))
        | (go_at_call 19; refine (TB.out _ _ (by go_simp) (by go_simp) (by go_simp)).mono ?_; rintro e w1 ⟨rfl, hb1⟩; have n0_ := Lib.hid (below_then (below_alloc HB.out _) (by simp) hb1); clear HB hb1; have HB := n0_; clear n0_))
      go_ret
      exact ⟨rfl, by repeat (first | exact HB.out | apply below_alloc | apply pw_below_drewN)⟩
set_option maxHeartbeats 4000000 in
theorem order_c (a b c x y z : Int) (w : World) (hx : -1 ≤ x ∧ x ≤ 1) (hy : -1 ≤ y ∧ y ≤ 1) (hz : -1 ≤ z ∧ z ≤ 1) (hxyz : x ≤ 0 → y ≤ 0 → z ≤ 0)
    (Tab : Tells a b x) (Tbc : Tells b c y) (Tac : Tells a c z) (Tba : Tells b a (-x)) (Tcb : Tells c b (-y)) (Tca : Tells c a (-z)) (Taa : Tells a a 0) (Tbb : Tells b b 0) (Tcc : Tells c c 0) (TB : Bests a b c 2)
    (h1 : z ≤ 0) (h2 : y ≤ 0) : Calls Try.prog 5 #[.int .u64 a, .int .u64 b, .int .u64 c] w fun e w' => e = .returned (.bool true) ∧ Below w.heap.size w w' := by
  obtain ⟨hx1, hx2⟩ := hx
  obtain ⟨hy1, hy2⟩ := hy
  obtain ⟨hz1, hz2⟩ := hz
  have hcase : 0 < x ∨ (x ≤ 0 ∧ 0 < y) ∨ (x ≤ 0 ∧ y ≤ 0 ∧ z ≤ 0) := by omega
  clear hxyz
  have HB := Lib.hid (Below.refl w.heap.size w)
  rcases hcase with hc1 | ⟨hc1, hc2⟩ | ⟨hc1, hc2, hc3⟩
  · first | (exfalso; omega) | skip
    all_goals
      go_enter Try.func5, Try.ntmps5
      go_wp2_with (first
        | (go_at_call 18; first | ((with_reducible refine (Tab.out _).mono ?_); rintro e w' ⟨rfl, rfl⟩) | ((with_reducible refine (Tbc.out _).mono ?_); rintro e w' ⟨rfl, rfl⟩) | ((with_reducible refine (Tac.out _).mono ?_); rintro e w' ⟨rfl, rfl⟩) | ((with_reducible refine (Tba.out _).mono ?_); rintro e w' ⟨rfl, rfl⟩) | ((with_reducible refine (Tcb.out _).mono ?_); rintro e w' ⟨rfl, rfl⟩) | ((with_reducible refine (Tca.out _).mono ?_); rintro e w' ⟨rfl, rfl⟩) | ((with_reducible refine (Taa.out _).mono ?_); rintro e w' ⟨rfl, rfl⟩) | ((with_reducible refine (Tbb.out _).mono ?_); rintro e w' ⟨rfl, rfl⟩) | ((with_reducible refine (Tcc.out _).mono ?_); rintro e w' ⟨rfl, rfl⟩))
        | (go_at_call 19; refine (TB.out _ _ (by go_simp) (by go_simp) (by go_simp)).mono ?_; rintro e w1 ⟨rfl, hb1⟩; have n0_ := Lib.hid (below_then (below_alloc HB.out _) (by simp) hb1); clear HB hb1; have HB := n0_; clear n0_))
      go_ret
      exact ⟨rfl, by repeat (first | exact HB.out | apply below_alloc | apply pw_below_drewN)⟩
  · first | (exfalso; omega) | skip
    all_goals
      go_enter Try.func5, Try.ntmps5
      go_wp2_with (first
        | (go_at_call 18; first | ((with_reducible refine (Tab.out _).mono ?_); rintro e w' ⟨rfl, rfl⟩) | ((with_reducible refine (Tbc.out _).mono ?_); rintro e w' ⟨rfl, rfl⟩) | ((with_reducible refine (Tac.out _).mono ?_); rintro e w' ⟨rfl, rfl⟩) | ((with_reducible refine (Tba.out _).mono ?_); rintro e w' ⟨rfl, rfl⟩) | ((with_reducible refine (Tcb.out _).mono ?_); rintro e w' ⟨rfl, rfl⟩) | ((with_reducible refine (Tca.out _).mono ?_); rintro e w' ⟨rfl, rfl⟩) | ((with_reducible refine (Taa.out _).mono ?_); rintro e w' ⟨rfl, rfl⟩) | ((with_reducible refine (Tbb.out _).mono ?_); rintro e w' ⟨rfl, rfl⟩) | ((with_reducible refine (Tcc.out _).mono ?_); rintro e w' ⟨rfl, rfl⟩))
        | (go_at_call 19; refine (TB.out _ _ (by go_simp) (by go_simp) (by go_simp)).mono ?_; rintro e w1 ⟨rfl, hb1⟩; have n0_ := Lib.hid (below_then (below_alloc HB.out _) (by simp) hb1); clear HB hb1; have HB := n0_; clear n0_))
      go_ret
      exact ⟨rfl, by repeat (first | exact HB.out | apply below_alloc | apply pw_below_drewN)⟩
  · first | (exfalso; omega) | skip
    all_goals
      go_enter Try.func5, Try.ntmps5
      go_wp2_with (first
        | (go_at_call 18; first | ((with_reducible refine (Tab.out _).mono ?_); rintro e w' ⟨rfl, rfl⟩) | ((with_reducible refine (Tbc.out _).mono ?_); rintro e w' ⟨rfl, rfl⟩) | ((with_reducible refine (Tac.out _).mono ?_); rintro e w' ⟨rfl, rfl⟩) | ((with_reducible refine (Tba.out _).mono ?_); rintro e w' ⟨rfl, rfl⟩) | ((with_reducible refine (Tcb.out _).mono ?_); rintro e w' ⟨rfl, rfl⟩) | ((with_reducible refine (Tca.out _).mono ?_); rintro e w' ⟨rfl, rfl⟩) | ((with_reducible refine (Taa.out _).mono ?_); rintro e w' ⟨rfl, rfl⟩) | ((with_reducible refine (Tbb.out _).mono ?_); rintro e w' ⟨rfl, rfl⟩) | ((with_reducible refine (Tcc.out _).mono ?_); rintro e w' ⟨rfl, rfl⟩))
        | (go_at_call 19; refine (TB.out _ _ (by go_simp) (by go_simp) (by go_simp)).mono ?_; rintro e w1 ⟨rfl, hb1⟩; have n0_ := Lib.hid (below_then (below_alloc HB.out _) (by simp) hb1); clear HB hb1; have HB := n0_; clear n0_))
      go_ret
      exact ⟨rfl, by repeat (first | exact HB.out | apply below_alloc | apply pw_below_drewN)⟩

theorem GaugeOrder_walk (a b c : Int) (w : World) (ha : (Lit.int .u64 a).wf = true) (hb : (Lit.int .u64 b).wf = true) (hc : (Lit.int .u64 c).wf = true) :
    Calls Try.prog 5 #[.int .u64 a, .int .u64 b, .int .u64 c] w fun e w' => e = .returned (.bool true) ∧ Below w.heap.size w w' := by
  have Tab := tells a b ha hb _ rfl
  have Tbc := tells b c hb hc _ rfl
  have Tac := tells a c ha hc _ rfl
  have Tba := tells b a hb ha _ (ord_anti _ _)
  have Tcb := tells c b hc hb _ (ord_anti _ _)
  have Tca := tells c a hc ha _ (ord_anti _ _)
  have Taa := tells a a ha ha _ (ord_self _)
  have Tbb := tells b b hb hb _ (ord_self _)
  have Tcc := tells c c hc hc _ (ord_self _)
  have R1 := ord_range a.toNat b.toNat
  have R2 := ord_range b.toNat c.toNat
  have R3 := ord_range a.toNat c.toNat
  have RT := ord_trans a.toNat b.toNat c.toNat
  rcases best3 a b c with ⟨h, h1, h2⟩ | ⟨h, h1, h2⟩ | ⟨h, h1, h2⟩
  · exact order_a a b c _ _ _ w R1 R2 R3 RT Tab Tbc Tac Tba Tcb Tca Taa Tbb Tcc (bests a b c ha hb hc _ h) h1 h2
  · exact order_b a b c _ _ _ w R1 R2 R3 RT Tab Tbc Tac Tba Tcb Tca Taa Tbb Tcc (bests a b c ha hb hc _ h) h1 h2
  · exact order_c a b c _ _ _ w R1 R2 R3 RT Tab Tbc Tac Tba Tcb Tca Taa Tbb Tcc (bests a b c ha hb hc _ h) h1 h2
end Go.Proofs.Ythgioldoeejjnaa.Gf
