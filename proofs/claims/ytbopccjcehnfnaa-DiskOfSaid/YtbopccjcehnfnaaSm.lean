/- Written by a program of this session. bollardplain.SameImage of two images that read the same. -/
import Derived.Test.YtbopccjcehnfnaaSp
import Derived.Test.YtbopccjcehnfnaaXFbx1
namespace Go.Proofs.Ytbopccjcehnfnaa.Sp
open Go Go.RowKit Go.Shelf Go.Proofs Go.Proofs.Ytbopccjcehnfnaa.XFb Go.Proofs.YtbopccjcehnfnaaW.PrintWords Go.Proofs.YtbopccjcehnfnaaW.PrintLast Go.Proofs.YtbopccjcehnfnaaW.PrintMore
set_option linter.unusedVariables false
set_option linter.unusedSimpArgs false

theorem at_rows {w : World} {A : Option Addr} {n : Nat} {xs : List (List Int)} (h : Kd.C (Kd.slice 5 (Kd.int .u8)) w A n xs) (i : Nat) (h1 : i < n) : ∃ ad A0 c0, A = some ad ∧ w.cell? (ad.add i) = some (.slice A0 (xs.getD i []).length c0) ∧ (xs.getD i []).length ≤ c0 ∧ (Kd.int .u8).C w A0 (xs.getD i []).length (xs.getD i []) := by
  obtain ⟨ad, c, e, _, hK, hc0⟩ := Kd.C_get h ([] : List Int) (i : Int) (by omega) (by omega)
  rw [Int.toNat_natCast] at hK hc0
  have hc : ∀ j u, c[j]? = some u → w.cell? (ad.add (i * 1 + j)) = some u := hc0
  obtain ⟨A0, c0, rfl, l0, g0⟩ := hK
  exact ⟨ad, A0, c0, e, by have hq := hc 0 _ rfl; rwa [Nat.mul_one, Nat.add_zero] at hq, l0, g0⟩
theorem below_drawn {W W1 W2 : World} {b : Nat} (h : Below b W W1) (hd : Drawn0 W1 W2) : Below b W W2 := by
  obtain ⟨n, rfl⟩ := hd.out
  exact pw_below_drewN h n

set_option maxRecDepth 100000 in
set_option maxHeartbeats 4000000 in
theorem eqf_same (W : World) (A B : Option Addr) (c d : Nat) (xs : List (List Int)) (hA : Kd.C (Kd.slice 5 (Kd.int .u8)) W A xs.length xs) (hB : Kd.C (Kd.slice 5 (Kd.int .u8)) W B xs.length xs) (hl : xs.length < 9223372036854775807) :
    Calls Try.prog 35 #[.slice A xs.length c, .slice B xs.length d, .func (.func 14) #[] #[]] W fun e W' => e = .returned (.bool true) ∧ Below W.heap.size W W' := by
  have HA := Aside0.mk hA
  have HB := Aside0.mk hB
  clear hA hB
  refine (callsIn_wide (n := 1)).1 ?_
  refine callsIn_of_wp Try.func35 rfl trivial ?_ rfl
  simp only [Try.ntmps35, List.size_toArray, List.length_cons, List.length_nil, Nat.reduceAdd, Nat.reduceSub, Array.replicate_succ, Array.replicate_zero, List.push_toArray, List.append_toArray, List.nil_append, List.cons_append]
  gi_wp2
  gi_loopw [17] (fun v17 w' => ∃ i : Nat, v17 = .int .i64 (i : Int) ∧ i ≤ xs.length ∧ Aside0 (Below W.heap.size W w')) (fun v17 _ => xs.length - (intOf v17).toNat)
  case atStart => exact ⟨0, rfl, Nat.zero_le _, ⟨Below.refl _ _⟩⟩
  case round =>
    obtain ⟨i, rfl, hi, HW⟩ := hrel
    by_cases hlt : i < xs.length
    · have t1 : decide ((i : Int) < (xs.length : Int)) = true := decide_eq_true (by omega)
      obtain ⟨ad, A0, a0, rfl, ca, la, ra⟩ := at_rows (Kd.C_below HA.out HW.out) i hlt
      obtain ⟨bd, B0, b0, rfl, cb, lb, rb⟩ := at_rows (Kd.C_below HB.out HW.out) i hlt
      generalize xs.getD i [] = x at *
      have RA := Aside0.mk ra
      have RB := Aside0.mk rb
      clear ra rb
      gi_wp2_with (refine ⟨trivial, ?_⟩; gi_at_call 14; refine (callsIn_wide.2 (bytes_Equal.calls A0 a0 x B0 b0 x true _ RA.out la RB.out lb (by unfold bytes_Equal.f; simp))).mono ?_; rintro e w1 ⟨rfl, hd1⟩; have HW1 := Aside0.mk (below_drawn HW.out hd1); clear hd1)
      exact ⟨⟨i + 1, by simp, by omega, HW1⟩, by simp [intOf]; omega⟩
    · have t1 : decide ((i : Int) < (xs.length : Int)) = false := decide_eq_false (by omega)
      gi_wp2
      go_ret
      exact ⟨rfl, HW.out⟩
set_option maxRecDepth 100000 in
set_option maxHeartbeats 4000000 in
theorem same_image (W : World) (A B : Option Addr) (c d : Nat) (xs : List (List Int)) (hA : Kd.C (Kd.slice 5 (Kd.int .u8)) W A xs.length xs) (hB : Kd.C (Kd.slice 5 (Kd.int .u8)) W B xs.length xs) (hl : xs.length < 9223372036854775807) :
    Calls Try.prog 12 #[.slice A xs.length c, .slice B xs.length d] W fun e W' => e = .returned (.bool true) ∧ Below W.heap.size W W' := by
  have HA := Aside0.mk hA
  have HB := Aside0.mk hB
  clear hA hB
  refine (callsIn_wide (n := 1)).1 ?_
  refine callsIn_of_wp Try.func12 rfl trivial ?_ rfl
  simp only [Try.ntmps12, List.size_toArray, List.length_cons, List.length_nil, Nat.reduceAdd, Nat.reduceSub, Array.replicate_succ, Array.replicate_zero, List.push_toArray, List.append_toArray, List.nil_append, List.cons_append]
  gi_wp2_with (refine ⟨trivial, ?_⟩; gi_at_call 35; refine (callsIn_wide.2 (eqf_same _ A B c d xs HA.out HB.out hl)).mono ?_; rintro e w1 ⟨rfl, hb1⟩; have HW1 := Aside0.mk hb1; clear hb1)
  go_ret
  exact ⟨rfl, HW1.out⟩
end Go.Proofs.Ytbopccjcehnfnaa.Sp
