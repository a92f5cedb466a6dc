/- Written by a program of this session. SameImage of any two images: it tells, and tells true of equal ones. -/
import Derived.Test.YtlkijnnoalfblaaCm
namespace Go.Proofs.Ytlkijnnoalfblaa.Dk
open Go Go.RowKit Go.Shelf Go.Proofs Go.Maps Go.Proofs.Ytlkijnnoalfblaa.Sp Go.Proofs.Ytlkijnnoalfblaa.XFb Go.Proofs.YtlkijnnoalfblaaW.PrintWords Go.Proofs.YtlkijnnoalfblaaW.PrintLast Go.Proofs.YtlkijnnoalfblaaW.PrintMore
set_option linter.unusedVariables false
set_option linter.unusedSimpArgs false
set_option maxRecDepth 100000 in
set_option maxHeartbeats 8000000 in
theorem eqf_any (W : World) (A B : Option Addr) (c d : Nat) (xs ys : List (List Int)) (hA : Kd.C (Kd.slice 5 (Kd.int .u8)) W A xs.length xs) (hB : Kd.C (Kd.slice 5 (Kd.int .u8)) W B ys.length ys) (hc : xs.length ≤ c) (hd : ys.length ≤ d) (hl : xs.length < 9223372036854775807) (hl2 : ys.length < 9223372036854775807) :
    Calls Try.prog 32 #[.slice A xs.length c, .slice B ys.length d, .func (.func 33) #[] #[]] W fun e W' => ∃ b, e = .returned (.bool b) ∧ (xs = ys → b = true) ∧ Below W.heap.size W W' := by
  have HA := Aside0.mk hA
  have HB := Aside0.mk hB
  clear hA hB
  refine (callsIn_wide (n := 1)).1 ?_
  refine callsIn_of_wp Try.func32 rfl trivial ?_ rfl
  simp only [Try.ntmps32, List.size_toArray, List.length_cons, List.length_nil, Nat.reduceAdd, Nat.reduceSub, Array.replicate_succ, Array.replicate_zero, List.push_toArray, List.append_toArray, List.nil_append, List.cons_append]
  by_cases hll : xs.length = ys.length
  · have HLL := Aside0.mk hll
    have t0 : ((xs.length : Int) != (ys.length : Int)) = false := by rw [hll]; simp
    have hle : xs.length ≤ d := by omega
    clear hll
    gi_wp2
    gi_loopw [17] (fun v17 w' => ∃ i : Nat, v17 = .int .i64 (i : Int) ∧ i ≤ xs.length ∧ Aside0 (Below W.heap.size W w')) (fun v17 _ => xs.length - (intOf v17).toNat)
    case atStart => exact ⟨0, rfl, Nat.zero_le _, ⟨Below.refl _ _⟩⟩
    case round =>
      obtain ⟨i, rfl, hi, HW⟩ := hrel
      by_cases hlt : i < xs.length
      · have hlt2 : i < ys.length := by have := HLL.out; omega
        have t1 : decide ((i : Int) < (xs.length : Int)) = true := decide_eq_true (by omega)
        obtain ⟨ad, A0, a0, rfl, ca, la, ra⟩ := at_rows (Kd.C_below HA.out HW.out) i hlt
        obtain ⟨bd, B0, b0, rfl, cb, lb, rb⟩ := at_rows (Kd.C_below HB.out HW.out) i hlt2
        obtain ⟨x, hx⟩ : ∃ x, xs.getD i [] = x := ⟨_, rfl⟩
        obtain ⟨y, hy⟩ : ∃ y, ys.getD i [] = y := ⟨_, rfl⟩
        rw [hx] at ca la ra
        rw [hy] at cb lb rb
        obtain ⟨b, hb⟩ : ∃ b, ((strOfNums x).toList == (strOfNums y).toList) = b := ⟨_, rfl⟩
        have hbe := bytes_Equal.calls A0 a0 x B0 b0 y b wr ra la rb lb (by unfold bytes_Equal.f; rw [hb])
        have HXY := Aside0.mk (show xs = ys → b = true from fun e => by rw [← hb, ← hx, ← hy, e]; simp)
        clear ra rb hx hy hb
        cases b with
        | true =>
          gi_wp2_with (refine ⟨trivial, ?_⟩; gi_at_call 33; refine (callsIn_wide.2 hbe).mono ?_; rintro e w1 ⟨rfl, hd1⟩; have HW1 := Aside0.mk (below_drawn HW.out hd1); clear hd1 hbe)
          exact ⟨⟨i + 1, by simp, by omega, HW1⟩, by simp [intOf]; omega⟩
        | false =>
          gi_wp2_with (refine ⟨trivial, ?_⟩; gi_at_call 33; refine (callsIn_wide.2 hbe).mono ?_; rintro e w1 ⟨rfl, hd1⟩; have HW1 := Aside0.mk (below_drawn HW.out hd1); clear hd1 hbe)
          go_ret
          exact ⟨_, rfl, HXY.out, HW1.out⟩
      · have t1 : decide ((i : Int) < (xs.length : Int)) = false := decide_eq_false (by omega)
        gi_wp2
        go_ret
        exact ⟨true, rfl, fun _ => rfl, HW.out⟩
  · have t0 : ((xs.length : Int) != (ys.length : Int)) = true := by rw [bne_iff_ne]; omega
    have HLL := Aside0.mk (show xs = ys → false = true from fun e => absurd (by rw [e]) hll)
    clear hll
    gi_wp2
    go_ret
    exact ⟨_, rfl, HLL.out, Below.refl _ _⟩
set_option maxRecDepth 100000 in
set_option maxHeartbeats 8000000 in
theorem same_any (W : World) (A B : Option Addr) (c d : Nat) (xs ys : List (List Int)) (hA : Kd.C (Kd.slice 5 (Kd.int .u8)) W A xs.length xs) (hB : Kd.C (Kd.slice 5 (Kd.int .u8)) W B ys.length ys) (hc : xs.length ≤ c) (hd : ys.length ≤ d) (hl : xs.length < 9223372036854775807) (hl2 : ys.length < 9223372036854775807) :
    Calls Try.prog 11 #[.slice A xs.length c, .slice B ys.length d] W fun e W' => ∃ b, e = .returned (.bool b) ∧ (xs = ys → b = true) ∧ Below W.heap.size W W' := by
  have HA := Aside0.mk hA
  have HB := Aside0.mk hB
  clear hA hB
  refine (callsIn_wide (n := 1)).1 ?_
  refine callsIn_of_wp Try.func11 rfl trivial ?_ rfl
  simp only [Try.ntmps11, List.size_toArray, List.length_cons, List.length_nil, Nat.reduceAdd, Nat.reduceSub, Array.replicate_succ, Array.replicate_zero, List.push_toArray, List.append_toArray, List.nil_append, List.cons_append]
  gi_wp2_with (refine ⟨trivial, ?_⟩; gi_at_call 32; refine (callsIn_wide.2 (eqf_any _ A B c d xs ys HA.out HB.out hc hd hl hl2)).mono ?_; rintro e w1 ⟨b, rfl, hb, hb1⟩; have HBB := Aside0.mk hb; have HW1 := Aside0.mk hb1; clear hb hb1)
  go_ret
  exact ⟨b, rfl, HBB.out, HW1.out⟩
end Go.Proofs.Ytlkijnnoalfblaa.Dk
