/- GaugeEdges: for every number n: nothing of nothing is no number, something of nothing an infinity, all of it is one (gauge.Fill, gauge.Mean), and nothing of three is printed as 0.000 (gauge.Print). Condition: the tables of strconv and math/bits are as the program's text lays them (the card ties them). -/
import Derived.Test.YthgioldoeejjnaaDoorHu
import Derived.Test.YthgioldoeejjnaaDoorHs
namespace Go.Proofs.YthgioldoeejjnaaDoor.Gf
open Go.RowKit Go.Proofs.YthgioldoeejjnaaDoorW.PrintWords Go.Proofs.YthgioldoeejjnaaDoorW.PrintLast
set_option linter.unusedVariables false
set_option linter.unusedSimpArgs false

abbrev sumI (l : List Int) : Option Nat := sumF (fun x => some (fi x)) l
def MeanS (l : List Int) : Nat := canonO (fop .quo (sumI l) (some (fi l.length)))
theorem Mean_call (A : Option Addr) (c : Nat) (l : List Int) (w : World) (hC : Kd.C (Kd.int .i64) w A l.length l) (hl : l.length ≤ 140737488355328) :
    Calls Tryd.prog 6 #[.slice A l.length c] w fun e w' => e = .returned (.int .u64 (MeanS l)) ∧ Drawn0 w w' := by
  have HSF := Lib.hid (sumWhole_call A c l w hC hl)
  clear hC hl
  go_enter Tryd.func6, Tryd.ntmps6
  go_wp2_with (first
    | (go_at_call 18; refine HSF.out.mono ?_; clear HSF; rintro e w' ⟨zs, rfl, hs, ⟨n1, rfl⟩⟩; have HS := Lib.hid hs; clear hs)
    | (go_at_call 17; refine (whole_call _ _).mono ?_; rintro e w' ⟨rfl, rfl⟩)
    | (go_at_call 16; refine (over_call _ _ _).mono ?_; rintro e w3 ⟨z, m, rfl, rfl, hz⟩; have HZ := Lib.hid hz; clear hz)
    | (go_at_call 15; refine (told_call _ _).mono ?_; rintro e w' ⟨rfl, rfl⟩))
  go_ret
  refine ⟨congrArg (fun n : Nat => Ending.returned (.int .u64 (n : Int))) (canon_res ?_), ⟨⟨_, rfl⟩⟩⟩
  exact res_fop (by simp) HS.out (b := some _) rfl HZ.out
def nanW : Nat := 9221120237041090561
theorem MeanNil_call (w : World) : Calls Tryd.prog 6 #[.slice none 0 0] w fun e w' => e = .returned (.int .u64 9221120237041090561) ∧ Drawn0 w w' := by
  have h := Mean_call none 0 [] w (Kd.C_of_reads (d := (0 : Int)) (enc := Value.int .i64) (h1 := fun _ => rfl) ⟨rfl, by simp, fun h => absurd h (by simp)⟩) (by simp)
  rw [show ((MeanS [] : Nat) : Int) = 9221120237041090561 by decide +kernel] at h
  exact h

/-- A whole number's float is finite and no nought. -/
theorem near_int (s : Bool) (n : Nat) (h0 : n ≠ 0) (h : n ≤ 9223372036854775808) : ∃ k, 4503599627370496 ≤ k ∧ k < 9218868437227405312 ∧ F64.nearest s n 0 = wordR s k := by
  unfold Ieee.Format.nearest
  rw [show F64.fractionBits = 52 from rfl, show F64.leastPlace = -1074 from rfl, show F64.binade = 4503599627370496 from rfl, show F64.infRung = 9218868437227405312 from rfl, if_neg h0]
  dsimp only
  obtain ⟨L, hL⟩ : ∃ L, n.log2 = L := ⟨_, rfl⟩
  obtain ⟨l1, l2⟩ := (Nat.log2_eq_iff h0).1 hL
  have hL2 : L < 64 := by
    have : n.log2 < 64 := by rw [Nat.log2_lt h0]; exact Nat.lt_of_le_of_lt h (by decide)
    omega
  rw [hL, show max ((0 : Int) + (L : Int) - (52 : Nat)) (-1074) = (L : Int) - 52 by omega]
  rw [show (((L : Int) - 52) - -1074).toNat = L + 1022 by omega]
  have hk : 4503599627370496 ≤ Ieee.Toward.even.cut s (n <<< ((0 : Int) - ((L : Int) - 52)).toNat) (((L : Int) - 52) - 0).toNat ∧ Ieee.Toward.even.cut s (n <<< ((0 : Int) - ((L : Int) - 52)).toNat) (((L : Int) - 52) - 0).toNat ≤ 9007199254740992 := by
    by_cases h52 : L ≤ 52
    · rw [show ((0 : Int) - ((L : Int) - 52)).toNat = 52 - L by omega, show (((L : Int) - 52) - 0).toNat = 0 by omega, Nat.shiftLeft_eq]
      have := cut_exact (n * 2 ^ (52 - L)) 0 s (by omega)
      rw [Nat.pow_zero, Nat.mul_one] at this
      rw [this]
      constructor
      · have h1 : 2 ^ L * 2 ^ (52 - L) ≤ n * 2 ^ (52 - L) := Nat.mul_le_mul_right _ l1
        rw [← Nat.pow_add, show L + (52 - L) = 52 by omega] at h1
        exact h1
      · have h1 : n * 2 ^ (52 - L) ≤ 2 ^ (L + 1) * 2 ^ (52 - L) := Nat.mul_le_mul_right _ (Nat.le_of_lt l2)
        rw [← Nat.pow_add, show L + 1 + (52 - L) = 53 by omega] at h1
        exact h1
    · rw [show ((0 : Int) - ((L : Int) - 52)).toNat = 0 by omega, show (((L : Int) - 52) - 0).toNat = L - 52 by omega, Nat.shiftLeft_zero]
      unfold Ieee.Toward.cut
      rw [Nat.min_eq_left (show L - 52 ≤ n.log2 + 2 by omega), Nat.one_shiftLeft]
      have hp := Nat.two_pow_pos (L - 52)
      have q1 : 4503599627370496 ≤ n / 2 ^ (L - 52) := by
        rw [Nat.le_div_iff_mul_le hp, show (4503599627370496 : Nat) = 2 ^ 52 by decide, ← Nat.pow_add, show 52 + (L - 52) = L by omega]
        exact l1
      have q2 : n / 2 ^ (L - 52) < 9007199254740992 := by
        rw [Nat.div_lt_iff_lt_mul hp, show (9007199254740992 : Nat) = 2 ^ 53 by decide, ← Nat.pow_add, show 53 + (L - 52) = L + 1 by omega]
        exact l2
      have hb : ∀ b : Bool, b.toNat ≤ 1 := by intro b; cases b <;> decide
      dsimp only
      have := hb (decide (2 ^ (L - 52) < 2 * (n % 2 ^ (L - 52))) || 2 ^ (L - 52) == 2 * (n % 2 ^ (L - 52)) && n / 2 ^ (L - 52) % 2 == 1)
      omega
  generalize Ieee.Toward.even.cut s (n <<< ((0 : Int) - ((L : Int) - 52)).toNat) (((L : Int) - 52) - 0).toNat = K at *
  refine ⟨_, ?_, ?_, word_eq s _⟩
  · rw [Nat.min_eq_left (by omega)]; omega
  · rw [Nat.min_eq_left (by omega)]; omega

theorem fi_pos (n : Int) (h0 : 0 < n) (h : n ≤ 9223372036854775807) : ∃ k, 4503599627370496 ≤ k ∧ k < 9218868437227405312 ∧ fi n = wordR false k := by
  obtain ⟨k, h1, h2, h3⟩ := near_int false n.natAbs (by omega) (by omega)
  refine ⟨k, h1, h2, ?_⟩
  rw [← h3]
  change F64.write (.number (decide (n < 0)) n.natAbs 0) = _
  rw [decide_eq_false (by omega)]
  rfl
theorem fi_neg (n : Int) (h0 : n < 0) (h : -9223372036854775808 ≤ n) : ∃ k, 4503599627370496 ≤ k ∧ k < 9218868437227405312 ∧ fi n = wordR true k := by
  obtain ⟨k, h1, h2, h3⟩ := near_int true n.natAbs (by omega) (by omega)
  refine ⟨k, h1, h2, ?_⟩
  rw [← h3]
  change F64.write (.number (decide (n < 0)) n.natAbs 0) = _
  rw [decide_eq_true h0]
  rfl
theorem read_word (s : Bool) (k : Nat) (h2 : k < 9218868437227405312) : F64.read (wordR s k) = .number s (magR k) (-1074 + (plcR k : Int)) := by
  rw [show F64.read (wordR s k) = _ from read_key _, rung_word s k (by omega), if_pos h2, neg_word s k (by omega)]
theorem mag_pos (k : Nat) (h : 4503599627370496 ≤ k) : magR k ≠ 0 := by
  unfold magR
  rw [if_neg (by omega)]
  omega
theorem fill_zero (s : Bool) (n : Int) (k : Nat) (h1 : 4503599627370496 ≤ k) (h2 : k < 9218868437227405312) (h : fi n = wordR s k) : FillS n 0 = wordR s 9218868437227405312 := by
  unfold FillS floatBits
  rw [h, show fi 0 = 0 by decide +kernel]
  change canonO (F64.div (wordR s k) 0) = _
  unfold Ieee.Format.div
  rw [read_word s k h2, show F64.read 0 = .number false 0 (-1074) by decide]
  unfold Ieee.Datum.quotient
  dsimp only
  rw [if_pos rfl, if_neg (mag_pos k h1), Option.map_some]
  change canon (F64.write (.infinity (s ^^ false))) = _
  unfold Ieee.Format.write
  dsimp only
  rw [word_eq, show F64.infRung = 9218868437227405312 from rfl, canon_isn, isn_key, rung_word _ _ (by decide)]
  cases s <;> rfl
theorem fill_self (n : Int) (k : Nat) (h1 : 4503599627370496 ≤ k) (h2 : k < 9218868437227405312) (h : fi n = wordR false k) : FillS n n = 4607182418800017408 := by
  unfold FillS floatBits
  rw [h]
  change canonO (F64.div (wordR false k) (wordR false k)) = _
  unfold Ieee.Format.div
  rw [read_word false k h2]
  unfold Ieee.Datum.quotient
  dsimp only
  have hm := mag_pos k h1
  rw [if_neg hm, Option.map_some, show F64.fractionBits + 2 + (magR k).log2 - (magR k).log2 = 54 by rw [show F64.fractionBits = 52 from rfl]; omega, Nat.shiftLeft_eq, Nat.mul_comm (magR k), Nat.mul_div_cancel _ (Nat.pos_of_ne_zero hm), Nat.mul_mod_left, Int.sub_self]
  decide +kernel
theorem print_zero : PrintS 0 = ⟨#[48, 46, 48, 48, 48]⟩ := by
  rcases print_ways 0 (by decide) with ⟨h1, h2⟩ | ⟨h1, h2, h3⟩ | ⟨h1, h2, x, hx, ⟨h3, h4⟩ | ⟨h3, h4⟩⟩
  · revert h1; decide
  · revert h2; decide
  · have hx0 : floatBits .mul .f64 (rung 0) thou = some 0 := by decide +kernel
    rw [hx0] at hx
    cases hx
    rw [h4, show val 0 = 0 by decide]
    have he : evenU 0 = 0 := by
      unfold evenU
      have hup := UN_pos
      rw [Nat.zero_mod, Nat.zero_div, decide_eq_false (by omega), show (UN == 2 * 0) = false by rw [beq_eq_false_iff_ne]; omega]
      rfl
    rw [he, ← pad_dS, show dS 0 = ⟨#[]⟩ by unfold dS; rw [digs_zero]]
    decide
  · have hx0 : floatBits .mul .f64 (rung 0) thou = some 0 := by decide +kernel
    rw [hx0] at hx
    cases hx
    revert h3
    decide +kernel

theorem Inf_pos (w : World) : Calls Tryd.prog 8 #[.int .i64 1] w fun e w' => e = .returned (.float .f64 9218868437227405312) ∧ w' = w := by
  have hf := run_from
  go_enter Tryd.func8, Tryd.ntmps8
  go_wp2
  go_ret
  exact ⟨rfl, rfl⟩
theorem Inf_neg (w : World) : Calls Tryd.prog 8 #[.int .i64 (-1)] w fun e w' => e = .returned (.float .f64 18442240474082181120) ∧ w' = w := by
  have hf := run_from
  go_enter Tryd.func8, Tryd.ntmps8
  go_wp2
  go_ret
  exact ⟨rfl, rfl⟩

structure FillIs (a b r : Int) : Prop where out : ∀ w : World, Calls Tryd.prog 5 #[.int .i64 a, .int .i64 b] w fun e w' => e = .returned (.int .u64 r) ∧ Drawn0 w w'
theorem fillIs (a b r : Int) (h : ((FillS a b : Nat) : Int) = r) : FillIs a b r := ⟨fun w => by rw [← h]; exact Fill_call a b w⟩

set_option maxHeartbeats 4000000 in
theorem GaugeEdges_walk (n : Int) (w : World) (hn : (Lit.int .i64 n).wf = true) (ht : Tab w) :
    Calls Tryd.prog 3 #[.int .i64 n] w fun e w' => e = .returned (.bool true) ∧ Below w.heap.size w w' := by
  have hn1 : -9223372036854775808 ≤ n ∧ n ≤ 9223372036854775807 := by
    simp [Lit.wf, IntKind.min, IntKind.max, IntKind.bits, IntKind.signed] at hn
    omega
  have HT := Lib.hid ht
  have hbits := run_bits
  have F00 := fillIs 0 0 9221120237041090561 (by decide +kernel)
  have HB := Lib.hid (Below.refl w.heap.size w)
  clear hn ht
  rcases Int.lt_trichotomy n 0 with h | h | h
  · obtain ⟨k, h1, h2, h3⟩ := fi_neg n h hn1.1
    have Fn0 := fillIs n 0 18442240474082181120 (by rw [fill_zero true n k h1 h2 h3]; rfl)
    clear hn1 h1 h2 h3
    go_enter Tryd.func3, Tryd.ntmps3
    go_wp2_with (first
      | (go_at_call 5; first | ((with_reducible refine (F00.out _).mono ?_); rintro e w' ⟨rfl, ⟨n1, rfl⟩⟩) | ((with_reducible refine (Fn0.out _).mono ?_); rintro e w' ⟨rfl, ⟨n1, rfl⟩⟩))
      | (go_at_call 6; refine (MeanNil_call _).mono ?_; rintro e w' ⟨rfl, ⟨n1, rfl⟩⟩)
      | (go_at_call 8; refine (Inf_neg _).mono ?_; rintro e w' ⟨rfl, rfl⟩))
    go_ret
    exact ⟨rfl, by repeat (first | exact Below.refl _ _ | apply pw_below_drewN)⟩
  · subst h
    have F03 := fillIs 0 3 0 (by decide +kernel)
    have hp := print_zero
    clear hn1
    go_enter Tryd.func3, Tryd.ntmps3
    go_wp2_with (first
      | (go_at_call 5; first | ((with_reducible refine (F00.out _).mono ?_); rintro e w' ⟨rfl, ⟨n1, rfl⟩⟩) | ((with_reducible refine (F03.out _).mono ?_); rintro e w' ⟨rfl, ⟨n1, rfl⟩⟩))
      | (go_at_call 6; refine (MeanNil_call _).mono ?_; rintro e w' ⟨rfl, ⟨n1, rfl⟩⟩)
      | (go_at_call 9; refine (Print_call 0 _ (by decide) (HT.out.below (by repeat (first | exact HB.out | apply pw_below_drewN)))).mono ?_; rintro e w2 ⟨rfl, hb1⟩; have HB2 := Lib.hid hb1; clear hb1))
    go_ret
    refine ⟨rfl, below_then (by repeat (first | exact HB.out | apply pw_below_drewN)) (by simp) HB2.out⟩
  · obtain ⟨k, h1, h2, h3⟩ := fi_pos n h hn1.2
    have Fn0 := fillIs n 0 9218868437227405312 (by rw [fill_zero false n k h1 h2 h3]; rfl)
    have Fnn := fillIs n n 4607182418800017408 (by rw [fill_self n k h1 h2 h3]; rfl)
    clear hn1 h1 h2 h3
    go_enter Tryd.func3, Tryd.ntmps3
    go_wp2_with (first
      | (go_at_call 5; first | ((with_reducible refine (F00.out _).mono ?_); rintro e w' ⟨rfl, ⟨n1, rfl⟩⟩) | ((with_reducible refine (Fn0.out _).mono ?_); rintro e w' ⟨rfl, ⟨n1, rfl⟩⟩) | ((with_reducible refine (Fnn.out _).mono ?_); rintro e w' ⟨rfl, ⟨n1, rfl⟩⟩))
      | (go_at_call 6; refine (MeanNil_call _).mono ?_; rintro e w' ⟨rfl, ⟨n1, rfl⟩⟩)
      | (go_at_call 8; refine (Inf_pos _).mono ?_; rintro e w' ⟨rfl, rfl⟩))
    go_ret
    exact ⟨rfl, by repeat (first | exact Below.refl _ _ | apply pw_below_drewN)⟩
end Go.Proofs.YthgioldoeejjnaaDoor.Gf
