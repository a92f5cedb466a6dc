/- gauge: Print, the reference's. -/
import Derived.Test.YthgioldoeejjnaaDoorHp
namespace Go.Proofs.YthgioldoeejjnaaDoor.Gf
open Go.RowKit Go.Proofs.YthgioldoeejjnaaDoorW.PrintWords Go.Proofs.YthgioldoeejjnaaDoorW.PrintLast
set_option linter.unusedVariables false
set_option linter.unusedSimpArgs false

/-- A number's digits; of nought none. -/
def digs (n : Nat) : List UInt8 := if h : n = 0 then [] else digs (n / 10) ++ [UInt8.ofNat (48 + n % 10)]
termination_by n
decreasing_by omega
theorem digs_zero : digs 0 = [] := by rw [digs, dif_pos rfl]
theorem digs_pos (n : Nat) (h : n ≠ 0) : digs n = digs (n / 10) ++ [UInt8.ofNat (48 + n % 10)] := by rw [digs, dif_neg h]
theorem digs_dec (n : Nat) (h : n ≠ 0) : digs n = Lib.decDigits n := by
  induction n using Nat.strongRecOn with
  | ind n ih =>
    rw [digs_pos n h, Lib.decDigits]
    by_cases h1 : n < 10
    · rw [dif_pos h1, show n / 10 = 0 by omega, digs_zero, show n % 10 = n by omega]
      rfl
    · rw [dif_neg h1, ih (n / 10) (by omega) (by omega)]
def dS (n : Nat) : ByteArray := ⟨(digs n).toArray⟩
theorem dS_zero (b : ByteArray) : dS 0 ++ b = b := by
  unfold dS
  rw [digs_zero]
  exact ByteArray.empty_append
theorem dS_next (n : Nat) (h : n ≠ 0) (b : ByteArray) : dS n ++ b = dS (n / 10) ++ (⟨#[UInt8.ofNat (48 + n % 10)]⟩ ++ b) := by
  unfold dS
  rw [digs_pos n h, ← ByteArray.append_assoc]
  congr 1
theorem pad_dS (n : Nat) : pad4 (dS n) = pad4 (numS n) := by
  by_cases h : n = 0
  · subst h
    have e : numS 0 = ⟨#[48]⟩ ++ dS 0 := by
      unfold numS dS
      rw [digs_zero, show ((0 : Nat) : Int) = 0 from rfl, show Lib.itoa 0 = [48] by decide +kernel]
      rfl
    rw [e, pad4_more]
    unfold dS
    rw [digs_zero]
    decide
  · unfold dS numS
    rw [digs_dec n h, Lib.itoa_nonneg]
theorem dS_size (n : Nat) (h : n < 9007199254740992) : (dS n).size ≤ 20 := by
  by_cases h0 : n = 0
  · subst h0
    unfold dS
    rw [digs_zero]
    decide
  · have := size4 n h
    unfold numS at this
    rw [Lib.itoa_nonneg] at this
    unfold dS
    rw [digs_dec n h0]
    exact this

theorem neg_top (x : Nat) (h : x < 18446744073709551616) (hn : neg x = true) : 9223372036854775808 ≤ x := by
  unfold neg at hn
  rw [beq_iff_eq] at hn
  omega
theorem xor_top (x : Nat) (h : x < 18446744073709551616) (hn : 9223372036854775808 ≤ x) : x ^^^ 2 ^ 63 = rung x := by
  unfold rung
  rw [show (9223372036854775808 : Nat) = 2 ^ 63 by decide] at *
  apply Nat.eq_of_testBit_eq
  intro i
  rw [Nat.testBit_xor, Nat.testBit_two_pow, Nat.testBit_mod_two_pow]
  rcases Nat.lt_trichotomy i 63 with hi | hi | hi
  · rw [decide_eq_false (show ¬ 63 = i by omega), decide_eq_true hi]
    simp
  · subst hi
    have : x.testBit 63 = true := by
      rw [Nat.testBit_eq_decide_div_mod_eq]
      simp
      omega
    rw [this]
    rfl
  · rw [decide_eq_false (show ¬ 63 = i by omega), decide_eq_false (show ¬ i < 63 by omega)]
    have : x.testBit i = false := Nat.testBit_lt_two_pow (Nat.lt_of_lt_of_le h (by rw [show (18446744073709551616 : Nat) = 2 ^ 64 by decide]; exact Nat.pow_le_pow_right (by omega) (by omega)))
    rw [this]
    rfl
theorem run_negf (x : Nat) (h : x < 18446744073709551616) (hn : neg x = true) (W : World) : (Op.unary .neg (.float .f64 x)).run Tryd.prog W = .ok (.float .f64 (rung x)) W := by
  rw [← xor_top x h (neg_top x h hn)]
  rfl
theorem sign_bit (g : Int) (h : g.toNat < 18446744073709551616) (h0 : 0 ≤ g) : (g / 9223372036854775808 == 1) = neg g.toNat := by
  unfold neg
  rw [Bool.eq_iff_iff, beq_iff_eq, beq_iff_eq]
  omega

/-- How a half is dealt with. -/
theorem even_cases (V h : Nat) (hh : h * 2 = UN) : (compare (V % UN) h = .gt ∧ evenU V = V / UN + 1) ∨ (compare (V % UN) h = .eq ∧ V / UN % 2 = 1 ∧ evenU V = V / UN + 1) ∨ (compare (V % UN) h = .eq ∧ V / UN % 2 = 0 ∧ evenU V = V / UN) ∨ (compare (V % UN) h = .lt ∧ evenU V = V / UN) := by
  unfold evenU
  generalize V / UN = N
  generalize V % UN = R
  generalize UN = U at *
  rcases Nat.lt_trichotomy R h with h1 | h1 | h1
  · right; right; right
    refine ⟨by simp [compare, compareOfLessAndEq, h1], ?_⟩
    rw [decide_eq_false (by omega), show (U == 2 * R) = false by rw [beq_eq_false_iff_ne]; omega]
    rfl
  · rcases (show N % 2 = 1 ∨ N % 2 = 0 by omega) with h2 | h2
    · right; left
      refine ⟨by simp [compare, compareOfLessAndEq, h1], h2, ?_⟩
      rw [decide_eq_false (by omega), show (U == 2 * R) = true by rw [beq_iff_eq]; omega, h2]
      rfl
    · right; right; left
      refine ⟨by simp [compare, compareOfLessAndEq, h1], h2, ?_⟩
      rw [decide_eq_false (by omega), show (U == 2 * R) = true by rw [beq_iff_eq]; omega, h2]
      rfl
  · left
    refine ⟨by simp [compare, compareOfLessAndEq, show ¬ R < h by omega, show ¬ R = h by omega], ?_⟩
    rw [decide_eq_true (by omega)]
    rfl

theorem run_bstr (n : Int) (W : World) : (convert 45 9 (.slice (some ⟨W.heap.size, 0, none⟩) 1 1)).run Tryd.prog (W.alloc (.cells #[.int .u8 n] 5)) = .ok (.string ⟨#[UInt8.ofNat n.toNat]⟩) (W.alloc (.cells #[.int .u8 n] 5)) := by
  refine run_convert_bytes_arg _ _ 5 rfl rfl W.heap.size 0 1 1 [n] rfl (fun i hi => ?_) _ rfl
  obtain rfl : i = 0 := by omega
  go_simp
set_option maxHeartbeats 4000000 in
theorem printR_small (g : Int) (w : World) (x : Nat) (h0 : 0 ≤ g) (hg : g.toNat < 18446744073709551616) (hn : isn g.toNat = false) (hi : isi g.toNat = false) (hm : floatBits .mul .f64 (rung g.toNat) thou = some x) (hs : Small x) :
    Calls Tryd.prog 14 #[.int .u64 g] w fun e w' => e = .returned (.string (dotted (sgS (neg g.toNat)) (pad4 (numS (evenU (val x)))))) ∧ Below w.heap.size w w' := by
  have hf := run_from
  have hne := ne_self g.toNat
  rw [hn] at hne
  have hsb := sign_bit g hg h0
  have hom := order_max g.toNat
  rw [hi] at hom
  have hmul : ∀ W, (binOp .mul 26 (.float .f64 (rung g.toNat)) (.float .f64 4652007308841189376)).run Tryd.prog W = .ok (.float .f64 x) W := fun W => run_float_arith W .mul _ .f64 _ _ x hm
  have hlt : FloatKind.f64.format.order x 4845873199050653696 = some .lt := by
    have h1 := hs.toFin.order big_fin
    rw [big_val] at h1
    have h2 := hs.sm
    rw [show FloatKind.f64.format.order x 4845873199050653696 = _ from h1]
    simp [compare, compareOfLessAndEq, h2]
  have hcv : ∀ W, (convert 26 3 (.float .f64 x)).run Tryd.prog W = .ok (.int .i64 ((val x / UN : Nat) : Int)) W := fun W => run_convert_float_int W _ _ .f64 .i64 x _ rfl rfl hs.cut
  have hwh := run_whole ((val x / UN : Nat) : Int)
  obtain ⟨z, hz, hzf, hzv⟩ := hs.rest
  have hsub : ∀ W, (binOp .sub 26 (.float .f64 x) (.float .f64 (floatOfInt .f64 ((val x / UN : Nat) : Int)))).run Tryd.prog W = .ok (.float .f64 z) W := fun W => run_float_arith W .sub _ .f64 _ _ z hz
  have hho : FloatKind.f64.format.order z 4602678819172646912 = some (compare (val z) (val half)) := hzf.order half_fin
  rw [hzv] at hho
  have hec := even_cases (val x) (val half) half_val
  have hnl := UN_log _ hs.sm
  have HE := Lib.hid hs.even_lt
  generalize evenU (val x) = E at *
  generalize val x / UN = N at *
  generalize compare (val x % UN) (val half) = c at *
  have HD := Lib.hid (dS_size E HE.out)
  have HG := Lib.hid hg
  clear hn hi hm hz hzf hzv hs hg h0
  have hq : neg g.toNat = true ∨ neg g.toNat = false := by cases neg g.toNat <;> simp
  rcases hq with hng | hng
  · have hnf := run_negf g.toNat HG.out hng
    rw [hng] at hsb ⊢
    clear hng
    rcases hec with ⟨hc, he⟩ | ⟨hc, hp, he⟩ | ⟨hc, hp, he⟩ | ⟨hc, he⟩
    · rw [hc] at hho
      have HEE := Lib.hid he
      clear hc he
      go_enter Tryd.func14, Tryd.ntmps14
      go_wp2_with (first
        | (go_at_call 28; refine (float_call _ _).mono ?_; rintro e w' ⟨rfl, rfl⟩))
      go_loopg [6, 8] (E + 4) (fun kq v6 v8 W => ∃ (m : Nat) (b : ByteArray), v6 = .int .i64 m ∧ v8 = .string b ∧ Aside0 (pad4 (dS m ++ b) = pad4 (dS E)) ∧ Aside0 ((dS m ++ b).size ≤ 20) ∧ Aside0 (m + (4 - b.size) = kq) ∧ Aside0 (m < 9007199254740992) ∧ Aside0 (Below w'.heap.size w' W))
      case atStart => exact ⟨E, ⟨#[]⟩, by rw [HEE.out] <;> rfl, rfl, ⟨by rw [show (⟨#[]⟩ : ByteArray) = ByteArray.empty from rfl, ByteArray.append_empty]⟩, ⟨by rw [show (⟨#[]⟩ : ByteArray) = ByteArray.empty from rfl, ByteArray.append_empty]; exact HD.out⟩, ⟨by rfl⟩, ⟨HE.out⟩, ⟨Below.refl _ _⟩⟩
      case round =>
        have hbs := run_bstr
        clear hmul hcv hwh hsub hf hho hlt
        obtain ⟨m, b, rfl, rfl, hpd, hsz, hk, hml, hbw⟩ := hrel
        have hbl : b.size ≤ 20 := by have := hsz.out; rw [ByteArray.size_append] at this; omega
        have hm2 := hml.out
        by_cases hm : 0 < m
        · have HM := Lib.hid hm
          go_wp2
          go_roundg (m / 10 + (4 - (b.size + 1)))
          case measure => have := hk.out; have := HM.out; omega
          case rel =>
            have e1 : (48 + (m : Int) % 10).toNat = 48 + m % 10 := by omega
            have e2 : (m : Int) / 10 = ((m / 10 : Nat) : Int) := by omega
            have hs : ∀ c : UInt8, (⟨#[c]⟩ ++ b : ByteArray).size = b.size + 1 := by intro c; rw [ByteArray.size_append]; have : (⟨#[c]⟩ : ByteArray).size = 1 := rfl; omega
            have hnx := dS_next m (by have := HM.out; omega) b
            refine ⟨m / 10, ⟨#[UInt8.ofNat (48 + m % 10)]⟩ ++ b, by rw [e2], (by first | rw [e1] | rw [UInt8.ofNat_add]; rfl), ⟨?_⟩, ⟨?_⟩, ⟨by rw [hs]⟩, ⟨by have := hml.out; omega⟩, ⟨below_alloc hbw.out _⟩⟩
            · rw [← hnx]; exact hpd.out
            · rw [← hnx]; exact hsz.out
        · obtain rfl : m = 0 := by omega
          clear hm
          by_cases hlt : b.size < 4
          · have hlb : decide ((b.size : Int) < 4) = true := by simp; omega
            have HL := Lib.hid hlt
            clear hlt
            go_wp2
            go_roundg (4 - (b.size + 1))
            case measure => have := hk.out; have := HL.out; omega
            case rel =>
              have hs : (⟨#[48]⟩ ++ b : ByteArray).size = b.size + 1 := by rw [ByteArray.size_append]; have : (⟨#[48]⟩ : ByteArray).size = 1 := rfl; omega
              have hp := hpd.out
              rw [dS_zero] at hp
              refine ⟨0, ⟨#[48]⟩ ++ b, rfl, rfl, ⟨?_⟩, ⟨?_⟩, ⟨by rw [hs]; omega⟩, ⟨by omega⟩, ⟨below_alloc hbw.out _⟩⟩
              · rw [dS_zero, pad4_more b HL.out]; exact hp
              · rw [dS_zero, hs]; have := HL.out; omega
          · have hlb : decide ((b.size : Int) < 4) = false := by simp; omega
            have hge : 4 ≤ b.size := by omega
            have HP := Lib.hid (pad4_done b hlt)
            clear hlt
            go_wp2
            go_quiet (fail)
            go_wp2
            go_ret
            have hp := hpd.out
            rw [dS_zero] at hp
            exact ⟨ret_str (by rw [← pad_dS, ← hp, HP.out]; rfl), pw_below_drewN hbw.out _⟩
    · have hpb : ((N : Int) % 2 == 1) = true := by rw [beq_iff_eq]; omega
      clear hp
      rw [hc] at hho
      have HEE := Lib.hid he
      clear hc he
      go_enter Tryd.func14, Tryd.ntmps14
      go_wp2_with (first
        | (go_at_call 28; refine (float_call _ _).mono ?_; rintro e w' ⟨rfl, rfl⟩))
      go_loopg [6, 8] (E + 4) (fun kq v6 v8 W => ∃ (m : Nat) (b : ByteArray), v6 = .int .i64 m ∧ v8 = .string b ∧ Aside0 (pad4 (dS m ++ b) = pad4 (dS E)) ∧ Aside0 ((dS m ++ b).size ≤ 20) ∧ Aside0 (m + (4 - b.size) = kq) ∧ Aside0 (m < 9007199254740992) ∧ Aside0 (Below w'.heap.size w' W))
      case atStart => exact ⟨E, ⟨#[]⟩, by rw [HEE.out] <;> rfl, rfl, ⟨by rw [show (⟨#[]⟩ : ByteArray) = ByteArray.empty from rfl, ByteArray.append_empty]⟩, ⟨by rw [show (⟨#[]⟩ : ByteArray) = ByteArray.empty from rfl, ByteArray.append_empty]; exact HD.out⟩, ⟨by rfl⟩, ⟨HE.out⟩, ⟨Below.refl _ _⟩⟩
      case round =>
        have hbs := run_bstr
        clear hmul hcv hwh hsub hf hho hlt
        obtain ⟨m, b, rfl, rfl, hpd, hsz, hk, hml, hbw⟩ := hrel
        have hbl : b.size ≤ 20 := by have := hsz.out; rw [ByteArray.size_append] at this; omega
        have hm2 := hml.out
        by_cases hm : 0 < m
        · have HM := Lib.hid hm
          go_wp2
          go_roundg (m / 10 + (4 - (b.size + 1)))
          case measure => have := hk.out; have := HM.out; omega
          case rel =>
            have e1 : (48 + (m : Int) % 10).toNat = 48 + m % 10 := by omega
            have e2 : (m : Int) / 10 = ((m / 10 : Nat) : Int) := by omega
            have hs : ∀ c : UInt8, (⟨#[c]⟩ ++ b : ByteArray).size = b.size + 1 := by intro c; rw [ByteArray.size_append]; have : (⟨#[c]⟩ : ByteArray).size = 1 := rfl; omega
            have hnx := dS_next m (by have := HM.out; omega) b
            refine ⟨m / 10, ⟨#[UInt8.ofNat (48 + m % 10)]⟩ ++ b, by rw [e2], (by first | rw [e1] | rw [UInt8.ofNat_add]; rfl), ⟨?_⟩, ⟨?_⟩, ⟨by rw [hs]⟩, ⟨by have := hml.out; omega⟩, ⟨below_alloc hbw.out _⟩⟩
            · rw [← hnx]; exact hpd.out
            · rw [← hnx]; exact hsz.out
        · obtain rfl : m = 0 := by omega
          clear hm
          by_cases hlt : b.size < 4
          · have hlb : decide ((b.size : Int) < 4) = true := by simp; omega
            have HL := Lib.hid hlt
            clear hlt
            go_wp2
            go_roundg (4 - (b.size + 1))
            case measure => have := hk.out; have := HL.out; omega
            case rel =>
              have hs : (⟨#[48]⟩ ++ b : ByteArray).size = b.size + 1 := by rw [ByteArray.size_append]; have : (⟨#[48]⟩ : ByteArray).size = 1 := rfl; omega
              have hp := hpd.out
              rw [dS_zero] at hp
              refine ⟨0, ⟨#[48]⟩ ++ b, rfl, rfl, ⟨?_⟩, ⟨?_⟩, ⟨by rw [hs]; omega⟩, ⟨by omega⟩, ⟨below_alloc hbw.out _⟩⟩
              · rw [dS_zero, pad4_more b HL.out]; exact hp
              · rw [dS_zero, hs]; have := HL.out; omega
          · have hlb : decide ((b.size : Int) < 4) = false := by simp; omega
            have hge : 4 ≤ b.size := by omega
            have HP := Lib.hid (pad4_done b hlt)
            clear hlt
            go_wp2
            go_quiet (fail)
            go_wp2
            go_ret
            have hp := hpd.out
            rw [dS_zero] at hp
            exact ⟨ret_str (by rw [← pad_dS, ← hp, HP.out]; rfl), pw_below_drewN hbw.out _⟩
    · have hpb : ((N : Int) % 2 == 1) = false := by rw [beq_eq_false_iff_ne]; omega
      clear hp
      rw [hc] at hho
      have HEE := Lib.hid he
      clear hc he
      go_enter Tryd.func14, Tryd.ntmps14
      go_wp2_with (first
        | (go_at_call 28; refine (float_call _ _).mono ?_; rintro e w' ⟨rfl, rfl⟩))
      go_loopg [6, 8] (E + 4) (fun kq v6 v8 W => ∃ (m : Nat) (b : ByteArray), v6 = .int .i64 m ∧ v8 = .string b ∧ Aside0 (pad4 (dS m ++ b) = pad4 (dS E)) ∧ Aside0 ((dS m ++ b).size ≤ 20) ∧ Aside0 (m + (4 - b.size) = kq) ∧ Aside0 (m < 9007199254740992) ∧ Aside0 (Below w'.heap.size w' W))
      case atStart => exact ⟨E, ⟨#[]⟩, by rw [HEE.out] <;> rfl, rfl, ⟨by rw [show (⟨#[]⟩ : ByteArray) = ByteArray.empty from rfl, ByteArray.append_empty]⟩, ⟨by rw [show (⟨#[]⟩ : ByteArray) = ByteArray.empty from rfl, ByteArray.append_empty]; exact HD.out⟩, ⟨by rfl⟩, ⟨HE.out⟩, ⟨Below.refl _ _⟩⟩
      case round =>
        have hbs := run_bstr
        clear hmul hcv hwh hsub hf hho hlt
        obtain ⟨m, b, rfl, rfl, hpd, hsz, hk, hml, hbw⟩ := hrel
        have hbl : b.size ≤ 20 := by have := hsz.out; rw [ByteArray.size_append] at this; omega
        have hm2 := hml.out
        by_cases hm : 0 < m
        · have HM := Lib.hid hm
          go_wp2
          go_roundg (m / 10 + (4 - (b.size + 1)))
          case measure => have := hk.out; have := HM.out; omega
          case rel =>
            have e1 : (48 + (m : Int) % 10).toNat = 48 + m % 10 := by omega
            have e2 : (m : Int) / 10 = ((m / 10 : Nat) : Int) := by omega
            have hs : ∀ c : UInt8, (⟨#[c]⟩ ++ b : ByteArray).size = b.size + 1 := by intro c; rw [ByteArray.size_append]; have : (⟨#[c]⟩ : ByteArray).size = 1 := rfl; omega
            have hnx := dS_next m (by have := HM.out; omega) b
            refine ⟨m / 10, ⟨#[UInt8.ofNat (48 + m % 10)]⟩ ++ b, by rw [e2], (by first | rw [e1] | rw [UInt8.ofNat_add]; rfl), ⟨?_⟩, ⟨?_⟩, ⟨by rw [hs]⟩, ⟨by have := hml.out; omega⟩, ⟨below_alloc hbw.out _⟩⟩
            · rw [← hnx]; exact hpd.out
            · rw [← hnx]; exact hsz.out
        · obtain rfl : m = 0 := by omega
          clear hm
          by_cases hlt : b.size < 4
          · have hlb : decide ((b.size : Int) < 4) = true := by simp; omega
            have HL := Lib.hid hlt
            clear hlt
            go_wp2
            go_roundg (4 - (b.size + 1))
            case measure => have := hk.out; have := HL.out; omega
            case rel =>
              have hs : (⟨#[48]⟩ ++ b : ByteArray).size = b.size + 1 := by rw [ByteArray.size_append]; have : (⟨#[48]⟩ : ByteArray).size = 1 := rfl; omega
              have hp := hpd.out
              rw [dS_zero] at hp
              refine ⟨0, ⟨#[48]⟩ ++ b, rfl, rfl, ⟨?_⟩, ⟨?_⟩, ⟨by rw [hs]; omega⟩, ⟨by omega⟩, ⟨below_alloc hbw.out _⟩⟩
              · rw [dS_zero, pad4_more b HL.out]; exact hp
              · rw [dS_zero, hs]; have := HL.out; omega
          · have hlb : decide ((b.size : Int) < 4) = false := by simp; omega
            have hge : 4 ≤ b.size := by omega
            have HP := Lib.hid (pad4_done b hlt)
            clear hlt
            go_wp2
            go_quiet (fail)
            go_wp2
            go_ret
            have hp := hpd.out
            rw [dS_zero] at hp
            exact ⟨ret_str (by rw [← pad_dS, ← hp, HP.out]; rfl), pw_below_drewN hbw.out _⟩
    · rw [hc] at hho
      have HEE := Lib.hid he
      clear hc he
      go_enter Tryd.func14, Tryd.ntmps14
      go_wp2_with (first
        | (go_at_call 28; refine (float_call _ _).mono ?_; rintro e w' ⟨rfl, rfl⟩))
      go_loopg [6, 8] (E + 4) (fun kq v6 v8 W => ∃ (m : Nat) (b : ByteArray), v6 = .int .i64 m ∧ v8 = .string b ∧ Aside0 (pad4 (dS m ++ b) = pad4 (dS E)) ∧ Aside0 ((dS m ++ b).size ≤ 20) ∧ Aside0 (m + (4 - b.size) = kq) ∧ Aside0 (m < 9007199254740992) ∧ Aside0 (Below w'.heap.size w' W))
      case atStart => exact ⟨E, ⟨#[]⟩, by rw [HEE.out] <;> rfl, rfl, ⟨by rw [show (⟨#[]⟩ : ByteArray) = ByteArray.empty from rfl, ByteArray.append_empty]⟩, ⟨by rw [show (⟨#[]⟩ : ByteArray) = ByteArray.empty from rfl, ByteArray.append_empty]; exact HD.out⟩, ⟨by rfl⟩, ⟨HE.out⟩, ⟨Below.refl _ _⟩⟩
      case round =>
        have hbs := run_bstr
        clear hmul hcv hwh hsub hf hho hlt
        obtain ⟨m, b, rfl, rfl, hpd, hsz, hk, hml, hbw⟩ := hrel
        have hbl : b.size ≤ 20 := by have := hsz.out; rw [ByteArray.size_append] at this; omega
        have hm2 := hml.out
        by_cases hm : 0 < m
        · have HM := Lib.hid hm
          go_wp2
          go_roundg (m / 10 + (4 - (b.size + 1)))
          case measure => have := hk.out; have := HM.out; omega
          case rel =>
            have e1 : (48 + (m : Int) % 10).toNat = 48 + m % 10 := by omega
            have e2 : (m : Int) / 10 = ((m / 10 : Nat) : Int) := by omega
            have hs : ∀ c : UInt8, (⟨#[c]⟩ ++ b : ByteArray).size = b.size + 1 := by intro c; rw [ByteArray.size_append]; have : (⟨#[c]⟩ : ByteArray).size = 1 := rfl; omega
            have hnx := dS_next m (by have := HM.out; omega) b
            refine ⟨m / 10, ⟨#[UInt8.ofNat (48 + m % 10)]⟩ ++ b, by rw [e2], (by first | rw [e1] | rw [UInt8.ofNat_add]; rfl), ⟨?_⟩, ⟨?_⟩, ⟨by rw [hs]⟩, ⟨by have := hml.out; omega⟩, ⟨below_alloc hbw.out _⟩⟩
            · rw [← hnx]; exact hpd.out
            · rw [← hnx]; exact hsz.out
        · obtain rfl : m = 0 := by omega
          clear hm
          by_cases hlt : b.size < 4
          · have hlb : decide ((b.size : Int) < 4) = true := by simp; omega
            have HL := Lib.hid hlt
            clear hlt
            go_wp2
            go_roundg (4 - (b.size + 1))
            case measure => have := hk.out; have := HL.out; omega
            case rel =>
              have hs : (⟨#[48]⟩ ++ b : ByteArray).size = b.size + 1 := by rw [ByteArray.size_append]; have : (⟨#[48]⟩ : ByteArray).size = 1 := rfl; omega
              have hp := hpd.out
              rw [dS_zero] at hp
              refine ⟨0, ⟨#[48]⟩ ++ b, rfl, rfl, ⟨?_⟩, ⟨?_⟩, ⟨by rw [hs]; omega⟩, ⟨by omega⟩, ⟨below_alloc hbw.out _⟩⟩
              · rw [dS_zero, pad4_more b HL.out]; exact hp
              · rw [dS_zero, hs]; have := HL.out; omega
          · have hlb : decide ((b.size : Int) < 4) = false := by simp; omega
            have hge : 4 ≤ b.size := by omega
            have HP := Lib.hid (pad4_done b hlt)
            clear hlt
            go_wp2
            go_quiet (fail)
            go_wp2
            go_ret
            have hp := hpd.out
            rw [dS_zero] at hp
            exact ⟨ret_str (by rw [← pad_dS, ← hp, HP.out]; rfl), pw_below_drewN hbw.out _⟩
  · have hgr : rung g.toNat = g.toNat := by
      have := HG.out
      unfold neg at hng
      unfold rung
      rw [beq_eq_false_iff_ne] at hng
      omega
    rw [hgr] at hmul hom
    rw [hng] at hsb ⊢
    clear hgr hng
    rcases hec with ⟨hc, he⟩ | ⟨hc, hp, he⟩ | ⟨hc, hp, he⟩ | ⟨hc, he⟩
    · rw [hc] at hho
      have HEE := Lib.hid he
      clear hc he
      go_enter Tryd.func14, Tryd.ntmps14
      go_wp2_with (first
        | (go_at_call 28; refine (float_call _ _).mono ?_; rintro e w' ⟨rfl, rfl⟩))
      go_loopg [6, 8] (E + 4) (fun kq v6 v8 W => ∃ (m : Nat) (b : ByteArray), v6 = .int .i64 m ∧ v8 = .string b ∧ Aside0 (pad4 (dS m ++ b) = pad4 (dS E)) ∧ Aside0 ((dS m ++ b).size ≤ 20) ∧ Aside0 (m + (4 - b.size) = kq) ∧ Aside0 (m < 9007199254740992) ∧ Aside0 (Below w'.heap.size w' W))
      case atStart => exact ⟨E, ⟨#[]⟩, by rw [HEE.out] <;> rfl, rfl, ⟨by rw [show (⟨#[]⟩ : ByteArray) = ByteArray.empty from rfl, ByteArray.append_empty]⟩, ⟨by rw [show (⟨#[]⟩ : ByteArray) = ByteArray.empty from rfl, ByteArray.append_empty]; exact HD.out⟩, ⟨by rfl⟩, ⟨HE.out⟩, ⟨Below.refl _ _⟩⟩
      case round =>
        have hbs := run_bstr
        clear hmul hcv hwh hsub hf hho hlt
        obtain ⟨m, b, rfl, rfl, hpd, hsz, hk, hml, hbw⟩ := hrel
        have hbl : b.size ≤ 20 := by have := hsz.out; rw [ByteArray.size_append] at this; omega
        have hm2 := hml.out
        by_cases hm : 0 < m
        · have HM := Lib.hid hm
          go_wp2
          go_roundg (m / 10 + (4 - (b.size + 1)))
          case measure => have := hk.out; have := HM.out; omega
          case rel =>
            have e1 : (48 + (m : Int) % 10).toNat = 48 + m % 10 := by omega
            have e2 : (m : Int) / 10 = ((m / 10 : Nat) : Int) := by omega
            have hs : ∀ c : UInt8, (⟨#[c]⟩ ++ b : ByteArray).size = b.size + 1 := by intro c; rw [ByteArray.size_append]; have : (⟨#[c]⟩ : ByteArray).size = 1 := rfl; omega
            have hnx := dS_next m (by have := HM.out; omega) b
            refine ⟨m / 10, ⟨#[UInt8.ofNat (48 + m % 10)]⟩ ++ b, by rw [e2], (by first | rw [e1] | rw [UInt8.ofNat_add]; rfl), ⟨?_⟩, ⟨?_⟩, ⟨by rw [hs]⟩, ⟨by have := hml.out; omega⟩, ⟨below_alloc hbw.out _⟩⟩
            · rw [← hnx]; exact hpd.out
            · rw [← hnx]; exact hsz.out
        · obtain rfl : m = 0 := by omega
          clear hm
          by_cases hlt : b.size < 4
          · have hlb : decide ((b.size : Int) < 4) = true := by simp; omega
            have HL := Lib.hid hlt
            clear hlt
            go_wp2
            go_roundg (4 - (b.size + 1))
            case measure => have := hk.out; have := HL.out; omega
            case rel =>
              have hs : (⟨#[48]⟩ ++ b : ByteArray).size = b.size + 1 := by rw [ByteArray.size_append]; have : (⟨#[48]⟩ : ByteArray).size = 1 := rfl; omega
              have hp := hpd.out
              rw [dS_zero] at hp
              refine ⟨0, ⟨#[48]⟩ ++ b, rfl, rfl, ⟨?_⟩, ⟨?_⟩, ⟨by rw [hs]; omega⟩, ⟨by omega⟩, ⟨below_alloc hbw.out _⟩⟩
              · rw [dS_zero, pad4_more b HL.out]; exact hp
              · rw [dS_zero, hs]; have := HL.out; omega
          · have hlb : decide ((b.size : Int) < 4) = false := by simp; omega
            have hge : 4 ≤ b.size := by omega
            have HP := Lib.hid (pad4_done b hlt)
            clear hlt
            go_wp2
            go_quiet (fail)
            go_wp2
            go_ret
            have hp := hpd.out
            rw [dS_zero] at hp
            exact ⟨ret_str (by rw [← pad_dS, ← hp, HP.out]; rfl), pw_below_drewN hbw.out _⟩
    · have hpb : ((N : Int) % 2 == 1) = true := by rw [beq_iff_eq]; omega
      clear hp
      rw [hc] at hho
      have HEE := Lib.hid he
      clear hc he
      go_enter Tryd.func14, Tryd.ntmps14
      go_wp2_with (first
        | (go_at_call 28; refine (float_call _ _).mono ?_; rintro e w' ⟨rfl, rfl⟩))
      go_loopg [6, 8] (E + 4) (fun kq v6 v8 W => ∃ (m : Nat) (b : ByteArray), v6 = .int .i64 m ∧ v8 = .string b ∧ Aside0 (pad4 (dS m ++ b) = pad4 (dS E)) ∧ Aside0 ((dS m ++ b).size ≤ 20) ∧ Aside0 (m + (4 - b.size) = kq) ∧ Aside0 (m < 9007199254740992) ∧ Aside0 (Below w'.heap.size w' W))
      case atStart => exact ⟨E, ⟨#[]⟩, by rw [HEE.out] <;> rfl, rfl, ⟨by rw [show (⟨#[]⟩ : ByteArray) = ByteArray.empty from rfl, ByteArray.append_empty]⟩, ⟨by rw [show (⟨#[]⟩ : ByteArray) = ByteArray.empty from rfl, ByteArray.append_empty]; exact HD.out⟩, ⟨by rfl⟩, ⟨HE.out⟩, ⟨Below.refl _ _⟩⟩
      case round =>
        have hbs := run_bstr
        clear hmul hcv hwh hsub hf hho hlt
        obtain ⟨m, b, rfl, rfl, hpd, hsz, hk, hml, hbw⟩ := hrel
        have hbl : b.size ≤ 20 := by have := hsz.out; rw [ByteArray.size_append] at this; omega
        have hm2 := hml.out
        by_cases hm : 0 < m
        · have HM := Lib.hid hm
          go_wp2
          go_roundg (m / 10 + (4 - (b.size + 1)))
          case measure => have := hk.out; have := HM.out; omega
          case rel =>
            have e1 : (48 + (m : Int) % 10).toNat = 48 + m % 10 := by omega
            have e2 : (m : Int) / 10 = ((m / 10 : Nat) : Int) := by omega
            have hs : ∀ c : UInt8, (⟨#[c]⟩ ++ b : ByteArray).size = b.size + 1 := by intro c; rw [ByteArray.size_append]; have : (⟨#[c]⟩ : ByteArray).size = 1 := rfl; omega
            have hnx := dS_next m (by have := HM.out; omega) b
            refine ⟨m / 10, ⟨#[UInt8.ofNat (48 + m % 10)]⟩ ++ b, by rw [e2], (by first | rw [e1] | rw [UInt8.ofNat_add]; rfl), ⟨?_⟩, ⟨?_⟩, ⟨by rw [hs]⟩, ⟨by have := hml.out; omega⟩, ⟨below_alloc hbw.out _⟩⟩
            · rw [← hnx]; exact hpd.out
            · rw [← hnx]; exact hsz.out
        · obtain rfl : m = 0 := by omega
          clear hm
          by_cases hlt : b.size < 4
          · have hlb : decide ((b.size : Int) < 4) = true := by simp; omega
            have HL := Lib.hid hlt
            clear hlt
            go_wp2
            go_roundg (4 - (b.size + 1))
            case measure => have := hk.out; have := HL.out; omega
            case rel =>
              have hs : (⟨#[48]⟩ ++ b : ByteArray).size = b.size + 1 := by rw [ByteArray.size_append]; have : (⟨#[48]⟩ : ByteArray).size = 1 := rfl; omega
              have hp := hpd.out
              rw [dS_zero] at hp
              refine ⟨0, ⟨#[48]⟩ ++ b, rfl, rfl, ⟨?_⟩, ⟨?_⟩, ⟨by rw [hs]; omega⟩, ⟨by omega⟩, ⟨below_alloc hbw.out _⟩⟩
              · rw [dS_zero, pad4_more b HL.out]; exact hp
              · rw [dS_zero, hs]; have := HL.out; omega
          · have hlb : decide ((b.size : Int) < 4) = false := by simp; omega
            have hge : 4 ≤ b.size := by omega
            have HP := Lib.hid (pad4_done b hlt)
            clear hlt
            go_wp2
            go_quiet (fail)
            go_wp2
            go_ret
            have hp := hpd.out
            rw [dS_zero] at hp
            exact ⟨ret_str (by rw [← pad_dS, ← hp, HP.out]; rfl), pw_below_drewN hbw.out _⟩
    · have hpb : ((N : Int) % 2 == 1) = false := by rw [beq_eq_false_iff_ne]; omega
      clear hp
      rw [hc] at hho
      have HEE := Lib.hid he
      clear hc he
      go_enter Tryd.func14, Tryd.ntmps14
      go_wp2_with (first
        | (go_at_call 28; refine (float_call _ _).mono ?_; rintro e w' ⟨rfl, rfl⟩))
      go_loopg [6, 8] (E + 4) (fun kq v6 v8 W => ∃ (m : Nat) (b : ByteArray), v6 = .int .i64 m ∧ v8 = .string b ∧ Aside0 (pad4 (dS m ++ b) = pad4 (dS E)) ∧ Aside0 ((dS m ++ b).size ≤ 20) ∧ Aside0 (m + (4 - b.size) = kq) ∧ Aside0 (m < 9007199254740992) ∧ Aside0 (Below w'.heap.size w' W))
      case atStart => exact ⟨E, ⟨#[]⟩, by rw [HEE.out] <;> rfl, rfl, ⟨by rw [show (⟨#[]⟩ : ByteArray) = ByteArray.empty from rfl, ByteArray.append_empty]⟩, ⟨by rw [show (⟨#[]⟩ : ByteArray) = ByteArray.empty from rfl, ByteArray.append_empty]; exact HD.out⟩, ⟨by rfl⟩, ⟨HE.out⟩, ⟨Below.refl _ _⟩⟩
      case round =>
        have hbs := run_bstr
        clear hmul hcv hwh hsub hf hho hlt
        obtain ⟨m, b, rfl, rfl, hpd, hsz, hk, hml, hbw⟩ := hrel
        have hbl : b.size ≤ 20 := by have := hsz.out; rw [ByteArray.size_append] at this; omega
        have hm2 := hml.out
        by_cases hm : 0 < m
        · have HM := Lib.hid hm
          go_wp2
          go_roundg (m / 10 + (4 - (b.size + 1)))
          case measure => have := hk.out; have := HM.out; omega
          case rel =>
            have e1 : (48 + (m : Int) % 10).toNat = 48 + m % 10 := by omega
            have e2 : (m : Int) / 10 = ((m / 10 : Nat) : Int) := by omega
            have hs : ∀ c : UInt8, (⟨#[c]⟩ ++ b : ByteArray).size = b.size + 1 := by intro c; rw [ByteArray.size_append]; have : (⟨#[c]⟩ : ByteArray).size = 1 := rfl; omega
            have hnx := dS_next m (by have := HM.out; omega) b
            refine ⟨m / 10, ⟨#[UInt8.ofNat (48 + m % 10)]⟩ ++ b, by rw [e2], (by first | rw [e1] | rw [UInt8.ofNat_add]; rfl), ⟨?_⟩, ⟨?_⟩, ⟨by rw [hs]⟩, ⟨by have := hml.out; omega⟩, ⟨below_alloc hbw.out _⟩⟩
            · rw [← hnx]; exact hpd.out
            · rw [← hnx]; exact hsz.out
        · obtain rfl : m = 0 := by omega
          clear hm
          by_cases hlt : b.size < 4
          · have hlb : decide ((b.size : Int) < 4) = true := by simp; omega
            have HL := Lib.hid hlt
            clear hlt
            go_wp2
            go_roundg (4 - (b.size + 1))
            case measure => have := hk.out; have := HL.out; omega
            case rel =>
              have hs : (⟨#[48]⟩ ++ b : ByteArray).size = b.size + 1 := by rw [ByteArray.size_append]; have : (⟨#[48]⟩ : ByteArray).size = 1 := rfl; omega
              have hp := hpd.out
              rw [dS_zero] at hp
              refine ⟨0, ⟨#[48]⟩ ++ b, rfl, rfl, ⟨?_⟩, ⟨?_⟩, ⟨by rw [hs]; omega⟩, ⟨by omega⟩, ⟨below_alloc hbw.out _⟩⟩
              · rw [dS_zero, pad4_more b HL.out]; exact hp
              · rw [dS_zero, hs]; have := HL.out; omega
          · have hlb : decide ((b.size : Int) < 4) = false := by simp; omega
            have hge : 4 ≤ b.size := by omega
            have HP := Lib.hid (pad4_done b hlt)
            clear hlt
            go_wp2
            go_quiet (fail)
            go_wp2
            go_ret
            have hp := hpd.out
            rw [dS_zero] at hp
            exact ⟨ret_str (by rw [← pad_dS, ← hp, HP.out]; rfl), pw_below_drewN hbw.out _⟩
    · rw [hc] at hho
      have HEE := Lib.hid he
      clear hc he
      go_enter Tryd.func14, Tryd.ntmps14
      go_wp2_with (first
        | (go_at_call 28; refine (float_call _ _).mono ?_; rintro e w' ⟨rfl, rfl⟩))
      go_loopg [6, 8] (E + 4) (fun kq v6 v8 W => ∃ (m : Nat) (b : ByteArray), v6 = .int .i64 m ∧ v8 = .string b ∧ Aside0 (pad4 (dS m ++ b) = pad4 (dS E)) ∧ Aside0 ((dS m ++ b).size ≤ 20) ∧ Aside0 (m + (4 - b.size) = kq) ∧ Aside0 (m < 9007199254740992) ∧ Aside0 (Below w'.heap.size w' W))
      case atStart => exact ⟨E, ⟨#[]⟩, by rw [HEE.out] <;> rfl, rfl, ⟨by rw [show (⟨#[]⟩ : ByteArray) = ByteArray.empty from rfl, ByteArray.append_empty]⟩, ⟨by rw [show (⟨#[]⟩ : ByteArray) = ByteArray.empty from rfl, ByteArray.append_empty]; exact HD.out⟩, ⟨by rfl⟩, ⟨HE.out⟩, ⟨Below.refl _ _⟩⟩
      case round =>
        have hbs := run_bstr
        clear hmul hcv hwh hsub hf hho hlt
        obtain ⟨m, b, rfl, rfl, hpd, hsz, hk, hml, hbw⟩ := hrel
        have hbl : b.size ≤ 20 := by have := hsz.out; rw [ByteArray.size_append] at this; omega
        have hm2 := hml.out
        by_cases hm : 0 < m
        · have HM := Lib.hid hm
          go_wp2
          go_roundg (m / 10 + (4 - (b.size + 1)))
          case measure => have := hk.out; have := HM.out; omega
          case rel =>
            have e1 : (48 + (m : Int) % 10).toNat = 48 + m % 10 := by omega
            have e2 : (m : Int) / 10 = ((m / 10 : Nat) : Int) := by omega
            have hs : ∀ c : UInt8, (⟨#[c]⟩ ++ b : ByteArray).size = b.size + 1 := by intro c; rw [ByteArray.size_append]; have : (⟨#[c]⟩ : ByteArray).size = 1 := rfl; omega
            have hnx := dS_next m (by have := HM.out; omega) b
            refine ⟨m / 10, ⟨#[UInt8.ofNat (48 + m % 10)]⟩ ++ b, by rw [e2], (by first | rw [e1] | rw [UInt8.ofNat_add]; rfl), ⟨?_⟩, ⟨?_⟩, ⟨by rw [hs]⟩, ⟨by have := hml.out; omega⟩, ⟨below_alloc hbw.out _⟩⟩
            · rw [← hnx]; exact hpd.out
            · rw [← hnx]; exact hsz.out
        · obtain rfl : m = 0 := by omega
          clear hm
          by_cases hlt : b.size < 4
          · have hlb : decide ((b.size : Int) < 4) = true := by simp; omega
            have HL := Lib.hid hlt
            clear hlt
            go_wp2
            go_roundg (4 - (b.size + 1))
            case measure => have := hk.out; have := HL.out; omega
            case rel =>
              have hs : (⟨#[48]⟩ ++ b : ByteArray).size = b.size + 1 := by rw [ByteArray.size_append]; have : (⟨#[48]⟩ : ByteArray).size = 1 := rfl; omega
              have hp := hpd.out
              rw [dS_zero] at hp
              refine ⟨0, ⟨#[48]⟩ ++ b, rfl, rfl, ⟨?_⟩, ⟨?_⟩, ⟨by rw [hs]; omega⟩, ⟨by omega⟩, ⟨below_alloc hbw.out _⟩⟩
              · rw [dS_zero, pad4_more b HL.out]; exact hp
              · rw [dS_zero, hs]; have := HL.out; omega
          · have hlb : decide ((b.size : Int) < 4) = false := by simp; omega
            have hge : 4 ≤ b.size := by omega
            have HP := Lib.hid (pad4_done b hlt)
            clear hlt
            go_wp2
            go_quiet (fail)
            go_wp2
            go_ret
            have hp := hpd.out
            rw [dS_zero] at hp
            exact ⟨ret_str (by rw [← pad_dS, ← hp, HP.out]; rfl), pw_below_drewN hbw.out _⟩
set_option maxHeartbeats 2000000 in
theorem printR_nan (g : Int) (w : World) (hn : isn g.toNat = true) :
    Calls Tryd.prog 14 #[.int .u64 g] w fun e w' => e = .returned (.string ⟨#[110, 97, 110]⟩) ∧ Below w.heap.size w w' := by
  have hne := ne_self g.toNat
  rw [hn] at hne
  clear hn
  go_enter Tryd.func14, Tryd.ntmps14
  go_wp2_with (first
      | (go_at_call 28; refine (float_call _ _).mono ?_; rintro e w' ⟨rfl, rfl⟩))
  go_ret
  exact ⟨rfl, Below.refl _ _⟩
set_option maxHeartbeats 2000000 in
theorem printR_inf (g : Int) (w : World) (h0 : 0 ≤ g) (hg : g.toNat < 18446744073709551616) (hn : isn g.toNat = false) (hi : isi g.toNat = true) :
    Calls Tryd.prog 14 #[.int .u64 g] w fun e w' => e = .returned (.string (sgS (neg g.toNat) ++ ⟨#[105, 110, 102]⟩)) ∧ Below w.heap.size w w' := by
  have hne := ne_self g.toNat
  rw [hn] at hne
  have hsb := sign_bit g hg h0
  have hom := order_max g.toNat
  rw [hi] at hom
  have HG := Lib.hid hg
  clear hn hi hg h0
  have hq : neg g.toNat = true ∨ neg g.toNat = false := by cases neg g.toNat <;> simp
  rcases hq with hng | hng
  · have hnf := run_negf g.toNat HG.out hng
    rw [hng] at hsb ⊢
    clear hng
    go_enter Tryd.func14, Tryd.ntmps14
    go_wp2_with (first
      | (go_at_call 28; refine (float_call _ _).mono ?_; rintro e w' ⟨rfl, rfl⟩))
    go_ret
    exact ⟨rfl, Below.refl _ _⟩
  · have hgr : rung g.toNat = g.toNat := by
      have := HG.out
      unfold neg at hng
      unfold rung
      rw [beq_eq_false_iff_ne] at hng
      omega
    rw [hgr] at hom
    rw [hng] at hsb ⊢
    clear hgr hng
    go_enter Tryd.func14, Tryd.ntmps14
    go_wp2_with (first
      | (go_at_call 28; refine (float_call _ _).mono ?_; rintro e w' ⟨rfl, rfl⟩))
    go_ret
    exact ⟨rfl, Below.refl _ _⟩
set_option maxHeartbeats 2000000 in
theorem printR_big (g : Int) (w : World) (x : Nat) (h0 : 0 ≤ g) (hg : g.toNat < 18446744073709551616) (hn : isn g.toNat = false) (hi : isi g.toNat = false) (hm : floatBits .mul .f64 (rung g.toNat) thou = some x)
    (ho : FloatKind.f64.format.order x 4845873199050653696 = some .gt ∨ FloatKind.f64.format.order x 4845873199050653696 = some .eq) :
    Calls Tryd.prog 14 #[.int .u64 g] w fun e w' => e = .returned (.string ⟨#[98, 105, 103]⟩) ∧ Below w.heap.size w w' := by
  have hne := ne_self g.toNat
  rw [hn] at hne
  have hsb := sign_bit g hg h0
  have hom := order_max g.toNat
  rw [hi] at hom
  have HG := Lib.hid hg
  have hmul : ∀ W, (binOp .mul 26 (.float .f64 (rung g.toNat)) (.float .f64 4652007308841189376)).run Tryd.prog W = .ok (.float .f64 x) W := fun W => run_float_arith W .mul _ .f64 _ _ x hm
  clear hn hi hg h0 hm
  have hq : neg g.toNat = true ∨ neg g.toNat = false := by cases neg g.toNat <;> simp
  rcases hq with hng | hng
  · have hnf := run_negf g.toNat HG.out hng
    rw [hng] at hsb
    clear hng
    rcases ho with ho | ho
    all_goals
      go_enter Tryd.func14, Tryd.ntmps14
      go_wp2_with (first
        | (go_at_call 28; refine (float_call _ _).mono ?_; rintro e w' ⟨rfl, rfl⟩))
      go_ret
      exact ⟨rfl, Below.refl _ _⟩
  · have hgr : rung g.toNat = g.toNat := by
      have := HG.out
      unfold neg at hng
      unfold rung
      rw [beq_eq_false_iff_ne] at hng
      omega
    rw [hgr] at hom hmul
    rw [hng] at hsb
    clear hgr hng
    rcases ho with ho | ho
    all_goals
      go_enter Tryd.func14, Tryd.ntmps14
      go_wp2_with (first
        | (go_at_call 28; refine (float_call _ _).mono ?_; rintro e w' ⟨rfl, rfl⟩))
      go_ret
      exact ⟨rfl, Below.refl _ _⟩

/-- What is told of a gauge. -/
def PrintS (g : Nat) : ByteArray :=
  if isn g then ⟨#[110, 97, 110]⟩ else if isi g then sgS (neg g) ++ ⟨#[105, 110, 102]⟩
  else match floatBits .mul .f64 (rung g) thou with
    | some x => if neg x = false ∧ rung x < 9218868437227405312 ∧ val x < 9007199254740992 * UN then dotted (sgS (neg g)) (pad4 (numS (evenU (val x)))) else ⟨#[98, 105, 103]⟩
    | none => ⟨#[98, 105, 103]⟩
/-- The ways of Print. -/
theorem print_ways (g : Nat) (hg : g < 18446744073709551616) : (isn g = true ∧ PrintS g = ⟨#[110, 97, 110]⟩) ∨ (isn g = false ∧ isi g = true ∧ PrintS g = sgS (neg g) ++ ⟨#[105, 110, 102]⟩) ∨
    (isn g = false ∧ isi g = false ∧ ∃ x, floatBits .mul .f64 (rung g) thou = some x ∧
      ((Small x ∧ PrintS g = dotted (sgS (neg g)) (pad4 (numS (evenU (val x))))) ∨ ((FloatKind.f64.format.order x 4845873199050653696 = some .gt ∨ FloatKind.f64.format.order x 4845873199050653696 = some .eq) ∧ PrintS g = ⟨#[98, 105, 103]⟩))) := by
  cases hn : isn g
  · right
    cases hi : isi g
    · right
      refine ⟨rfl, rfl, ?_⟩
      have hlt : rung g < 9218868437227405312 := by
        rw [isn_key] at hn
        have h1 := of_decide_eq_false hn
        have h2 := of_decide_eq_false hi
        omega
      have hr := rung_lt g
      have hrr : rung (rung g) = rung g := by unfold rung; omega
      have hf : Fin (rung g) := ⟨by unfold neg; rw [show rung g / 9223372036854775808 = 0 by omega]; rfl, by rw [hrr]; exact hlt⟩
      obtain ⟨x, hx, hxn, hxl⟩ := mul_thou (rung g) hf
      refine ⟨x, hx, ?_⟩
      unfold PrintS
      rw [hn, hi, hx]
      simp only [Bool.false_eq_true, if_false]
      by_cases hs : neg x = false ∧ rung x < 9218868437227405312 ∧ val x < 9007199254740992 * UN
      · left
        rw [if_pos hs]
        exact ⟨⟨⟨hs.1, hs.2.1⟩, hs.2.2⟩, rfl⟩
      · right
        rw [if_neg hs]
        refine ⟨?_, rfl⟩
        by_cases hxi : rung x < 9218868437227405312
        · have hxf : Fin x := ⟨hxn, hxi⟩
          have ho := hxf.order big_fin
          rw [big_val] at ho
          rw [show FloatKind.f64.format.order x 4845873199050653696 = _ from ho]
          have hge : ¬ val x < 9007199254740992 * UN := fun h => hs ⟨hxn, hxi, h⟩
          by_cases he : val x = 9007199254740992 * UN
          · right; simp [compare, compareOfLessAndEq, he]
          · left; simp [compare, compareOfLessAndEq, hge, he]
        · left
          have hxe : rung x = 9218868437227405312 := by omega
          have hk := order_key x 4845873199050653696 (by rw [isn_key, decide_eq_false (by omega)]) (by decide)
          rw [hk]
          have k1 : key x = 9218868437227405312 := by unfold key; rw [hxn, hxe]; rfl
          rw [k1, show key 4845873199050653696 = 4845873199050653696 by decide]
          rfl
    · left
      refine ⟨rfl, rfl, ?_⟩
      unfold PrintS
      rw [hn, hi]
      rfl
  · left
    refine ⟨rfl, ?_⟩
    unfold PrintS
    rw [hn]
    rfl

theorem Print_call (g : Int) (w : World) (hg : g.toNat < 18446744073709551616) (ht : Tab w) :
    Calls Tryd.prog 9 #[.int .u64 g] w fun e w' => e = .returned (.string (PrintS g.toNat)) ∧ Below w.heap.size w w' := by
  rcases print_ways g.toNat hg with ⟨h1, h2⟩ | ⟨h1, h2, h3⟩ | ⟨h1, h2, x, hx, ⟨h3, h4⟩ | ⟨h3, h4⟩⟩
  · rw [h2]; exact print_nan g w hg h1
  · rw [h3]; exact print_inf g w hg h1 h2
  · rw [h4]; exact print_small g w x hg h1 h2 hx h3 ht
  · rw [h4]; exact print_big g w x hg h1 h2 hx h3
theorem PrintR_call (g : Int) (w : World) (h0 : 0 ≤ g) (hg : g.toNat < 18446744073709551616) :
    Calls Tryd.prog 14 #[.int .u64 g] w fun e w' => e = .returned (.string (PrintS g.toNat)) ∧ Below w.heap.size w w' := by
  rcases print_ways g.toNat hg with ⟨h1, h2⟩ | ⟨h1, h2, h3⟩ | ⟨h1, h2, x, hx, ⟨h3, h4⟩ | ⟨h3, h4⟩⟩
  · rw [h2]; exact printR_nan g w h1
  · rw [h3]; exact printR_inf g w h0 hg h1 h2
  · rw [h4]; exact printR_small g w x h0 hg h1 h2 hx h3
  · rw [h4]; exact printR_big g w x h0 hg h1 h2 hx h3
end Go.Proofs.YthgioldoeejjnaaDoor.Gf
