/- gauge: Print, the program's. -/
import Derived.Test.YthgioldoeejjnaaDoorHw
import Derived.Test.YthgioldoeejjnaaDoorHy
import Derived.Test.YthgioldoeejjnaaDoorIt
import Derived.Laws.Strings
import Derived.WalkSpells
namespace Go.Proofs.YthgioldoeejjnaaDoor.Gf
open Go.RowKit Go.Proofs.YthgioldoeejjnaaDoorW.PrintWords Go.Proofs.YthgioldoeejjnaaDoorW.PrintLast
set_option linter.unusedVariables false
set_option linter.unusedSimpArgs false

def Tab (w : World) : Prop := Lib.TabIs Tryd.prog w "internal/strconv.uint64pow10" .u64 Lib.pow10Tab
def sgS (b : Bool) : ByteArray := if b then ⟨#[45]⟩ else ⟨#[]⟩

theorem run_rte (x : Nat) (h : isn x = false) (W : World) : (callFunc 25 #[.float .f64 x]).run Tryd.prog W = .ok (.value (.float .f64 (FloatKind.f64.encode ((FloatKind.f64.decode x).integral .even)))) W := by
  have h0 : (callFunc 25 #[.float .f64 x]).run Tryd.prog W = (Extern.MathFloor.toIntegral "math.RoundToEven" .even #[.float .f64 x] >>= fun v => (pure (.value v) : Sem Next)).run Tryd.prog W := by rfl
  rw [h0]
  unfold isn at h
  have h1 : ∀ s m i, FloatKind.f64.decode x = .number s m i → Extern.MathFloor.toIntegral "math.RoundToEven" .even #[.float .f64 x] = pure (.float .f64 (FloatKind.f64.encode ((Ieee.Datum.number s m i).integral .even))) := by
    intro s m i hd
    conv =>
      lhs
      whnf
    rw [hd]
  have h2 : ∀ s, FloatKind.f64.decode x = .infinity s → Extern.MathFloor.toIntegral "math.RoundToEven" .even #[.float .f64 x] = pure (.float .f64 (FloatKind.f64.encode ((Ieee.Datum.infinity s).integral .even))) := by
    intro s hd
    conv =>
      lhs
      whnf
    rw [hd]
  cases hd : FloatKind.f64.decode x with
  | nan s t => rw [show FloatKind.f64.format.read x = _ from hd] at h; cases h
  | infinity s => rw [h2 s hd]; rfl
  | number s m i => rw [h1 s m i hd]; rfl

def zpad (b : ByteArray) : Nat → ByteArray
  | 0 => b
  | n + 1 => zpad (⟨#[48]⟩ ++ b) n
def pad4 (b : ByteArray) : ByteArray := zpad b (4 - b.size)
theorem pad4_more (b : ByteArray) (h : b.size < 4) : pad4 (⟨#[48]⟩ ++ b) = pad4 b := by
  unfold pad4
  have hs : (⟨#[48]⟩ ++ b : ByteArray).size = b.size + 1 := by rw [ByteArray.size_append]; have : (⟨#[48]⟩ : ByteArray).size = 1 := rfl; omega
  rw [hs, show 4 - b.size = (4 - (b.size + 1)) + 1 by omega, zpad]
theorem pad4_done (b : ByteArray) (h : ¬ b.size < 4) : pad4 b = b := by
  unfold pad4
  rw [show 4 - b.size = 0 by omega, zpad]

theorem below_grow_of {w W : World} {k : Nat} {os : Array Obj} (h : Sort.grow (w.drewN k) os = W) : Below w.heap.size w W := by
  subst h
  have hb := pw_below_drewN (Below.refl w.heap.size w) k
  refine ⟨hb.os, hb.tape, hb.output, ?_, fun i hi => ?_⟩
  · have := hb.size
    unfold Sort.grow
    simp only [Array.size_append]
    omega
  · unfold Sort.grow
    have h1 : i < (w.drewN k).heap.size := Nat.lt_of_lt_of_le hi hb.size
    simp only [Array.getElem?_append_left h1]
    exact hb.block i hi
theorem nDig (k : Nat) : ∀ u, u < 10 ^ (k + 1) → Lib.nDigits u ≤ k + 1 := by
  induction k with
  | zero => intro u h; rw [Lib.nDigits_small (by omega)]; omega
  | succ k ih =>
    intro u h
    by_cases hu : u < 10
    · rw [Lib.nDigits_small hu]; omega
    · rw [Lib.nDigits_big hu]
      have := ih (u / 10) (by rw [Nat.pow_succ] at h; omega)
      omega
def numS (n : Nat) : ByteArray := ⟨(Lib.itoa (n : Int)).toArray⟩
theorem size4 (n : Nat) (h : n < 9007199254740992) : (numS n).size ≤ 20 := by
  unfold numS
  change (Lib.itoa (n : Int)).toArray.size ≤ 20
  rw [Lib.itoa_nonneg, List.size_toArray, Lib.decDigits_length]
  have := nDig 16 n (by omega)
  omega
def dotted (sg b : ByteArray) : ByteArray := sg ++ b.extract 0 (b.size - 3) ++ ⟨#[46]⟩ ++ b.extract (b.size - 3) b.size
theorem ret_str {a b : ByteArray} (h : a = b) : Ending.returned (.string a) = .returned (.string b) := by rw [h]
set_option maxHeartbeats 2000000 in
theorem print_small (g : Int) (w : World) (x : Nat) (hg : g.toNat < 18446744073709551616) (hn : isn g.toNat = false) (hi : isi g.toNat = false) (hm : floatBits .mul .f64 (rung g.toNat) thou = some x) (hs : Small x) (ht : Tab w) :
    Calls Tryd.prog 9 #[.int .u64 g] w fun e w' => e = .returned (.string (dotted (sgS (neg g.toNat)) (pad4 (numS (evenU (val x)))))) ∧ Below w.heap.size w w' := by
  have hf := run_from
  have HG := Lib.hid hg
  have hrl := rung_lt g.toNat
  have HR := Lib.hid (show rung g.toNat < 18446744073709551616 by omega)
  have hmul : ∀ W, (binOp .mul 26 (.float .f64 (rung g.toNat)) (.float .f64 4652007308841189376)).run Tryd.prog W = .ok (.float .f64 x) W := fun W => run_float_arith W .mul _ .f64 _ _ x hm
  have hir : isi (rung g.toNat) = false := by rw [← hi]; unfold isi; rw [show rung (rung g.toNat) = rung g.toNat by unfold rung; omega]
  have hnr : isn (rung g.toNat) = false := by rw [← hn, isn_key, isn_key, show rung (rung g.toNat) = rung g.toNat by unfold rung; omega]
  have hlt : FloatKind.f64.format.order x 4845873199050653696 = some .lt := by
    have h1 := hs.toFin.order big_fin
    rw [big_val] at h1
    have h2 := hs.sm
    rw [show FloatKind.f64.format.order x 4845873199050653696 = _ from h1]
    simp [compare, compareOfLessAndEq, h2]
  have hrte := run_rte x hs.toFin.isn
  obtain ⟨hrs, hrv⟩ := hs.round
  generalize hy : FloatKind.f64.encode ((FloatKind.f64.decode x).integral .even) = y at *
  clear hy
  have hcv : ∀ W, (convert 26 3 (.float .f64 y)).run Tryd.prog W = .ok (.int .i64 ((evenU (val x) : Nat) : Int)) W := by
    intro W
    refine run_convert_float_int W _ _ .f64 .i64 y _ rfl rfl ?_
    rw [hrs.cut, hrv, Nat.mul_div_cancel _ UN_pos]
  have HN := Lib.hid hs.even_lt
  generalize evenU (val x) = n at *
  have HT := Lib.hid ht
  clear hg hm hs ht hrl hn hi hrs hrv
  cases hng : neg g.toNat
  · go_enter Tryd.func9, Tryd.ntmps9
    go_wp2_with (first
    | (go_at_call 22; refine (IsNaN_call _ _).mono ?_; rintro e w' ⟨rfl, rfl⟩)
    | (go_at_call 23; refine (IsInf_call _ _ HR.out).mono ?_; rintro e w' ⟨rfl, rfl⟩)
    | (go_at_call 21; refine (Abs_call _ _ HG.out).mono ?_; rintro e w' ⟨rfl, rfl⟩)
    | (go_at_call 20; refine (Signbit_call _ _ HG.out).mono ?_; rintro e w' ⟨rfl, rfl⟩)
    | (go_at_call 24; refine (Tryd.strconv_Itoa _ (by omega) (by have := HN.out; omega) _ HT.out).mono ?_; rintro e w' ⟨rfl, k, os, rfl⟩))
    rw [show (⟨(Lib.itoa (n : Int)).toArray⟩ : ByteArray) = numS n from rfl]
    have HSZ := Lib.hid (size4 n HN.out)
    obtain ⟨S, hS⟩ : ∃ S, numS n = S := ⟨_, rfl⟩
    rw [hS] at HSZ ⊢
    have HSE := Lib.hid hS
    clear hS
    obtain ⟨W1, hW1⟩ : ∃ W1, Sort.grow (w'.drewN k) os = W1 := ⟨_, rfl⟩
    rw [hW1]
    have HB := Lib.hid (below_grow_of hW1)
    clear hW1
    go_loopg [6] (4 - S.size) (fun kq v W => ∃ b : ByteArray, v = .string b ∧ Aside0 (pad4 b = pad4 S) ∧ Aside0 (4 - b.size = kq) ∧ Aside0 (b.size ≤ 20) ∧ Aside0 (W = W1))
    case atStart => exact ⟨S, rfl, ⟨rfl⟩, ⟨rfl⟩, ⟨HSZ.out⟩, ⟨rfl⟩⟩
    case round =>
      obtain ⟨b, rfl, hb, hk, hbl, hww⟩ := hrel
      obtain rfl := hww.out
      clear hww
      have hbl2 := hbl.out
      by_cases hlt : b.size < 4
      · have hlb : decide ((b.size : Int) < 4) = true := by simp; omega
        have HP := Lib.hid (pad4_more b hlt)
        have HL := Lib.hid hlt
        clear hlt
        go_wp2
        go_roundg (4 - (b.size + 1))
        case measure => have := hk.out; have := HL.out; omega
        case rel =>
          have hs : (⟨#[48]⟩ ++ b : ByteArray).size = b.size + 1 := by rw [ByteArray.size_append]; have : (⟨#[48]⟩ : ByteArray).size = 1 := rfl; omega
          exact ⟨⟨#[48]⟩ ++ b, rfl, ⟨HP.out.trans hb.out⟩, ⟨by rw [hs]⟩, ⟨by have := HL.out; omega⟩, ⟨rfl⟩⟩
      · have hlb : decide ((b.size : Int) < 4) = false := by simp; omega
        have hge : 4 ≤ b.size := by omega
        have HP := Lib.hid (pad4_done b hlt)
        clear hlt
        go_wp2
        go_quiet (fail)
        go_wp2
        go_ret
        exact ⟨ret_str (by rw [HSE.out, ← hb.out, HP.out]; rfl), pw_below_drewN HB.out _⟩
  · go_enter Tryd.func9, Tryd.ntmps9
    go_wp2_with (first
    | (go_at_call 22; refine (IsNaN_call _ _).mono ?_; rintro e w' ⟨rfl, rfl⟩)
    | (go_at_call 23; refine (IsInf_call _ _ HR.out).mono ?_; rintro e w' ⟨rfl, rfl⟩)
    | (go_at_call 21; refine (Abs_call _ _ HG.out).mono ?_; rintro e w' ⟨rfl, rfl⟩)
    | (go_at_call 20; refine (Signbit_call _ _ HG.out).mono ?_; rintro e w' ⟨rfl, rfl⟩)
    | (go_at_call 24; refine (Tryd.strconv_Itoa _ (by omega) (by have := HN.out; omega) _ HT.out).mono ?_; rintro e w' ⟨rfl, k, os, rfl⟩))
    rw [show (⟨(Lib.itoa (n : Int)).toArray⟩ : ByteArray) = numS n from rfl]
    have HSZ := Lib.hid (size4 n HN.out)
    obtain ⟨S, hS⟩ : ∃ S, numS n = S := ⟨_, rfl⟩
    rw [hS] at HSZ ⊢
    have HSE := Lib.hid hS
    clear hS
    obtain ⟨W1, hW1⟩ : ∃ W1, Sort.grow (w'.drewN k) os = W1 := ⟨_, rfl⟩
    rw [hW1]
    have HB := Lib.hid (below_grow_of hW1)
    clear hW1
    go_loopg [6] (4 - S.size) (fun kq v W => ∃ b : ByteArray, v = .string b ∧ Aside0 (pad4 b = pad4 S) ∧ Aside0 (4 - b.size = kq) ∧ Aside0 (b.size ≤ 20) ∧ Aside0 (W = W1))
    case atStart => exact ⟨S, rfl, ⟨rfl⟩, ⟨rfl⟩, ⟨HSZ.out⟩, ⟨rfl⟩⟩
    case round =>
      obtain ⟨b, rfl, hb, hk, hbl, hww⟩ := hrel
      obtain rfl := hww.out
      clear hww
      have hbl2 := hbl.out
      by_cases hlt : b.size < 4
      · have hlb : decide ((b.size : Int) < 4) = true := by simp; omega
        have HP := Lib.hid (pad4_more b hlt)
        have HL := Lib.hid hlt
        clear hlt
        go_wp2
        go_roundg (4 - (b.size + 1))
        case measure => have := hk.out; have := HL.out; omega
        case rel =>
          have hs : (⟨#[48]⟩ ++ b : ByteArray).size = b.size + 1 := by rw [ByteArray.size_append]; have : (⟨#[48]⟩ : ByteArray).size = 1 := rfl; omega
          exact ⟨⟨#[48]⟩ ++ b, rfl, ⟨HP.out.trans hb.out⟩, ⟨by rw [hs]⟩, ⟨by have := HL.out; omega⟩, ⟨rfl⟩⟩
      · have hlb : decide ((b.size : Int) < 4) = false := by simp; omega
        have hge : 4 ≤ b.size := by omega
        have HP := Lib.hid (pad4_done b hlt)
        clear hlt
        go_wp2
        go_quiet (fail)
        go_wp2
        go_ret
        exact ⟨ret_str (by rw [HSE.out, ← hb.out, HP.out]; rfl), pw_below_drewN HB.out _⟩
set_option maxHeartbeats 2000000 in
theorem print_nan (g : Int) (w : World) (hg : g.toNat < 18446744073709551616) (hn : isn g.toNat = true) :
    Calls Tryd.prog 9 #[.int .u64 g] w fun e w' => e = .returned (.string ⟨#[110, 97, 110]⟩) ∧ Below w.heap.size w w' := by
  have hf := run_from
  have HG := Lib.hid hg
  have hrl := rung_lt g.toNat
  have HR := Lib.hid (show rung g.toNat < 18446744073709551616 by omega)
  obtain ⟨Q, M, hQ, hR⟩ := run_all .mul (by simp)
  have hrr : rung (rung g.toNat) = rung g.toNat := by unfold rung; omega
  have hnr : isn (rung g.toNat) = true := by rw [← hn, isn_key, isn_key, hrr]
  clear hn hrr
  clear hg hrl hR
  cases hng : neg g.toNat
  all_goals
    go_enter Tryd.func9, Tryd.ntmps9
    go_wp2_with (first
      | (go_at_call 22; refine (IsNaN_call _ _).mono ?_; rintro e w' ⟨rfl, rfl⟩)
      | (go_at_call 23; refine (IsInf_call _ _ HR.out).mono ?_; rintro e w' ⟨rfl, rfl⟩)
      | (go_at_call 21; refine (Abs_call _ _ HG.out).mono ?_; rintro e w' ⟨rfl, rfl⟩)
      | (go_at_call 20; refine (Signbit_call _ _ HG.out).mono ?_; rintro e w' ⟨rfl, rfl⟩))
    go_ret
    exact ⟨rfl, by repeat (first | exact Below.refl _ _ | apply pw_below_drewN)⟩
set_option maxHeartbeats 2000000 in
theorem print_inf (g : Int) (w : World) (hg : g.toNat < 18446744073709551616) (hn : isn g.toNat = false) (hi : isi g.toNat = true) :
    Calls Tryd.prog 9 #[.int .u64 g] w fun e w' => e = .returned (.string (sgS (neg g.toNat) ++ ⟨#[105, 110, 102]⟩)) ∧ Below w.heap.size w w' := by
  have hf := run_from
  have HG := Lib.hid hg
  have hrl := rung_lt g.toNat
  have HR := Lib.hid (show rung g.toNat < 18446744073709551616 by omega)
  obtain ⟨Q, M, hQ, hR⟩ := run_all .mul (by simp)
  have hrr : rung (rung g.toNat) = rung g.toNat := by unfold rung; omega
  have hnr : isn (rung g.toNat) = false := by rw [← hn, isn_key, isn_key, hrr]
  have hir : isi (rung g.toNat) = true := by rw [← hi]; unfold isi; rw [hrr]
  clear hn hi hrr
  clear hg hrl hR
  cases hng : neg g.toNat
  all_goals
    go_enter Tryd.func9, Tryd.ntmps9
    go_wp2_with (first
      | (go_at_call 22; refine (IsNaN_call _ _).mono ?_; rintro e w' ⟨rfl, rfl⟩)
      | (go_at_call 23; refine (IsInf_call _ _ HR.out).mono ?_; rintro e w' ⟨rfl, rfl⟩)
      | (go_at_call 21; refine (Abs_call _ _ HG.out).mono ?_; rintro e w' ⟨rfl, rfl⟩)
      | (go_at_call 20; refine (Signbit_call _ _ HG.out).mono ?_; rintro e w' ⟨rfl, rfl⟩))
    go_ret
    exact ⟨rfl, by repeat (first | exact Below.refl _ _ | apply pw_below_drewN)⟩
set_option maxHeartbeats 2000000 in
theorem print_big (g : Int) (w : World) (x : Nat) (hg : g.toNat < 18446744073709551616) (hn : isn g.toNat = false) (hi : isi g.toNat = false) (hm : floatBits .mul .f64 (rung g.toNat) thou = some x)
    (ho : FloatKind.f64.format.order x 4845873199050653696 = some .gt ∨ FloatKind.f64.format.order x 4845873199050653696 = some .eq) :
    Calls Tryd.prog 9 #[.int .u64 g] w fun e w' => e = .returned (.string ⟨#[98, 105, 103]⟩) ∧ Below w.heap.size w w' := by
  have hf := run_from
  have HG := Lib.hid hg
  have hrl := rung_lt g.toNat
  have HR := Lib.hid (show rung g.toNat < 18446744073709551616 by omega)
  have hmul : ∀ W, (binOp .mul 26 (.float .f64 (rung g.toNat)) (.float .f64 4652007308841189376)).run Tryd.prog W = .ok (.float .f64 x) W := fun W => run_float_arith W .mul _ .f64 _ _ x hm
  have hir : isi (rung g.toNat) = false := by rw [← hi]; unfold isi; rw [show rung (rung g.toNat) = rung g.toNat by unfold rung; omega]
  have hnr : isn (rung g.toNat) = false := by rw [← hn, isn_key, isn_key, show rung (rung g.toNat) = rung g.toNat by unfold rung; omega]
  clear hg hrl hn hi hm
  rcases ho with ho | ho
  all_goals
    cases hng : neg g.toNat
    all_goals
      go_enter Tryd.func9, Tryd.ntmps9
      go_wp2_with (first
        | (go_at_call 22; refine (IsNaN_call _ _).mono ?_; rintro e w' ⟨rfl, rfl⟩)
        | (go_at_call 23; refine (IsInf_call _ _ HR.out).mono ?_; rintro e w' ⟨rfl, rfl⟩)
        | (go_at_call 21; refine (Abs_call _ _ HG.out).mono ?_; rintro e w' ⟨rfl, rfl⟩)
        | (go_at_call 20; refine (Signbit_call _ _ HG.out).mono ?_; rintro e w' ⟨rfl, rfl⟩))
      go_ret
      exact ⟨rfl, by repeat (first | exact Below.refl _ _ | apply pw_below_drewN)⟩
end Go.Proofs.YthgioldoeejjnaaDoor.Gf
