-- Written by a program of this session (wip/tools)
import Derived.Test.YtdaeanodgnmknaaXLayoutSupersx0
import Derived.Test.YtdaeanodgnmknaaXLayoutSupersx2
import Derived.Test.YtdaeanodgnmknaaXLayoutSupersx3
import Derived.Test.YtdaeanodgnmknaaXLayoutSupersx4
namespace Go.Proofs.Ytdaeanodgnmknaa.XLayoutSupers
open Go.RowKit Go.Proofs.YtdaeanodgnmknaaW.PrintWords Go.Proofs.YtdaeanodgnmknaaW.PrintLast Go.Proofs.YtdaeanodgnmknaaW.PrintMore
attribute [local go_sem] max2_int min2_int max_two min_two max_three min_three max_four min_four   -- for this text's walks alone
set_option linter.unusedVariables false
set_option linter.unusedSimpArgs false

/-! ### word_Get: function 63 -/
def word_Get.l0 : Nat → List Int → Int → Int → Int → Int → Option (Int × Int)
  | 0, _, _, _, _, _ => none
  | k + 1, x0, x1, x9, x18, x19 => if x19 < x18 then (if 0 ≤ (wrap64 (x1 + x19)) then (if (wrap64 (x1 + x19)) < (x0.length : Int) then (if 0 ≤ (wrap64 (8 * x19)) then (word_Get.l0 k x0 x1 (Go.bits .or .i64 x9 (shl .i64 (wrap64 (rd x0 (wrap64 (x1 + x19)))) (wrap64 (8 * x19)))) x18 (wrap64 (x19 + 1))) else (none)) else (none)) else (none)) else (some (x9, 0))
def word_Get.f (k : Nat) (l0 : List Int) (a1 : Int) (a2 : Int) : Option (Int × Int) := (word_there.f k l0 a1 a2).bind fun t187 => (if t187 = 0 then (word_Get.l0 k l0 a1 0 a2 0) else (some (0, t187)))
theorem word_Get.mono_l : ∀ k, (∀ y0 y1 y2 y3 y4, LeO (word_Get.l0 k y0 y1 y2 y3 y4) (word_Get.l0 (k + 1) y0 y1 y2 y3 y4))
  | 0 => fun _ _ _ _ _ r h => by simp [word_Get.l0] at h
  | k + 1 => by
    have ih0 := word_Get.mono_l k
    · intro y0 y1 y2 y3 y4
      unfold word_Get.l0
      repeat' first
      | (with_reducible exact ih0 _ _ _ _ _)
      | (with_reducible exact word_there.mono _ _ _ _)
      | (with_reducible exact LeO.refl _)
      | (with_reducible exact LeO.none _)
      | (with_reducible refine LeO.ite ?_ ?_)
      | (with_reducible refine LeO.bind ?_ (fun _ => ?_))
      | exact ih0 _ _ _ _ _
      | exact word_there.mono _ _ _ _
      | exact LeO.none _
      | refine LeO.ite ?_ ?_
      | refine LeO.bind ?_ (fun _ => ?_)
theorem word_Get.mono : ∀ a0 a1 a2 k, LeO (word_Get.f k a0 a1 a2) (word_Get.f (k + 1) a0 a1 a2) := by
  intro a0 a1 a2 k
  have ih0 := word_Get.mono_l k
  unfold word_Get.f
  repeat' first
      | (with_reducible exact ih0 _ _ _ _ _)
      | (with_reducible exact word_there.mono _ _ _ _)
      | (with_reducible exact LeO.refl _)
      | (with_reducible exact LeO.none _)
      | (with_reducible refine LeO.ite ?_ ?_)
      | (with_reducible refine LeO.bind ?_ (fun _ => ?_))
      | exact ih0 _ _ _ _ _
      | exact word_there.mono _ _ _ _
      | exact LeO.none _
      | refine LeO.ite ?_ ?_
      | refine LeO.bind ?_ (fun _ => ?_)
set_option maxHeartbeats 8000000 in
set_option maxRecDepth 100000 in
theorem word_Get.calls (k : Nat) (A0 : Option Addr) (c0 : Nat) (l0 : List Int) (a1 : Int) (a2 : Int) (r1 : Int) (r2 : Int) (w : World) (hr0 : Kd.C (Kd.int .u8) w A0 l0.length l0) (hc0 : l0.length ≤ c0) (h : word_Get.f k l0 a1 a2 = some (r1, r2)) :
    Calls Try.prog 63 #[.slice A0 l0.length c0, .int .i64 a1, .int .i64 a2] w fun e w' => e = .returned (.tuple #[.int .i64 r1, .int .i64 r2]) ∧ Drawn0 w w' := by
  have HR0 := Aside0.mk hr0
  have HC0 := Aside0.mk hc0
  clear hr0 hc0
  have H : ((word_there.f k l0 a1 a2).bind fun t187 => (if t187 = 0 then (word_Get.l0 k l0 a1 0 a2 0) else (some (0, t187)))) = some (r1, r2) := h
  clear h
  replace H := Option.bind_eq_some_iff.mp H
  obtain ⟨t187, A40, H⟩ := H
  replace H : (if t187 = 0 then (word_Get.l0 k l0 a1 0 a2 0) else (some (0, t187))) = some (r1, r2) := H
  have A4 := Aside0.mk A40
  clear A40
  by_cases c5 : t187 = 0
  · rw [if_pos c5] at H
    have c5b0 : (t187 == 0) = true := beq_iff_eq.mpr c5
    have c5b1 : (t187 != 0) = false := bne_eq_false_iff_eq.mpr c5
    clear c5
    have H' := Aside0.mk H
    clear H
    go_enter Try.func63, Try.ntmps63
    go_wp2_with (first | ((with_reducible refine gate_callee (f := 72) rfl ?_); refine goesL_ (some 14) rfl rfl Try.func72 (by kernel_rfl) rfl #[.slice A0 l0.length c0, .int .i64 a1, .int .i64 a2] rfl (by (try simp only [List.map_toArray, List.map_cons, List.map_nil]); first | done | rfl | (simp only [List.length_drop, List.length_take]; rfl)) ?_; (with_reducible refine (word_there.calls k _ _ l0 a1 a2 t187 _ ?side1 ?side2 A4.out).mono ?_); (case side1 => repeat (first | exact HR0.out | (with_reducible refine Kd.C_alloc ?_ _) | (with_reducible refine Kd.C_drewN ?_ _) | (with_reducible refine Kd.C_drew ?_))); (case side2 => exact HC0.out); rintro e w' ⟨rfl, ⟨nd, rfl⟩⟩; refine ⟨_, rfl, ?_⟩))
    go_loopg [9, 19] k (fun kq v9 v19 w' => ∃ (x9_1 : Int) (x19_1 : Int), v9 = .int .i64 x9_1 ∧ v19 = .int .i64 x19_1 ∧ Aside0 (word_Get.l0 kq l0 a1 x9_1 a2 x19_1 = some (r1, r2)) ∧ Aside0 (kq ≤ k) ∧ Drawn0 w w')
    case atStart => exact ⟨(0), (0), (by first | rfl | (simp; done) | (simp [*]; done)), (by first | rfl | (simp; done) | (simp [*]; done)), H', ⟨Nat.le_refl _⟩, by repeat (first | exact Drawn0.refl _ | apply Drawn0.step)⟩
    case round =>
      clear H'
      try clear p2
      try clear c5
      try clear c5b0
      try clear c5b1
      obtain ⟨x9_1, x19_1, rfl, rfl, HA, HK1, ⟨m1, rfl⟩⟩ := hrel
      cases gk with
      | zero => exact absurd HA.out (by simp [word_Get.l0])
      | succ k1 =>
        have H := HA.out
        clear HA
        simp only [word_Get.l0] at H
        by_cases c6 : x19_1 < a2
        · rw [if_pos c6] at H
          have c6b0 : decide (x19_1 < a2) = true := decide_eq_true c6
          clear c6
          obtain ⟨ji7, hji7⟩ : ∃ j_ : Int, (wrap64 (a1 + x19_1)) = j_ := ⟨_, rfl⟩
          replace H : (if 0 ≤ (ji7) then (if (ji7) < (l0.length : Int) then (if 0 ≤ (wrap64 (8 * x19_1)) then (word_Get.l0 k1 l0 a1 (Go.bits .or .i64 x9_1 (shl .i64 (wrap64 (rd l0 (ji7))) (wrap64 (8 * x19_1)))) a2 (wrap64 (x19_1 + 1))) else (none)) else (none)) else (none)) = some (r1, r2) := by first | (rw [hji7] at H; exact H) | (simp only [hji7] at H ⊢; exact H)
          have hji7w : (IntKind.i64.wrap (a1 + x19_1)) = ji7 := (i64_w _).trans hji7
          by_cases c8 : 0 ≤ (ji7)
          · rw [if_pos c8] at H
            have c8b0 : decide (0 ≤ (ji7)) = true := decide_eq_true c8
            clear c8
            by_cases c9 : (ji7) < (l0.length : Int)
            · rw [if_pos c9] at H
              have c9b0 : decide ((ji7) < (l0.length : Int)) = true := decide_eq_true c9
              clear c9
              obtain ⟨ji10, hji10⟩ : ∃ j_ : Int, (wrap64 (8 * x19_1)) = j_ := ⟨_, rfl⟩
              replace H : (if 0 ≤ (ji10) then (word_Get.l0 k1 l0 a1 (Go.bits .or .i64 x9_1 (shl .i64 (wrap64 (rd l0 (ji7))) (ji10))) a2 (wrap64 (x19_1 + 1))) else (none)) = some (r1, r2) := by first | (rw [hji10] at H; exact H) | (simp only [hji10] at H ⊢; exact H)
              have hji10w : (IntKind.i64.wrap (8 * x19_1)) = ji10 := (i64_w _).trans hji10
              by_cases c11 : 0 ≤ (ji10)
              · rw [if_pos c11] at H
                have c11b0 := eq_true c11
                have c11b1 : decide (0 ≤ (ji10)) = true := decide_eq_true c11
                clear c11
                obtain ⟨ji12, hji12⟩ : ∃ j_ : Int, (shl .i64 (wrap64 (rd l0 (ji7))) (ji10)) = j_ := ⟨_, rfl⟩
                replace H : (word_Get.l0 k1 l0 a1 (Go.bits .or .i64 x9_1 (ji12)) a2 (wrap64 (x19_1 + 1))) = some (r1, r2) := by first | (rw [hji12] at H; exact H) | (simp only [hji12] at H ⊢; exact H)
                have hji12_ : (IntKind.i64.wrap ((wrap64 (rd l0 (ji7))) * 2 ^ min (ji10).toNat 64)) = ji12 := hji12
                have hji12z : (ji10) ≤ 64 → (IntKind.i64.wrap ((wrap64 (rd l0 (ji7))) * 2 ^ (ji10).toNat)) = ji12 := shl_small hji12
                have hji12y : (wrap64 ((wrap64 (rd l0 (ji7))) * 2 ^ min (ji10).toNat 64)) = ji12 := (i64_w _).symm.trans hji12_
                have hji12x : (ji10) ≤ 64 → (wrap64 ((wrap64 (rd l0 (ji7))) * 2 ^ (ji10).toNat)) = ji12 := fun h_ => (i64_w _).symm.trans (hji12z h_)
                have H' := Aside0.mk H
                clear H
                have p188 : 0 ≤ ((ji7) : Int) := of_decide_eq_true (by first | (with_reducible assumption) | assumption)
                have q188 : (ji7) < (l0.length : Int) := of_decide_eq_true (by first | (with_reducible assumption) | assumption)
                obtain ⟨ad188, e188, hx188_0⟩ := Kd.at_int HR0.out (ji7) p188 q188
                cases e188
                replace p188 := eq_true p188
                replace q188 := eq_true q188
                go_wp2
                go_roundg k1
                case measure => have := HK1.out; omega
                case rel => exact ⟨(Go.bits .or .i64 x9_1 (ji12)), (wrap64 (x19_1 + 1)), (by first | rfl | (simp; done) | (simp only [← hji12] <;> (first | rfl | simp)) | (simp [*]; done)), (by first | rfl | (simp; done) | (simp [*]; done)), H', ⟨by have := HK1.out; omega⟩, by repeat (first | exact Drawn0.refl _ | apply Drawn0.step)⟩
              · rw [if_neg c11] at H
                exact absurd H (by simp)
            · rw [if_neg c9] at H
              exact absurd H (by simp)
          · rw [if_neg c8] at H
            exact absurd H (by simp)
        · rw [if_neg c6] at H
          have c6b0 : decide (x19_1 < a2) = false := decide_eq_false c6
          clear c6
          simp only [Option.some.injEq, Prod.mk.injEq] at H
          obtain ⟨rfl, rfl⟩ := H
          go_wp2
          go_ret2
          exact ⟨by first | rfl | (simp; done) | (simp [*]; done), by repeat (first | exact Drawn0.refl _ | apply Drawn0.step)⟩
  · rw [if_neg c5] at H
    have c5b0 : (t187 == 0) = false := beq_eq_false_iff_ne.mpr c5
    have c5b1 : (t187 != 0) = true := bne_iff_ne.mpr c5
    simp only [Option.some.injEq, Prod.mk.injEq] at H
    obtain ⟨rfl, rfl⟩ := H
    go_enter Try.func63, Try.ntmps63
    go_wp2_with (first | ((with_reducible refine gate_callee (f := 72) rfl ?_); refine goesL_ (some 14) rfl rfl Try.func72 (by kernel_rfl) rfl #[.slice A0 l0.length c0, .int .i64 a1, .int .i64 a2] rfl (by (try simp only [List.map_toArray, List.map_cons, List.map_nil]); first | done | rfl | (simp only [List.length_drop, List.length_take]; rfl)) ?_; (with_reducible refine (word_there.calls k _ _ l0 a1 a2 t187 _ ?side1 ?side2 A4.out).mono ?_); (case side1 => repeat (first | exact HR0.out | (with_reducible refine Kd.C_alloc ?_ _) | (with_reducible refine Kd.C_drewN ?_ _) | (with_reducible refine Kd.C_drew ?_))); (case side2 => exact HC0.out); rintro e w' ⟨rfl, ⟨nd, rfl⟩⟩; refine ⟨_, rfl, ?_⟩))
    go_ret2
    exact ⟨by first | rfl | (simp; done) | (simp [*]; done), by repeat (first | exact Drawn0.refl _ | apply Drawn0.step)⟩

/-! ### word_Sealed: function 54 -/
def word_Sealed.f (k : Nat) (l0 : List Int) : Option (Bool) := (word_Get.f k l0 (mx (wrap64 ((l0.length : Int) - 4)) 0) 4).bind fun bt189 => (if bt189.2 = 0 then (if 0 ≤ (wrap64 ((l0.length : Int) - 4)) then (if (wrap64 ((l0.length : Int) - 4)) ≤ (l0.length : Int) then ((word_Sum.f k (l0.take ((wrap64 ((l0.length : Int) - 4)) : Int).toNat)).bind fun t192 => (some (bt189.1 == t192))) else (none)) else (none)) else (some false))
theorem word_Sealed.mono : ∀ a0 k, LeO (word_Sealed.f k a0) (word_Sealed.f (k + 1) a0) := by
  intro a0 k
  unfold word_Sealed.f
  repeat' first
      | (with_reducible exact word_Get.mono _ _ _ _)
      | (with_reducible exact word_Sum.mono _ _)
      | (with_reducible exact LeO.refl _)
      | (with_reducible exact LeO.none _)
      | (with_reducible refine LeO.ite ?_ ?_)
      | (with_reducible refine LeO.bind ?_ (fun _ => ?_))
      | exact word_Get.mono _ _ _ _
      | exact word_Sum.mono _ _
      | exact LeO.none _
      | refine LeO.ite ?_ ?_
      | refine LeO.bind ?_ (fun _ => ?_)
set_option maxHeartbeats 8000000 in
set_option maxRecDepth 100000 in
theorem word_Sealed.calls (k : Nat) (A0 : Option Addr) (c0 : Nat) (l0 : List Int) (r : Bool) (w : World) (hr0 : Kd.C (Kd.int .u8) w A0 l0.length l0) (hc0 : l0.length ≤ c0) (h : word_Sealed.f k l0 = some r) :
    Calls Try.prog 54 #[.slice A0 l0.length c0] w fun e w' => e = .returned (.bool r) ∧ Below w.heap.size w w' := by
  have HR0 := Aside0.mk hr0
  have HC0 := Aside0.mk hc0
  clear hr0 hc0
  have HB := Aside0.mk (Below.refl w.heap.size w)
  have H : ((word_Get.f k l0 (mx (wrap64 ((l0.length : Int) - 4)) 0) 4).bind fun bt189 => (if bt189.2 = 0 then (if 0 ≤ (wrap64 ((l0.length : Int) - 4)) then (if (wrap64 ((l0.length : Int) - 4)) ≤ (l0.length : Int) then ((word_Sum.f k (l0.take ((wrap64 ((l0.length : Int) - 4)) : Int).toNat)).bind fun t192 => (some (bt189.1 == t192))) else (none)) else (none)) else (some false))) = some r := h
  clear h
  obtain ⟨ji2, hji2⟩ : ∃ j_ : Int, (mx (wrap64 ((l0.length : Int) - 4)) 0) = j_ := ⟨_, rfl⟩
  replace H : ((word_Get.f k l0 (ji2) 4).bind fun bt189 => (if bt189.2 = 0 then (if 0 ≤ (wrap64 ((l0.length : Int) - 4)) then (if (wrap64 ((l0.length : Int) - 4)) ≤ (l0.length : Int) then ((word_Sum.f k (l0.take ((wrap64 ((l0.length : Int) - 4)) : Int).toNat)).bind fun t192 => (some (bt189.1 == t192))) else (none)) else (none)) else (some false))) = some r := by first | (rw [hji2] at H; exact H) | (simp only [hji2] at H ⊢; exact H)
  (try (have hji2l : 0 ≤ ji2 := by (rw [← hji2]; unfold mx; (repeat' split) <;> omega)))
  (try (have hji2m : 0 ≤ ji2 := by omega))
  have hji2_ : (if (wrap64 ((l0.length : Int) - 4)) < 0 then 0 else (wrap64 ((l0.length : Int) - 4))) = ji2 := hji2
  replace H := Option.bind_eq_some_iff.mp H
  obtain ⟨⟨t189, t190⟩, A30, H⟩ := H
  replace H : (if t190 = 0 then (if 0 ≤ (wrap64 ((l0.length : Int) - 4)) then (if (wrap64 ((l0.length : Int) - 4)) ≤ (l0.length : Int) then ((word_Sum.f k (l0.take ((wrap64 ((l0.length : Int) - 4)) : Int).toNat)).bind fun t192 => (some (t189 == t192))) else (none)) else (none)) else (some false)) = some r := H
  have A3 := Aside0.mk A30
  clear A30
  by_cases c4 : t190 = 0
  · rw [if_pos c4] at H
    have c4b0 : (t190 == 0) = true := beq_iff_eq.mpr c4
    have c4b1 : (t190 != 0) = false := bne_eq_false_iff_eq.mpr c4
    clear c4
    obtain ⟨ji5, hji5⟩ : ∃ j_ : Int, (wrap64 ((l0.length : Int) - 4)) = j_ := ⟨_, rfl⟩
    replace H : (if 0 ≤ (ji5) then (if (ji5) ≤ (l0.length : Int) then ((word_Sum.f k (l0.take ((ji5) : Int).toNat)).bind fun t192 => (some (t189 == t192))) else (none)) else (none)) = some r := by first | (rw [hji5] at H; exact H) | (simp only [hji5] at H ⊢; exact H)
    (try rw [hji5] at hji2_)
    (try rw [hji5] at hji2z)
    (try rw [hji5] at hji2u)
    (try rw [hji5] at hji2v)
    (try rw [hji5] at hji2w)
    (try rw [hji5] at A3)
    have hji5w : (IntKind.i64.wrap ((l0.length : Int) - 4)) = ji5 := (i64_w _).trans hji5
    by_cases c6 : 0 ≤ (ji5)
    · rw [if_pos c6] at H
      have c6b0 := eq_true c6
      have c6b1 : decide (0 ≤ (ji5)) = true := decide_eq_true c6
      clear c6
      by_cases c7 : (ji5) ≤ (l0.length : Int)
      · rw [if_pos c7] at H
        have c7b0 := eq_true c7
        have c7b1 : decide ((ji5) ≤ (l0.length : Int)) = true := decide_eq_true c7
        clear c7
        replace H := Option.bind_eq_some_iff.mp H
        obtain ⟨t192, A80, H⟩ := H
        replace H : (some (t189 == t192)) = some r := H
        have A8 := Aside0.mk A80
        clear A80
        obtain rfl := Option.some.inj H
        go_enter Try.func54, Try.ntmps54
        go_wp2_with (first | ((with_reducible refine gate_callee (f := 63) rfl ?_); refine goesL_ (some 11) rfl rfl Try.func63 (by kernel_rfl) rfl #[.slice A0 l0.length c0, .int .i64 ji2, .int .i64 4] rfl (by (try simp only [List.map_toArray, List.map_cons, List.map_nil]); first | done | (simp only [hji2]; rfl) | rfl | (simp only [List.length_drop, List.length_take]; rfl)) ?_; (with_reducible refine (word_Get.calls k _ _ l0 ji2 4 t189 t190 _ ?side1 ?side2 A3.out).mono ?_); (case side1 => repeat (first | exact HR0.out | (with_reducible refine Kd.C_alloc ?_ _) | (with_reducible refine Kd.C_drewN ?_ _) | (with_reducible refine Kd.C_drew ?_))); (case side2 => exact HC0.out); rintro e w' ⟨rfl, ⟨nd, rfl⟩⟩; refine ⟨_, rfl, ?_⟩; obtain ⟨i09, hi09, _, hsz9, _⟩ := info_parts info5; obtain ⟨hcut9, hA9, hC9⟩ := print_take_of (P := Try.prog) (Value.int .u8) 0 26 5 .i64 Try.underlying26 hi09 hsz9 A0 c0 l0 (ji5) (of_decide_eq_true (by first | (with_reducible assumption) | assumption)) (of_decide_eq_true (by first | (with_reducible assumption) | assumption)) HC0.out; have HR191 := Aside0.mk (Kd.C_of_reads (h1 := fun _ => rfl) (hA9 _ (Kd.reads_of_C HR0.out))); have HC191 := Aside0.mk hC9; clear hA9 hC9 hi09 hsz9) | (go_at_call 68; refine calls_of_args (args' := #[.slice A0 (l0.take ((ji5) : Int).toNat).length c0]) (by first | (rw [show (l0.take ((ji5) : Int).toNat).length = (ji5).toNat from (by rw [List.length_take]; have h_ : ((ji5) : Int) ≤ (l0.length : Int) := of_decide_eq_true (by first | (with_reducible assumption) | assumption); omega)] <;> rfl) | rfl) ?_; (with_reducible refine (word_Sum.calls k _ _ (l0.take ((ji5) : Int).toNat) t192 _ ?side1 ?side2 A8.out).mono ?_); (case side1 => repeat (first | exact HR191.out | (with_reducible refine Kd.C_alloc ?_ _) | (with_reducible refine Kd.C_drewN ?_ _) | (with_reducible refine Kd.C_drew ?_))); (case side2 => exact HC191.out); rintro e w' ⟨rfl, ⟨nd, rfl⟩⟩))
        go_ret
        exact ⟨by first | rfl | (simp [errW_none, errW_some] <;> rfl) | (simp only [← hji2, ← hji5]; first | rfl | (simp [errW_none, errW_some] <;> rfl)) | (simp [*, errW_none, errW_some] <;> rfl), by repeat (first | (with_reducible first | exact HB.out | apply below_alloc | apply pw_below_drewN | apply below_drew1) | exact HB.out)⟩
      · rw [if_neg c7] at H
        exact absurd H (by simp)
    · rw [if_neg c6] at H
      exact absurd H (by simp)
  · rw [if_neg c4] at H
    have c4b0 : (t190 == 0) = false := beq_eq_false_iff_ne.mpr c4
    have c4b1 : (t190 != 0) = true := bne_iff_ne.mpr c4
    obtain rfl := Option.some.inj H
    go_enter Try.func54, Try.ntmps54
    go_wp2_with (first | ((with_reducible refine gate_callee (f := 63) rfl ?_); refine goesL_ (some 11) rfl rfl Try.func63 (by kernel_rfl) rfl #[.slice A0 l0.length c0, .int .i64 ji2, .int .i64 4] rfl (by (try simp only [List.map_toArray, List.map_cons, List.map_nil]); first | done | (simp only [hji2]; rfl) | rfl | (simp only [List.length_drop, List.length_take]; rfl)) ?_; (with_reducible refine (word_Get.calls k _ _ l0 ji2 4 t189 t190 _ ?side1 ?side2 A3.out).mono ?_); (case side1 => repeat (first | exact HR0.out | (with_reducible refine Kd.C_alloc ?_ _) | (with_reducible refine Kd.C_drewN ?_ _) | (with_reducible refine Kd.C_drew ?_))); (case side2 => exact HC0.out); rintro e w' ⟨rfl, ⟨nd, rfl⟩⟩; refine ⟨_, rfl, ?_⟩))
    go_ret
    exact ⟨by first | rfl | (simp [errW_none, errW_some] <;> rfl) | (simp only [← hji2]; first | rfl | (simp [errW_none, errW_some] <;> rfl)) | (simp [*, errW_none, errW_some] <;> rfl), by repeat (first | (with_reducible first | exact HB.out | apply below_alloc | apply pw_below_drewN | apply below_drew1) | exact HB.out)⟩

-- NOT PRINTED: function 55 (word_Reader_Skip)


/-! ### layout_DecodeSuper: function 30 -/
def layout_DecodeSuper.f (k : Nat) (l0 : List Int) : Option (Int × Int × Int × Int × Int) := if (l0.length : Int) = 128 then (if ∀ x ∈ l0, 0 ≤ x ∧ x ≤ 255 then (if (strOfNums (l0.take 4)).toList = ([98, 111, 108, 108] : List UInt8) then ((word_Sealed.f k l0).bind fun t => (if t = true then ((layout_EncodeSuper.f k (Rd.le (Rd.cutL l0 4 1)) (wrap64 (Rd.le (Rd.cutL l0 5 1) + 1)) (Rd.le (Rd.cutL l0 6 1)) (Rd.le (Rd.cutL l0 8 4))).bind fun q => (if q.2 = 0 then ((layout_same.f q.1 l0).bind fun s => (if s = true then some (Rd.le (Rd.cutL l0 4 1), wrap64 (Rd.le (Rd.cutL l0 5 1) + 1), Rd.le (Rd.cutL l0 6 1), Rd.le (Rd.cutL l0 8 4), 0) else some (0, 0, 0, 0, 6))) else some (0, 0, 0, 0, 6))) else some (0, 0, 0, 0, 30))) else some (0, 0, 0, 0, 31)) else none) else some (0, 0, 0, 0, 6)
theorem layout_DecodeSuper.mono : ∀ a0 k, LeO (layout_DecodeSuper.f k a0) (layout_DecodeSuper.f (k + 1) a0) := by
  intro a0 k
  unfold layout_DecodeSuper.f
  exact LeO.ite (LeO.ite (LeO.ite (LeO.bind (word_Sealed.mono _ _) (fun _ => LeO.ite (LeO.bind (layout_EncodeSuper.mono _ _ _ _ _) (fun _ => LeO.refl _)) (LeO.refl _))) (LeO.refl _)) (LeO.refl _)) (LeO.refl _)
set_option maxHeartbeats 8000000 in
set_option maxRecDepth 100000 in
theorem layout_DecodeSuper.calls (k : Nat) (A0 : Option Addr) (c0 : Nat) (l0 : List Int) (r1 : Int) (r2 : Int) (r3 : Int) (r4 : Int) (r5 : Int) (w : World) (hr0 : Kd.C (Kd.int .u8) w A0 l0.length l0) (hc0 : l0.length ≤ c0) (h : layout_DecodeSuper.f k l0 = some (r1, r2, r3, r4, r5)) :
    Calls Try.prog 30 #[.slice A0 l0.length c0] w fun e w' => e = .returned (.tuple #[.agg #[.int .i64 r1, .int .i64 r2, .int .i64 r3, .int .i64 r4], .int .i64 r5]) ∧ Below w.heap.size w w' := by
  have hu52 := Try.underlying52
  have hu50 := Try.underlying50
  unfold layout_DecodeSuper.f at h
  have HR0 := Aside0.mk hr0
  have HC0 := Aside0.mk hc0
  have HB := Aside0.mk (Below.refl w.heap.size w)
  clear hr0 hc0
  by_cases hlen : (l0.length : Int) = 128
  · rw [if_pos hlen] at h
    have hb0 : ((l0.length : Int) == 128) = true := beq_iff_eq.mpr hlen
    have hb1 : ((l0.length : Int) != 128) = false := bne_eq_false_iff_eq.mpr hlen
    have HLEN := Aside0.mk (show l0.length = 128 by omega)
    have h4b : decide (4 ≤ (l0.length : Int)) = true := decide_eq_true (by omega)
    have h4c : (4 ≤ (l0.length : Int)) = True := eq_true (by omega)
    clear hlen
    by_cases hwf : ∀ x ∈ l0, 0 ≤ x ∧ x ≤ 255
    · rw [if_pos hwf] at h
      have HWF := Aside0.mk hwf
      clear hwf
      by_cases hm : (strOfNums (l0.take 4)).toList = ([98, 111, 108, 108] : List UInt8)
      · rw [if_pos hm] at h
        have hmb0 : ((strOfNums (l0.take 4)).toList == ([98, 111, 108, 108] : List UInt8)) = true := beq_iff_eq.mpr hm
        have hmb1 : ((strOfNums (l0.take 4)).toList != ([98, 111, 108, 108] : List UInt8)) = false := bne_eq_false_iff_eq.mpr hm
        clear hm
        obtain ⟨t, ht, h2⟩ := Option.bind_eq_some_iff.mp h
        have HSE := Aside0.mk ht
        clear h ht
        by_cases htt : t = true
        · subst htt
          rw [if_pos rfl] at h2
          obtain ⟨tG, hG⟩ : ∃ x, x = Rd.le (Rd.cutL l0 4 1) := ⟨_, rfl⟩
          obtain ⟨tB, hB⟩ : ∃ x, x = Rd.le (Rd.cutL l0 5 1) := ⟨_, rfl⟩
          obtain ⟨tI, hI⟩ : ∃ x, x = Rd.le (Rd.cutL l0 6 1) := ⟨_, rfl⟩
          obtain ⟨tM, hM⟩ : ∃ x, x = Rd.le (Rd.cutL l0 8 4) := ⟨_, rfl⟩
          rw [← hG, ← hB, ← hI, ← hM] at h2
          have HG := Aside0.mk hG.symm
          have HBL := Aside0.mk hB.symm
          have HIN := Aside0.mk hI.symm
          have HM := Aside0.mk hM.symm
          clear hG hB hI hM
          obtain ⟨⟨q1, q2⟩, hq, h3⟩ := Option.bind_eq_some_iff.mp h2
          have HQ := Aside0.mk hq
          clear h2 hq
          have HS4 := Aside0.mk (show (0 : Int) + 4 = 4 by rfl)
          have HT4 := Aside0.mk (show (4 : Int) + 1 = 5 by rfl)
          have HT5 := Aside0.mk (show (5 : Int) + 1 = 6 by rfl)
          have HT6 := Aside0.mk (show (6 : Int) + 1 = 7 by rfl)
          have HS7 := Aside0.mk (show (7 : Int) + 1 = 8 by rfl)
          have HT8 := Aside0.mk (show (8 : Int) + 4 = 12 by rfl)
          by_cases hq2 : q2 = 0
          · rw [if_pos hq2] at h3
            have hqb : (q2 == 0) = true := beq_iff_eq.mpr hq2
            have hqc : (q2 != 0) = false := bne_eq_false_iff_eq.mpr hq2
            clear hq2
            obtain ⟨s, hs, h4⟩ := Option.bind_eq_some_iff.mp h3
            have HS := Aside0.mk hs
            clear h3 hs
            by_cases hst : s = true
            · subst hst
              rw [if_pos rfl] at h4
              simp only [Option.some.injEq, Prod.mk.injEq] at h4
              obtain ⟨rfl, rfl, rfl, rfl, rfl⟩ := h4
              go_enter Try.func30, Try.ntmps30
              go_wp2_with (first
                | ((with_reducible refine gate_dst (N := 2) rfl ?_); refine box_event ?hg (N := 2) ?hd (cs := #[.int .i64 0, .int .i64 0, .int .i64 0, .int .i64 0]) (t := 52) ?hr ?_; (case hd => rfl); (case hg => rfl); (case hr => first | (go_simp; done) | (go_simp; rfl)); intro gb hg w1 hbox hb; have n0_ := Aside0.mk (below_step (w2 := w1) (by repeat (first | (with_reducible first | exact HB.out | apply below_alloc | apply pw_below_drewN | apply below_drew1) | exact HB.out)) hb); have BKb := Aside0.mk hbox; have GE := Aside0.mk (show w.heap.size ≤ gb by rw [hg]; exact Nat.le_refl _); clear HB; have HB := n0_; clear n0_ hb hbox hg; have hcb0 : w1.cell? ⟨gb, 0, none⟩ = some (.int .i64 0) := (blk_cell BKb.out 0).trans rfl; have hfb0 := blk_frozen BKb.out 0; have hcb1 : w1.cell? ⟨gb, 1, none⟩ = some (.int .i64 0) := (blk_cell BKb.out 1).trans rfl; have hfb1 := blk_frozen BKb.out 1; have hcb2 : w1.cell? ⟨gb, 2, none⟩ = some (.int .i64 0) := (blk_cell BKb.out 2).trans rfl; have hfb2 := blk_frozen BKb.out 2; have hcb3 : w1.cell? ⟨gb, 3, none⟩ = some (.int .i64 0) := (blk_cell BKb.out 3).trans rfl; have hfb3 := blk_frozen BKb.out 3; obtain ⟨ii, hii, _, hsz, _⟩ := info_parts info5; obtain ⟨hcut, hA, hC⟩ := print_take_of (P := Try.prog) (Value.int .u8) 0 26 5 .i64 Try.underlying26 hii hsz A0 c0 l0 4 (by omega) (of_decide_eq_true h4b) HC0.out; have HR4 := Aside0.mk (Kd.C_of_reads (h1 := fun _ => rfl) (hA _ (Kd.reads_of_C HR0.out))); clear hA hC hii hsz; have hcv := Kd.C_string (P := Try.prog) (A := A0) (c := c0) Try.underlying26 Try.underlying5 Try.underlying9 (Kd.C_below HR4.out HB.out); have hcvs := hcv; simp only [Int.reduceToNat, List.length_take] at hcvs)
                | (go_at_call 54; clear hcb0 hfb0 hcb1 hfb1 hcb2 hfb2 hcb3 hfb3; refine (word_Sealed.calls k A0 c0 l0 true _ (Kd.C_below HR0.out (by repeat (first | exact HB.out | apply pw_below_drewN | apply below_drew1))) HC0.out HSE.out).mono ?_; rintro e w2 ⟨rfl, hb⟩; have n0_ := Aside0.mk (blk_below (w1 := w2) (by (with_reducible repeat (first | refine blk_drewN ?_ _ | refine blk_drew ?_ | refine blk_alloc ?_ _)); exact BKb.out) hb); clear BKb; have BKb := n0_; clear n0_; have n0_ := Aside0.mk (below_step (w2 := w2) (by repeat (first | (with_reducible first | exact HB.out | apply below_alloc | apply pw_below_drewN | apply below_drew1) | exact HB.out)) hb); clear HB; have HB := n0_; clear n0_; clear hb HSE hcv hcvs; have hcb0 : w2.cell? ⟨gb, 0, none⟩ = some (.int .i64 0) := (blk_cell BKb.out 0).trans rfl; have hfb0 := blk_frozen BKb.out 0; have hcb1 : w2.cell? ⟨gb, 1, none⟩ = some (.int .i64 0) := (blk_cell BKb.out 1).trans rfl; have hfb1 := blk_frozen BKb.out 1; have hcb2 : w2.cell? ⟨gb, 2, none⟩ = some (.int .i64 0) := (blk_cell BKb.out 2).trans rfl; have hfb2 := blk_frozen BKb.out 2; have hcb3 : w2.cell? ⟨gb, 3, none⟩ = some (.int .i64 0) := (blk_cell BKb.out 3).trans rfl; have hfb3 := blk_frozen BKb.out 3)
                | (go_at_call 43; clear hcb0 hfb0 hcb1 hfb1 hcb2 hfb2 hcb3 hfb3; refine (Rd.Over_call A0 c0 l0 _ (Kd.C_below HR0.out (by repeat (first | exact HB.out | apply pw_below_drewN | apply below_drew1))) (by have := HLEN.out; omega)).mono ?_; rintro e w3 ⟨wi, g, rfl, hI, hb1, hs1, hg, _⟩; have HI2 := Aside0.mk hI; have n0_ := Aside0.mk (below_then (w2 := wi) (by repeat (first | exact HB.out | apply pw_below_drewN | apply below_drew1)) (Nat.le_trans GE.out (Nat.le_of_lt (blk_lt BKb.out))) hb1); have n1_ := Aside0.mk (blk_below (w1 := wi) (by (with_reducible repeat (first | refine blk_drewN ?_ _ | refine blk_drew ?_)); exact BKb.out) hb1); clear HB BKb; have HB := n0_; have BKi := n1_; clear hI hb1 hs1 hg n0_ n1_)
                | (have n_ := HS4.out; clear n_; go_at_call 55; refine (Rd.Skip_ok wi g l0 0 4 _ (by repeat (first | (with_reducible exact HI2.out) | (with_reducible refine Rd.IsRd.drewN_ ?_ _) | (with_reducible refine Rd.IsRd.drew_ ?_) | refine Rd.IsRd.set_ ?_ _ _ _ (Nat.le_trans HI2.out.le_ (Nat.le_of_lt GG.out)) (Nat.ne_of_gt GG.out))) (by have := HLEN.out; omega) (by omega) (by omega) (by have := HLEN.out; omega)).mono ?_; rintro e w4 ⟨rfl, hI, _⟩; rw [HS4.out] at hI; clear HS4; have HI3 := Aside0.mk hI; clear hI)
                | (have n_ := HT4.out; clear n_; go_at_call 44; refine (Rd.Take_ok wi g l0 4 1 _ (by repeat (first | (with_reducible exact HI3.out) | (with_reducible refine Rd.IsRd.drewN_ ?_ _) | (with_reducible refine Rd.IsRd.drew_ ?_) | refine Rd.IsRd.set_ ?_ _ _ _ (Nat.le_trans HI2.out.le_ (Nat.le_of_lt GG.out)) (Nat.ne_of_gt GG.out))) (by have := HLEN.out; omega) HWF.out (by omega) (by omega) (by omega) (by have := HLEN.out; omega)).mono ?_; rintro e w5 ⟨he, hI, _⟩; rw [HT4.out] at hI; rw [HG.out] at he; subst he; clear HT4; have HI4 := Aside0.mk hI; clear hI)
                | (have n_ := HT5.out; clear n_; go_at_call 44; refine (Rd.Take_ok wi g l0 5 1 _ (by repeat (first | (with_reducible exact HI4.out) | (with_reducible refine Rd.IsRd.drewN_ ?_ _) | (with_reducible refine Rd.IsRd.drew_ ?_) | refine Rd.IsRd.set_ ?_ _ _ _ (Nat.le_trans HI2.out.le_ (Nat.le_of_lt GG.out)) (Nat.ne_of_gt GG.out))) (by have := HLEN.out; omega) HWF.out (by omega) (by omega) (by omega) (by have := HLEN.out; omega)).mono ?_; rintro e w6 ⟨he, hI, _⟩; rw [HT5.out] at hI; rw [HBL.out] at he; subst he; clear HT5; have HI5 := Aside0.mk hI; clear hI)
                | (have n_ := HT6.out; clear n_; go_at_call 44; refine (Rd.Take_ok wi g l0 6 1 _ (by repeat (first | (with_reducible exact HI5.out) | (with_reducible refine Rd.IsRd.drewN_ ?_ _) | (with_reducible refine Rd.IsRd.drew_ ?_) | refine Rd.IsRd.set_ ?_ _ _ _ (Nat.le_trans HI2.out.le_ (Nat.le_of_lt GG.out)) (Nat.ne_of_gt GG.out))) (by have := HLEN.out; omega) HWF.out (by omega) (by omega) (by omega) (by have := HLEN.out; omega)).mono ?_; rintro e w7 ⟨he, hI, _⟩; rw [HT6.out] at hI; rw [HIN.out] at he; subst he; clear HT6; have HI6 := Aside0.mk hI; clear hI)
                | ((with_reducible refine gate_dst (N := 5) rfl ?_); refine box_event ?hg (N := 5) ?hd (cs := #[.int .i64 0, .int .i64 0, .int .i64 0, .int .i64 0]) (t := 52) ?hr ?_; (case hd => rfl); (case hg => rfl); (case hr => first | (go_simp; done) | (go_simp; rfl)); intro ge hge w8 hbox hb; have GG := Aside0.mk (show g < ge by rw [hge]; exact HI6.out.lt); have HI7 := Aside0.mk (Rd.IsRd.below (W1 := w8) (by repeat (first | exact HI6.out | refine Rd.IsRd.drewN_ ?_ _ | refine Rd.IsRd.drew_ ?_)) hb); have BKe := Aside0.mk hbox; clear hb hbox hge; have hce0 : w8.cell? ⟨ge, 0, none⟩ = some (.int .i64 0) := (blk_cell BKe.out 0).trans rfl; have hfe0 := blk_frozen BKe.out 0; have hce1 : w8.cell? ⟨ge, 1, none⟩ = some (.int .i64 0) := (blk_cell BKe.out 1).trans rfl; have hfe1 := blk_frozen BKe.out 1; have hce2 : w8.cell? ⟨ge, 2, none⟩ = some (.int .i64 0) := (blk_cell BKe.out 2).trans rfl; have hfe2 := blk_frozen BKe.out 2; have hce3 : w8.cell? ⟨ge, 3, none⟩ = some (.int .i64 0) := (blk_cell BKe.out 3).trans rfl; have hfe3 := blk_frozen BKe.out 3)
                | (have n_ := HS7.out; clear n_; go_at_call 55; clear hce0 hfe0 hce1 hfe1 hce2 hfe2 hce3 hfe3; refine (Rd.Skip_blk wi g l0 7 1 _ ge (.cells #[.int .i64 tG, .int .i64 (wrap64 (tB + 1)), .int .i64 tI, .int .i64 0] 52 (0, 0)) (by repeat (first | (with_reducible exact HI7.out) | (with_reducible refine Rd.IsRd.drewN_ ?_ _) | (with_reducible refine Rd.IsRd.drew_ ?_) | refine Rd.IsRd.set_ ?_ _ _ _ (Nat.le_trans HI2.out.le_ (Nat.le_of_lt GG.out)) (Nat.ne_of_gt GG.out))) (by have := HLEN.out; omega) (by omega) (by omega) (by have := HLEN.out; omega) (by (with_reducible repeat (first | refine blk_drewN ?_ _ | refine blk_drew ?_ | refine blk_alloc ?_ _)); refine blk_put (cs := #[.int .i64 tG, .int .i64 (wrap64 (tB + 1)), .int .i64 tI, .int .i64 0]) ?_ 3 _ rfl; (with_reducible repeat (first | refine blk_drewN ?_ _ | refine blk_drew ?_ | refine blk_alloc ?_ _)); refine blk_put (cs := #[.int .i64 tG, .int .i64 (wrap64 (tB + 1)), .int .i64 0, .int .i64 0]) ?_ 2 _ rfl; (with_reducible repeat (first | refine blk_drewN ?_ _ | refine blk_drew ?_ | refine blk_alloc ?_ _)); refine blk_put (cs := #[.int .i64 tG, .int .i64 0, .int .i64 0, .int .i64 0]) ?_ 1 _ rfl; (with_reducible repeat (first | refine blk_drewN ?_ _ | refine blk_drew ?_ | refine blk_alloc ?_ _)); refine blk_put (cs := #[.int .i64 0, .int .i64 0, .int .i64 0, .int .i64 0]) ?_ 0 _ rfl; (with_reducible repeat (first | refine blk_drewN ?_ _ | refine blk_drew ?_ | refine blk_alloc ?_ _)); exact BKe.out) (Nat.ne_of_gt GG.out)).mono ?_; rintro e w9 ⟨rfl, hI, hb⟩; rw [HS7.out] at hI; clear HS7; have HI8 := Aside0.mk hI; clear BKe; have BKe := Aside0.mk hb; clear hI hb)
                | (have n_ := HT8.out; clear n_; go_at_call 44; refine (Rd.Take_blk wi g l0 8 4 _ ge (.cells #[.int .i64 tG, .int .i64 (wrap64 (tB + 1)), .int .i64 tI, .int .i64 0] 52 (0, 0)) (by repeat (first | (with_reducible exact HI8.out) | (with_reducible refine Rd.IsRd.drewN_ ?_ _) | (with_reducible refine Rd.IsRd.drew_ ?_) | refine Rd.IsRd.set_ ?_ _ _ _ (Nat.le_trans HI2.out.le_ (Nat.le_of_lt GG.out)) (Nat.ne_of_gt GG.out))) (by have := HLEN.out; omega) HWF.out (by omega) (by omega) (by omega) (by have := HLEN.out; omega) (by (with_reducible repeat (first | refine blk_drewN ?_ _ | refine blk_drew ?_ | refine blk_alloc ?_ _)); exact BKe.out) (Nat.ne_of_gt GG.out)).mono ?_; rintro e w10 ⟨he, hI, hb⟩; rw [HT8.out] at hI; rw [HM.out] at he; subst he; clear HT8; have HI9 := Aside0.mk hI; clear BKe; have BKe := Aside0.mk hb; clear hI hb; have hce0 : w10.cell? ⟨ge, 0, none⟩ = some (.int .i64 tG) := (blk_cell BKe.out 0).trans rfl; have hfe0 := blk_frozen BKe.out 0; have hce1 : w10.cell? ⟨ge, 1, none⟩ = some (.int .i64 (wrap64 (tB + 1))) := (blk_cell BKe.out 1).trans rfl; have hfe1 := blk_frozen BKe.out 1; have hce2 : w10.cell? ⟨ge, 2, none⟩ = some (.int .i64 tI) := (blk_cell BKe.out 2).trans rfl; have hfe2 := blk_frozen BKe.out 2; have hce3 : w10.cell? ⟨ge, 3, none⟩ = some (.int .i64 0) := (blk_cell BKe.out 3).trans rfl; have hfe3 := blk_frozen BKe.out 3)
                | (go_at_call 28; clear hce0 hfe0 hce1 hfe1 hce2 hfe2 hce3 hfe3; refine (layout_EncodeSuper.calls k tG (wrap64 (tB + 1)) tI tM q1 q2 _ HQ.out).mono ?_; rintro e w11 ⟨v0, rfl, hr, hb⟩; have HR7 := Aside0.mk hr; have HI10 := Aside0.mk (Rd.IsRd.below (w0 := wi) (g := g) (l := l0) (p := 12) (e := 0) (W1 := w11) (by repeat (first | (with_reducible exact HI9.out) | (with_reducible refine Rd.IsRd.drewN_ ?_ _) | (with_reducible refine Rd.IsRd.drew_ ?_) | refine Rd.IsRd.set_ ?_ _ _ _ (Nat.le_trans HI2.out.le_ (Nat.le_of_lt GG.out)) (Nat.ne_of_gt GG.out))) hb); have n0_ := Aside0.mk (blk_below (w1 := w11) (o := .cells #[.int .i64 tG, .int .i64 (wrap64 (tB + 1)), .int .i64 tI, .int .i64 tM] 52 (0, 0)) (by (with_reducible repeat (first | refine blk_drewN ?_ _ | refine blk_drew ?_ | refine blk_alloc ?_ _)); refine blk_put (cs := #[.int .i64 tG, .int .i64 (wrap64 (tB + 1)), .int .i64 tI, .int .i64 0]) ?_ 3 _ rfl; (with_reducible repeat (first | refine blk_drewN ?_ _ | refine blk_drew ?_ | refine blk_alloc ?_ _)); exact BKe.out) hb); clear BKe; have BKe := n0_; clear n0_; clear hr hb; obtain ⟨A7, c7, e7⟩ := Kd.R_slice HR7.out; subst e7; have BKb := Aside0.mk (HI10.out.old BKi.out); have n0_ := Aside0.mk (below_then (w2 := w11) HB.out (Nat.le_trans GE.out (Nat.le_of_lt (blk_lt BKi.out))) HI10.out.bel); clear HB; have HB := n0_; clear n0_; have hce0 : w11.cell? ⟨ge, 0, none⟩ = some (.int .i64 tG) := (blk_cell BKe.out 0).trans rfl; have hfe0 := blk_frozen BKe.out 0; have hce1 : w11.cell? ⟨ge, 1, none⟩ = some (.int .i64 (wrap64 (tB + 1))) := (blk_cell BKe.out 1).trans rfl; have hfe1 := blk_frozen BKe.out 1; have hce2 : w11.cell? ⟨ge, 2, none⟩ = some (.int .i64 tI) := (blk_cell BKe.out 2).trans rfl; have hfe2 := blk_frozen BKe.out 2; have hce3 : w11.cell? ⟨ge, 3, none⟩ = some (.int .i64 tM) := (blk_cell BKe.out 3).trans rfl; have hfe3 := blk_frozen BKe.out 3; have hcb0 : w11.cell? ⟨gb, 0, none⟩ = some (.int .i64 0) := (blk_cell BKb.out 0).trans rfl; have hfb0 := blk_frozen BKb.out 0; have hcb1 : w11.cell? ⟨gb, 1, none⟩ = some (.int .i64 0) := (blk_cell BKb.out 1).trans rfl; have hfb1 := blk_frozen BKb.out 1; have hcb2 : w11.cell? ⟨gb, 2, none⟩ = some (.int .i64 0) := (blk_cell BKb.out 2).trans rfl; have hfb2 := blk_frozen BKb.out 2; have hcb3 : w11.cell? ⟨gb, 3, none⟩ = some (.int .i64 0) := (blk_cell BKb.out 3).trans rfl; have hfb3 := blk_frozen BKb.out 3)
                | (go_at_call 38; refine (layout_same.calls A7 c7 q1 A0 c0 l0 true _ (by repeat (first | exact (Kd.R_reads' HR7.out).2.2 | refine Kd.C_drewN ?_ _ | refine Kd.C_drew ?_)) (Kd.R_reads' HR7.out).2.1 (by repeat (first | exact Kd.C_below HR0.out HB.out | refine Kd.C_drewN ?_ _ | refine Kd.C_drew ?_)) HC0.out HS.out).mono ?_; rintro e w12 ⟨rfl, m9, rfl⟩))
              refine bodyPost_ret (results_ct rfl _ _ gb 52 #[.int .i64 tG, .int .i64 (wrap64 (tB + 1)), .int .i64 tI, .int .i64 tM] (0, 0) _ rfl (by (with_reducible repeat (first | refine blk_drewN ?_ _ | refine blk_drew ?_ | refine blk_alloc ?_ _)); refine blk_put (cs := #[.int .i64 tG, .int .i64 (wrap64 (tB + 1)), .int .i64 tI, .int .i64 0]) ?_ 3 _ rfl; (with_reducible repeat (first | refine blk_drewN ?_ _ | refine blk_drew ?_ | refine blk_alloc ?_ _)); refine blk_put (cs := #[.int .i64 tG, .int .i64 (wrap64 (tB + 1)), .int .i64 0, .int .i64 0]) ?_ 2 _ rfl; (with_reducible repeat (first | refine blk_drewN ?_ _ | refine blk_drew ?_ | refine blk_alloc ?_ _)); refine blk_put (cs := #[.int .i64 tG, .int .i64 0, .int .i64 0, .int .i64 0]) ?_ 1 _ rfl; (with_reducible repeat (first | refine blk_drewN ?_ _ | refine blk_drew ?_ | refine blk_alloc ?_ _)); refine blk_put (cs := #[.int .i64 0, .int .i64 0, .int .i64 0, .int .i64 0]) ?_ 0 _ rfl; (with_reducible repeat (first | refine blk_drewN ?_ _ | refine blk_drew ?_ | refine blk_alloc ?_ _)); exact BKb.out) hu52 rfl (by kernel_rfl)) rfl ?_
              exact ⟨rfl, by repeat (first | (with_reducible first | exact HB.out | apply below_alloc | apply pw_below_drewN | apply below_drew1 | refine below_set ?_ GE.out) | exact HB.out)⟩
            · obtain rfl : s = false := by cases s; rfl; exact absurd rfl hst
              rw [if_neg (by decide)] at h4
              simp only [Option.some.injEq, Prod.mk.injEq] at h4
              obtain ⟨rfl, rfl, rfl, rfl, rfl⟩ := h4
              go_enter Try.func30, Try.ntmps30
              go_wp2_with (first
                | ((with_reducible refine gate_dst (N := 2) rfl ?_); refine box_event ?hg (N := 2) ?hd (cs := #[.int .i64 0, .int .i64 0, .int .i64 0, .int .i64 0]) (t := 52) ?hr ?_; (case hd => rfl); (case hg => rfl); (case hr => first | (go_simp; done) | (go_simp; rfl)); intro gb hg w1 hbox hb; have n0_ := Aside0.mk (below_step (w2 := w1) (by repeat (first | (with_reducible first | exact HB.out | apply below_alloc | apply pw_below_drewN | apply below_drew1) | exact HB.out)) hb); have BKb := Aside0.mk hbox; have GE := Aside0.mk (show w.heap.size ≤ gb by rw [hg]; exact Nat.le_refl _); clear HB; have HB := n0_; clear n0_ hb hbox hg; have hcb0 : w1.cell? ⟨gb, 0, none⟩ = some (.int .i64 0) := (blk_cell BKb.out 0).trans rfl; have hfb0 := blk_frozen BKb.out 0; have hcb1 : w1.cell? ⟨gb, 1, none⟩ = some (.int .i64 0) := (blk_cell BKb.out 1).trans rfl; have hfb1 := blk_frozen BKb.out 1; have hcb2 : w1.cell? ⟨gb, 2, none⟩ = some (.int .i64 0) := (blk_cell BKb.out 2).trans rfl; have hfb2 := blk_frozen BKb.out 2; have hcb3 : w1.cell? ⟨gb, 3, none⟩ = some (.int .i64 0) := (blk_cell BKb.out 3).trans rfl; have hfb3 := blk_frozen BKb.out 3; obtain ⟨ii, hii, _, hsz, _⟩ := info_parts info5; obtain ⟨hcut, hA, hC⟩ := print_take_of (P := Try.prog) (Value.int .u8) 0 26 5 .i64 Try.underlying26 hii hsz A0 c0 l0 4 (by omega) (of_decide_eq_true h4b) HC0.out; have HR4 := Aside0.mk (Kd.C_of_reads (h1 := fun _ => rfl) (hA _ (Kd.reads_of_C HR0.out))); clear hA hC hii hsz; have hcv := Kd.C_string (P := Try.prog) (A := A0) (c := c0) Try.underlying26 Try.underlying5 Try.underlying9 (Kd.C_below HR4.out HB.out); have hcvs := hcv; simp only [Int.reduceToNat, List.length_take] at hcvs)
                | (go_at_call 54; clear hcb0 hfb0 hcb1 hfb1 hcb2 hfb2 hcb3 hfb3; refine (word_Sealed.calls k A0 c0 l0 true _ (Kd.C_below HR0.out (by repeat (first | exact HB.out | apply pw_below_drewN | apply below_drew1))) HC0.out HSE.out).mono ?_; rintro e w2 ⟨rfl, hb⟩; have n0_ := Aside0.mk (blk_below (w1 := w2) (by (with_reducible repeat (first | refine blk_drewN ?_ _ | refine blk_drew ?_ | refine blk_alloc ?_ _)); exact BKb.out) hb); clear BKb; have BKb := n0_; clear n0_; have n0_ := Aside0.mk (below_step (w2 := w2) (by repeat (first | (with_reducible first | exact HB.out | apply below_alloc | apply pw_below_drewN | apply below_drew1) | exact HB.out)) hb); clear HB; have HB := n0_; clear n0_; clear hb HSE hcv hcvs; have hcb0 : w2.cell? ⟨gb, 0, none⟩ = some (.int .i64 0) := (blk_cell BKb.out 0).trans rfl; have hfb0 := blk_frozen BKb.out 0; have hcb1 : w2.cell? ⟨gb, 1, none⟩ = some (.int .i64 0) := (blk_cell BKb.out 1).trans rfl; have hfb1 := blk_frozen BKb.out 1; have hcb2 : w2.cell? ⟨gb, 2, none⟩ = some (.int .i64 0) := (blk_cell BKb.out 2).trans rfl; have hfb2 := blk_frozen BKb.out 2; have hcb3 : w2.cell? ⟨gb, 3, none⟩ = some (.int .i64 0) := (blk_cell BKb.out 3).trans rfl; have hfb3 := blk_frozen BKb.out 3)
                | (go_at_call 43; clear hcb0 hfb0 hcb1 hfb1 hcb2 hfb2 hcb3 hfb3; refine (Rd.Over_call A0 c0 l0 _ (Kd.C_below HR0.out (by repeat (first | exact HB.out | apply pw_below_drewN | apply below_drew1))) (by have := HLEN.out; omega)).mono ?_; rintro e w3 ⟨wi, g, rfl, hI, hb1, hs1, hg, _⟩; have HI2 := Aside0.mk hI; have n0_ := Aside0.mk (below_then (w2 := wi) (by repeat (first | exact HB.out | apply pw_below_drewN | apply below_drew1)) (Nat.le_trans GE.out (Nat.le_of_lt (blk_lt BKb.out))) hb1); have n1_ := Aside0.mk (blk_below (w1 := wi) (by (with_reducible repeat (first | refine blk_drewN ?_ _ | refine blk_drew ?_)); exact BKb.out) hb1); clear HB BKb; have HB := n0_; have BKi := n1_; clear hI hb1 hs1 hg n0_ n1_)
                | (have n_ := HS4.out; clear n_; go_at_call 55; refine (Rd.Skip_ok wi g l0 0 4 _ (by repeat (first | (with_reducible exact HI2.out) | (with_reducible refine Rd.IsRd.drewN_ ?_ _) | (with_reducible refine Rd.IsRd.drew_ ?_) | refine Rd.IsRd.set_ ?_ _ _ _ (Nat.le_trans HI2.out.le_ (Nat.le_of_lt GG.out)) (Nat.ne_of_gt GG.out))) (by have := HLEN.out; omega) (by omega) (by omega) (by have := HLEN.out; omega)).mono ?_; rintro e w4 ⟨rfl, hI, _⟩; rw [HS4.out] at hI; clear HS4; have HI3 := Aside0.mk hI; clear hI)
                | (have n_ := HT4.out; clear n_; go_at_call 44; refine (Rd.Take_ok wi g l0 4 1 _ (by repeat (first | (with_reducible exact HI3.out) | (with_reducible refine Rd.IsRd.drewN_ ?_ _) | (with_reducible refine Rd.IsRd.drew_ ?_) | refine Rd.IsRd.set_ ?_ _ _ _ (Nat.le_trans HI2.out.le_ (Nat.le_of_lt GG.out)) (Nat.ne_of_gt GG.out))) (by have := HLEN.out; omega) HWF.out (by omega) (by omega) (by omega) (by have := HLEN.out; omega)).mono ?_; rintro e w5 ⟨he, hI, _⟩; rw [HT4.out] at hI; rw [HG.out] at he; subst he; clear HT4; have HI4 := Aside0.mk hI; clear hI)
                | (have n_ := HT5.out; clear n_; go_at_call 44; refine (Rd.Take_ok wi g l0 5 1 _ (by repeat (first | (with_reducible exact HI4.out) | (with_reducible refine Rd.IsRd.drewN_ ?_ _) | (with_reducible refine Rd.IsRd.drew_ ?_) | refine Rd.IsRd.set_ ?_ _ _ _ (Nat.le_trans HI2.out.le_ (Nat.le_of_lt GG.out)) (Nat.ne_of_gt GG.out))) (by have := HLEN.out; omega) HWF.out (by omega) (by omega) (by omega) (by have := HLEN.out; omega)).mono ?_; rintro e w6 ⟨he, hI, _⟩; rw [HT5.out] at hI; rw [HBL.out] at he; subst he; clear HT5; have HI5 := Aside0.mk hI; clear hI)
                | (have n_ := HT6.out; clear n_; go_at_call 44; refine (Rd.Take_ok wi g l0 6 1 _ (by repeat (first | (with_reducible exact HI5.out) | (with_reducible refine Rd.IsRd.drewN_ ?_ _) | (with_reducible refine Rd.IsRd.drew_ ?_) | refine Rd.IsRd.set_ ?_ _ _ _ (Nat.le_trans HI2.out.le_ (Nat.le_of_lt GG.out)) (Nat.ne_of_gt GG.out))) (by have := HLEN.out; omega) HWF.out (by omega) (by omega) (by omega) (by have := HLEN.out; omega)).mono ?_; rintro e w7 ⟨he, hI, _⟩; rw [HT6.out] at hI; rw [HIN.out] at he; subst he; clear HT6; have HI6 := Aside0.mk hI; clear hI)
                | ((with_reducible refine gate_dst (N := 5) rfl ?_); refine box_event ?hg (N := 5) ?hd (cs := #[.int .i64 0, .int .i64 0, .int .i64 0, .int .i64 0]) (t := 52) ?hr ?_; (case hd => rfl); (case hg => rfl); (case hr => first | (go_simp; done) | (go_simp; rfl)); intro ge hge w8 hbox hb; have GG := Aside0.mk (show g < ge by rw [hge]; exact HI6.out.lt); have HI7 := Aside0.mk (Rd.IsRd.below (W1 := w8) (by repeat (first | exact HI6.out | refine Rd.IsRd.drewN_ ?_ _ | refine Rd.IsRd.drew_ ?_)) hb); have BKe := Aside0.mk hbox; clear hb hbox hge; have hce0 : w8.cell? ⟨ge, 0, none⟩ = some (.int .i64 0) := (blk_cell BKe.out 0).trans rfl; have hfe0 := blk_frozen BKe.out 0; have hce1 : w8.cell? ⟨ge, 1, none⟩ = some (.int .i64 0) := (blk_cell BKe.out 1).trans rfl; have hfe1 := blk_frozen BKe.out 1; have hce2 : w8.cell? ⟨ge, 2, none⟩ = some (.int .i64 0) := (blk_cell BKe.out 2).trans rfl; have hfe2 := blk_frozen BKe.out 2; have hce3 : w8.cell? ⟨ge, 3, none⟩ = some (.int .i64 0) := (blk_cell BKe.out 3).trans rfl; have hfe3 := blk_frozen BKe.out 3)
                | (have n_ := HS7.out; clear n_; go_at_call 55; clear hce0 hfe0 hce1 hfe1 hce2 hfe2 hce3 hfe3; refine (Rd.Skip_blk wi g l0 7 1 _ ge (.cells #[.int .i64 tG, .int .i64 (wrap64 (tB + 1)), .int .i64 tI, .int .i64 0] 52 (0, 0)) (by repeat (first | (with_reducible exact HI7.out) | (with_reducible refine Rd.IsRd.drewN_ ?_ _) | (with_reducible refine Rd.IsRd.drew_ ?_) | refine Rd.IsRd.set_ ?_ _ _ _ (Nat.le_trans HI2.out.le_ (Nat.le_of_lt GG.out)) (Nat.ne_of_gt GG.out))) (by have := HLEN.out; omega) (by omega) (by omega) (by have := HLEN.out; omega) (by (with_reducible repeat (first | refine blk_drewN ?_ _ | refine blk_drew ?_ | refine blk_alloc ?_ _)); refine blk_put (cs := #[.int .i64 tG, .int .i64 (wrap64 (tB + 1)), .int .i64 tI, .int .i64 0]) ?_ 3 _ rfl; (with_reducible repeat (first | refine blk_drewN ?_ _ | refine blk_drew ?_ | refine blk_alloc ?_ _)); refine blk_put (cs := #[.int .i64 tG, .int .i64 (wrap64 (tB + 1)), .int .i64 0, .int .i64 0]) ?_ 2 _ rfl; (with_reducible repeat (first | refine blk_drewN ?_ _ | refine blk_drew ?_ | refine blk_alloc ?_ _)); refine blk_put (cs := #[.int .i64 tG, .int .i64 0, .int .i64 0, .int .i64 0]) ?_ 1 _ rfl; (with_reducible repeat (first | refine blk_drewN ?_ _ | refine blk_drew ?_ | refine blk_alloc ?_ _)); refine blk_put (cs := #[.int .i64 0, .int .i64 0, .int .i64 0, .int .i64 0]) ?_ 0 _ rfl; (with_reducible repeat (first | refine blk_drewN ?_ _ | refine blk_drew ?_ | refine blk_alloc ?_ _)); exact BKe.out) (Nat.ne_of_gt GG.out)).mono ?_; rintro e w9 ⟨rfl, hI, hb⟩; rw [HS7.out] at hI; clear HS7; have HI8 := Aside0.mk hI; clear BKe; have BKe := Aside0.mk hb; clear hI hb)
                | (have n_ := HT8.out; clear n_; go_at_call 44; refine (Rd.Take_blk wi g l0 8 4 _ ge (.cells #[.int .i64 tG, .int .i64 (wrap64 (tB + 1)), .int .i64 tI, .int .i64 0] 52 (0, 0)) (by repeat (first | (with_reducible exact HI8.out) | (with_reducible refine Rd.IsRd.drewN_ ?_ _) | (with_reducible refine Rd.IsRd.drew_ ?_) | refine Rd.IsRd.set_ ?_ _ _ _ (Nat.le_trans HI2.out.le_ (Nat.le_of_lt GG.out)) (Nat.ne_of_gt GG.out))) (by have := HLEN.out; omega) HWF.out (by omega) (by omega) (by omega) (by have := HLEN.out; omega) (by (with_reducible repeat (first | refine blk_drewN ?_ _ | refine blk_drew ?_ | refine blk_alloc ?_ _)); exact BKe.out) (Nat.ne_of_gt GG.out)).mono ?_; rintro e w10 ⟨he, hI, hb⟩; rw [HT8.out] at hI; rw [HM.out] at he; subst he; clear HT8; have HI9 := Aside0.mk hI; clear BKe; have BKe := Aside0.mk hb; clear hI hb; have hce0 : w10.cell? ⟨ge, 0, none⟩ = some (.int .i64 tG) := (blk_cell BKe.out 0).trans rfl; have hfe0 := blk_frozen BKe.out 0; have hce1 : w10.cell? ⟨ge, 1, none⟩ = some (.int .i64 (wrap64 (tB + 1))) := (blk_cell BKe.out 1).trans rfl; have hfe1 := blk_frozen BKe.out 1; have hce2 : w10.cell? ⟨ge, 2, none⟩ = some (.int .i64 tI) := (blk_cell BKe.out 2).trans rfl; have hfe2 := blk_frozen BKe.out 2; have hce3 : w10.cell? ⟨ge, 3, none⟩ = some (.int .i64 0) := (blk_cell BKe.out 3).trans rfl; have hfe3 := blk_frozen BKe.out 3)
                | (go_at_call 28; clear hce0 hfe0 hce1 hfe1 hce2 hfe2 hce3 hfe3; refine (layout_EncodeSuper.calls k tG (wrap64 (tB + 1)) tI tM q1 q2 _ HQ.out).mono ?_; rintro e w11 ⟨v0, rfl, hr, hb⟩; have HR7 := Aside0.mk hr; have HI10 := Aside0.mk (Rd.IsRd.below (w0 := wi) (g := g) (l := l0) (p := 12) (e := 0) (W1 := w11) (by repeat (first | (with_reducible exact HI9.out) | (with_reducible refine Rd.IsRd.drewN_ ?_ _) | (with_reducible refine Rd.IsRd.drew_ ?_) | refine Rd.IsRd.set_ ?_ _ _ _ (Nat.le_trans HI2.out.le_ (Nat.le_of_lt GG.out)) (Nat.ne_of_gt GG.out))) hb); have n0_ := Aside0.mk (blk_below (w1 := w11) (o := .cells #[.int .i64 tG, .int .i64 (wrap64 (tB + 1)), .int .i64 tI, .int .i64 tM] 52 (0, 0)) (by (with_reducible repeat (first | refine blk_drewN ?_ _ | refine blk_drew ?_ | refine blk_alloc ?_ _)); refine blk_put (cs := #[.int .i64 tG, .int .i64 (wrap64 (tB + 1)), .int .i64 tI, .int .i64 0]) ?_ 3 _ rfl; (with_reducible repeat (first | refine blk_drewN ?_ _ | refine blk_drew ?_ | refine blk_alloc ?_ _)); exact BKe.out) hb); clear BKe; have BKe := n0_; clear n0_; clear hr hb; obtain ⟨A7, c7, e7⟩ := Kd.R_slice HR7.out; subst e7; have BKb := Aside0.mk (HI10.out.old BKi.out); have n0_ := Aside0.mk (below_then (w2 := w11) HB.out (Nat.le_trans GE.out (Nat.le_of_lt (blk_lt BKi.out))) HI10.out.bel); clear HB; have HB := n0_; clear n0_; have hce0 : w11.cell? ⟨ge, 0, none⟩ = some (.int .i64 tG) := (blk_cell BKe.out 0).trans rfl; have hfe0 := blk_frozen BKe.out 0; have hce1 : w11.cell? ⟨ge, 1, none⟩ = some (.int .i64 (wrap64 (tB + 1))) := (blk_cell BKe.out 1).trans rfl; have hfe1 := blk_frozen BKe.out 1; have hce2 : w11.cell? ⟨ge, 2, none⟩ = some (.int .i64 tI) := (blk_cell BKe.out 2).trans rfl; have hfe2 := blk_frozen BKe.out 2; have hce3 : w11.cell? ⟨ge, 3, none⟩ = some (.int .i64 tM) := (blk_cell BKe.out 3).trans rfl; have hfe3 := blk_frozen BKe.out 3; have hcb0 : w11.cell? ⟨gb, 0, none⟩ = some (.int .i64 0) := (blk_cell BKb.out 0).trans rfl; have hfb0 := blk_frozen BKb.out 0; have hcb1 : w11.cell? ⟨gb, 1, none⟩ = some (.int .i64 0) := (blk_cell BKb.out 1).trans rfl; have hfb1 := blk_frozen BKb.out 1; have hcb2 : w11.cell? ⟨gb, 2, none⟩ = some (.int .i64 0) := (blk_cell BKb.out 2).trans rfl; have hfb2 := blk_frozen BKb.out 2; have hcb3 : w11.cell? ⟨gb, 3, none⟩ = some (.int .i64 0) := (blk_cell BKb.out 3).trans rfl; have hfb3 := blk_frozen BKb.out 3)
                | (go_at_call 38; refine (layout_same.calls A7 c7 q1 A0 c0 l0 false _ (by repeat (first | exact (Kd.R_reads' HR7.out).2.2 | refine Kd.C_drewN ?_ _ | refine Kd.C_drew ?_)) (Kd.R_reads' HR7.out).2.1 (by repeat (first | exact Kd.C_below HR0.out HB.out | refine Kd.C_drewN ?_ _ | refine Kd.C_drew ?_)) HC0.out HS.out).mono ?_; rintro e w12 ⟨rfl, m9, rfl⟩))
              refine bodyPost_ret (results_ct rfl _ _ gb 52 #[.int .i64 0, .int .i64 0, .int .i64 0, .int .i64 0] (0, 0) _ rfl (by (with_reducible repeat (first | refine blk_drewN ?_ _ | refine blk_drew ?_ | refine blk_alloc ?_ _)); refine blk_put (cs := #[.int .i64 0, .int .i64 0, .int .i64 0, .int .i64 0]) ?_ 3 _ rfl; (with_reducible repeat (first | refine blk_drewN ?_ _ | refine blk_drew ?_ | refine blk_alloc ?_ _)); refine blk_put (cs := #[.int .i64 0, .int .i64 0, .int .i64 0, .int .i64 0]) ?_ 2 _ rfl; (with_reducible repeat (first | refine blk_drewN ?_ _ | refine blk_drew ?_ | refine blk_alloc ?_ _)); refine blk_put (cs := #[.int .i64 0, .int .i64 0, .int .i64 0, .int .i64 0]) ?_ 1 _ rfl; (with_reducible repeat (first | refine blk_drewN ?_ _ | refine blk_drew ?_ | refine blk_alloc ?_ _)); refine blk_put (cs := #[.int .i64 0, .int .i64 0, .int .i64 0, .int .i64 0]) ?_ 0 _ rfl; (with_reducible repeat (first | refine blk_drewN ?_ _ | refine blk_drew ?_ | refine blk_alloc ?_ _)); exact BKb.out) hu52 rfl (by kernel_rfl)) rfl ?_
              exact ⟨rfl, by repeat (first | (with_reducible first | exact HB.out | apply below_alloc | apply pw_below_drewN | apply below_drew1 | refine below_set ?_ GE.out) | exact HB.out)⟩
          · rw [if_neg hq2] at h3
            have hqb : (q2 == 0) = false := beq_eq_false_iff_ne.mpr hq2
            have hqc : (q2 != 0) = true := bne_iff_ne.mpr hq2
            clear hq2
            simp only [Option.some.injEq, Prod.mk.injEq] at h3
            obtain ⟨rfl, rfl, rfl, rfl, rfl⟩ := h3
            go_enter Try.func30, Try.ntmps30
            go_wp2_with (first
              | ((with_reducible refine gate_dst (N := 2) rfl ?_); refine box_event ?hg (N := 2) ?hd (cs := #[.int .i64 0, .int .i64 0, .int .i64 0, .int .i64 0]) (t := 52) ?hr ?_; (case hd => rfl); (case hg => rfl); (case hr => first | (go_simp; done) | (go_simp; rfl)); intro gb hg w1 hbox hb; have n0_ := Aside0.mk (below_step (w2 := w1) (by repeat (first | (with_reducible first | exact HB.out | apply below_alloc | apply pw_below_drewN | apply below_drew1) | exact HB.out)) hb); have BKb := Aside0.mk hbox; have GE := Aside0.mk (show w.heap.size ≤ gb by rw [hg]; exact Nat.le_refl _); clear HB; have HB := n0_; clear n0_ hb hbox hg; have hcb0 : w1.cell? ⟨gb, 0, none⟩ = some (.int .i64 0) := (blk_cell BKb.out 0).trans rfl; have hfb0 := blk_frozen BKb.out 0; have hcb1 : w1.cell? ⟨gb, 1, none⟩ = some (.int .i64 0) := (blk_cell BKb.out 1).trans rfl; have hfb1 := blk_frozen BKb.out 1; have hcb2 : w1.cell? ⟨gb, 2, none⟩ = some (.int .i64 0) := (blk_cell BKb.out 2).trans rfl; have hfb2 := blk_frozen BKb.out 2; have hcb3 : w1.cell? ⟨gb, 3, none⟩ = some (.int .i64 0) := (blk_cell BKb.out 3).trans rfl; have hfb3 := blk_frozen BKb.out 3; obtain ⟨ii, hii, _, hsz, _⟩ := info_parts info5; obtain ⟨hcut, hA, hC⟩ := print_take_of (P := Try.prog) (Value.int .u8) 0 26 5 .i64 Try.underlying26 hii hsz A0 c0 l0 4 (by omega) (of_decide_eq_true h4b) HC0.out; have HR4 := Aside0.mk (Kd.C_of_reads (h1 := fun _ => rfl) (hA _ (Kd.reads_of_C HR0.out))); clear hA hC hii hsz; have hcv := Kd.C_string (P := Try.prog) (A := A0) (c := c0) Try.underlying26 Try.underlying5 Try.underlying9 (Kd.C_below HR4.out HB.out); have hcvs := hcv; simp only [Int.reduceToNat, List.length_take] at hcvs)
              | (go_at_call 54; clear hcb0 hfb0 hcb1 hfb1 hcb2 hfb2 hcb3 hfb3; refine (word_Sealed.calls k A0 c0 l0 true _ (Kd.C_below HR0.out (by repeat (first | exact HB.out | apply pw_below_drewN | apply below_drew1))) HC0.out HSE.out).mono ?_; rintro e w2 ⟨rfl, hb⟩; have n0_ := Aside0.mk (blk_below (w1 := w2) (by (with_reducible repeat (first | refine blk_drewN ?_ _ | refine blk_drew ?_ | refine blk_alloc ?_ _)); exact BKb.out) hb); clear BKb; have BKb := n0_; clear n0_; have n0_ := Aside0.mk (below_step (w2 := w2) (by repeat (first | (with_reducible first | exact HB.out | apply below_alloc | apply pw_below_drewN | apply below_drew1) | exact HB.out)) hb); clear HB; have HB := n0_; clear n0_; clear hb HSE hcv hcvs; have hcb0 : w2.cell? ⟨gb, 0, none⟩ = some (.int .i64 0) := (blk_cell BKb.out 0).trans rfl; have hfb0 := blk_frozen BKb.out 0; have hcb1 : w2.cell? ⟨gb, 1, none⟩ = some (.int .i64 0) := (blk_cell BKb.out 1).trans rfl; have hfb1 := blk_frozen BKb.out 1; have hcb2 : w2.cell? ⟨gb, 2, none⟩ = some (.int .i64 0) := (blk_cell BKb.out 2).trans rfl; have hfb2 := blk_frozen BKb.out 2; have hcb3 : w2.cell? ⟨gb, 3, none⟩ = some (.int .i64 0) := (blk_cell BKb.out 3).trans rfl; have hfb3 := blk_frozen BKb.out 3)
              | (go_at_call 43; clear hcb0 hfb0 hcb1 hfb1 hcb2 hfb2 hcb3 hfb3; refine (Rd.Over_call A0 c0 l0 _ (Kd.C_below HR0.out (by repeat (first | exact HB.out | apply pw_below_drewN | apply below_drew1))) (by have := HLEN.out; omega)).mono ?_; rintro e w3 ⟨wi, g, rfl, hI, hb1, hs1, hg, _⟩; have HI2 := Aside0.mk hI; have n0_ := Aside0.mk (below_then (w2 := wi) (by repeat (first | exact HB.out | apply pw_below_drewN | apply below_drew1)) (Nat.le_trans GE.out (Nat.le_of_lt (blk_lt BKb.out))) hb1); have n1_ := Aside0.mk (blk_below (w1 := wi) (by (with_reducible repeat (first | refine blk_drewN ?_ _ | refine blk_drew ?_)); exact BKb.out) hb1); clear HB BKb; have HB := n0_; have BKi := n1_; clear hI hb1 hs1 hg n0_ n1_)
              | (have n_ := HS4.out; clear n_; go_at_call 55; refine (Rd.Skip_ok wi g l0 0 4 _ (by repeat (first | (with_reducible exact HI2.out) | (with_reducible refine Rd.IsRd.drewN_ ?_ _) | (with_reducible refine Rd.IsRd.drew_ ?_) | refine Rd.IsRd.set_ ?_ _ _ _ (Nat.le_trans HI2.out.le_ (Nat.le_of_lt GG.out)) (Nat.ne_of_gt GG.out))) (by have := HLEN.out; omega) (by omega) (by omega) (by have := HLEN.out; omega)).mono ?_; rintro e w4 ⟨rfl, hI, _⟩; rw [HS4.out] at hI; clear HS4; have HI3 := Aside0.mk hI; clear hI)
              | (have n_ := HT4.out; clear n_; go_at_call 44; refine (Rd.Take_ok wi g l0 4 1 _ (by repeat (first | (with_reducible exact HI3.out) | (with_reducible refine Rd.IsRd.drewN_ ?_ _) | (with_reducible refine Rd.IsRd.drew_ ?_) | refine Rd.IsRd.set_ ?_ _ _ _ (Nat.le_trans HI2.out.le_ (Nat.le_of_lt GG.out)) (Nat.ne_of_gt GG.out))) (by have := HLEN.out; omega) HWF.out (by omega) (by omega) (by omega) (by have := HLEN.out; omega)).mono ?_; rintro e w5 ⟨he, hI, _⟩; rw [HT4.out] at hI; rw [HG.out] at he; subst he; clear HT4; have HI4 := Aside0.mk hI; clear hI)
              | (have n_ := HT5.out; clear n_; go_at_call 44; refine (Rd.Take_ok wi g l0 5 1 _ (by repeat (first | (with_reducible exact HI4.out) | (with_reducible refine Rd.IsRd.drewN_ ?_ _) | (with_reducible refine Rd.IsRd.drew_ ?_) | refine Rd.IsRd.set_ ?_ _ _ _ (Nat.le_trans HI2.out.le_ (Nat.le_of_lt GG.out)) (Nat.ne_of_gt GG.out))) (by have := HLEN.out; omega) HWF.out (by omega) (by omega) (by omega) (by have := HLEN.out; omega)).mono ?_; rintro e w6 ⟨he, hI, _⟩; rw [HT5.out] at hI; rw [HBL.out] at he; subst he; clear HT5; have HI5 := Aside0.mk hI; clear hI)
              | (have n_ := HT6.out; clear n_; go_at_call 44; refine (Rd.Take_ok wi g l0 6 1 _ (by repeat (first | (with_reducible exact HI5.out) | (with_reducible refine Rd.IsRd.drewN_ ?_ _) | (with_reducible refine Rd.IsRd.drew_ ?_) | refine Rd.IsRd.set_ ?_ _ _ _ (Nat.le_trans HI2.out.le_ (Nat.le_of_lt GG.out)) (Nat.ne_of_gt GG.out))) (by have := HLEN.out; omega) HWF.out (by omega) (by omega) (by omega) (by have := HLEN.out; omega)).mono ?_; rintro e w7 ⟨he, hI, _⟩; rw [HT6.out] at hI; rw [HIN.out] at he; subst he; clear HT6; have HI6 := Aside0.mk hI; clear hI)
              | ((with_reducible refine gate_dst (N := 5) rfl ?_); refine box_event ?hg (N := 5) ?hd (cs := #[.int .i64 0, .int .i64 0, .int .i64 0, .int .i64 0]) (t := 52) ?hr ?_; (case hd => rfl); (case hg => rfl); (case hr => first | (go_simp; done) | (go_simp; rfl)); intro ge hge w8 hbox hb; have GG := Aside0.mk (show g < ge by rw [hge]; exact HI6.out.lt); have HI7 := Aside0.mk (Rd.IsRd.below (W1 := w8) (by repeat (first | exact HI6.out | refine Rd.IsRd.drewN_ ?_ _ | refine Rd.IsRd.drew_ ?_)) hb); have BKe := Aside0.mk hbox; clear hb hbox hge; have hce0 : w8.cell? ⟨ge, 0, none⟩ = some (.int .i64 0) := (blk_cell BKe.out 0).trans rfl; have hfe0 := blk_frozen BKe.out 0; have hce1 : w8.cell? ⟨ge, 1, none⟩ = some (.int .i64 0) := (blk_cell BKe.out 1).trans rfl; have hfe1 := blk_frozen BKe.out 1; have hce2 : w8.cell? ⟨ge, 2, none⟩ = some (.int .i64 0) := (blk_cell BKe.out 2).trans rfl; have hfe2 := blk_frozen BKe.out 2; have hce3 : w8.cell? ⟨ge, 3, none⟩ = some (.int .i64 0) := (blk_cell BKe.out 3).trans rfl; have hfe3 := blk_frozen BKe.out 3)
              | (have n_ := HS7.out; clear n_; go_at_call 55; clear hce0 hfe0 hce1 hfe1 hce2 hfe2 hce3 hfe3; refine (Rd.Skip_blk wi g l0 7 1 _ ge (.cells #[.int .i64 tG, .int .i64 (wrap64 (tB + 1)), .int .i64 tI, .int .i64 0] 52 (0, 0)) (by repeat (first | (with_reducible exact HI7.out) | (with_reducible refine Rd.IsRd.drewN_ ?_ _) | (with_reducible refine Rd.IsRd.drew_ ?_) | refine Rd.IsRd.set_ ?_ _ _ _ (Nat.le_trans HI2.out.le_ (Nat.le_of_lt GG.out)) (Nat.ne_of_gt GG.out))) (by have := HLEN.out; omega) (by omega) (by omega) (by have := HLEN.out; omega) (by (with_reducible repeat (first | refine blk_drewN ?_ _ | refine blk_drew ?_ | refine blk_alloc ?_ _)); refine blk_put (cs := #[.int .i64 tG, .int .i64 (wrap64 (tB + 1)), .int .i64 tI, .int .i64 0]) ?_ 3 _ rfl; (with_reducible repeat (first | refine blk_drewN ?_ _ | refine blk_drew ?_ | refine blk_alloc ?_ _)); refine blk_put (cs := #[.int .i64 tG, .int .i64 (wrap64 (tB + 1)), .int .i64 0, .int .i64 0]) ?_ 2 _ rfl; (with_reducible repeat (first | refine blk_drewN ?_ _ | refine blk_drew ?_ | refine blk_alloc ?_ _)); refine blk_put (cs := #[.int .i64 tG, .int .i64 0, .int .i64 0, .int .i64 0]) ?_ 1 _ rfl; (with_reducible repeat (first | refine blk_drewN ?_ _ | refine blk_drew ?_ | refine blk_alloc ?_ _)); refine blk_put (cs := #[.int .i64 0, .int .i64 0, .int .i64 0, .int .i64 0]) ?_ 0 _ rfl; (with_reducible repeat (first | refine blk_drewN ?_ _ | refine blk_drew ?_ | refine blk_alloc ?_ _)); exact BKe.out) (Nat.ne_of_gt GG.out)).mono ?_; rintro e w9 ⟨rfl, hI, hb⟩; rw [HS7.out] at hI; clear HS7; have HI8 := Aside0.mk hI; clear BKe; have BKe := Aside0.mk hb; clear hI hb)
              | (have n_ := HT8.out; clear n_; go_at_call 44; refine (Rd.Take_blk wi g l0 8 4 _ ge (.cells #[.int .i64 tG, .int .i64 (wrap64 (tB + 1)), .int .i64 tI, .int .i64 0] 52 (0, 0)) (by repeat (first | (with_reducible exact HI8.out) | (with_reducible refine Rd.IsRd.drewN_ ?_ _) | (with_reducible refine Rd.IsRd.drew_ ?_) | refine Rd.IsRd.set_ ?_ _ _ _ (Nat.le_trans HI2.out.le_ (Nat.le_of_lt GG.out)) (Nat.ne_of_gt GG.out))) (by have := HLEN.out; omega) HWF.out (by omega) (by omega) (by omega) (by have := HLEN.out; omega) (by (with_reducible repeat (first | refine blk_drewN ?_ _ | refine blk_drew ?_ | refine blk_alloc ?_ _)); exact BKe.out) (Nat.ne_of_gt GG.out)).mono ?_; rintro e w10 ⟨he, hI, hb⟩; rw [HT8.out] at hI; rw [HM.out] at he; subst he; clear HT8; have HI9 := Aside0.mk hI; clear BKe; have BKe := Aside0.mk hb; clear hI hb; have hce0 : w10.cell? ⟨ge, 0, none⟩ = some (.int .i64 tG) := (blk_cell BKe.out 0).trans rfl; have hfe0 := blk_frozen BKe.out 0; have hce1 : w10.cell? ⟨ge, 1, none⟩ = some (.int .i64 (wrap64 (tB + 1))) := (blk_cell BKe.out 1).trans rfl; have hfe1 := blk_frozen BKe.out 1; have hce2 : w10.cell? ⟨ge, 2, none⟩ = some (.int .i64 tI) := (blk_cell BKe.out 2).trans rfl; have hfe2 := blk_frozen BKe.out 2; have hce3 : w10.cell? ⟨ge, 3, none⟩ = some (.int .i64 0) := (blk_cell BKe.out 3).trans rfl; have hfe3 := blk_frozen BKe.out 3)
              | (go_at_call 28; clear hce0 hfe0 hce1 hfe1 hce2 hfe2 hce3 hfe3; refine (layout_EncodeSuper.calls k tG (wrap64 (tB + 1)) tI tM q1 q2 _ HQ.out).mono ?_; rintro e w11 ⟨v0, rfl, hr, hb⟩; have HR7 := Aside0.mk hr; have HI10 := Aside0.mk (Rd.IsRd.below (w0 := wi) (g := g) (l := l0) (p := 12) (e := 0) (W1 := w11) (by repeat (first | (with_reducible exact HI9.out) | (with_reducible refine Rd.IsRd.drewN_ ?_ _) | (with_reducible refine Rd.IsRd.drew_ ?_) | refine Rd.IsRd.set_ ?_ _ _ _ (Nat.le_trans HI2.out.le_ (Nat.le_of_lt GG.out)) (Nat.ne_of_gt GG.out))) hb); have n0_ := Aside0.mk (blk_below (w1 := w11) (o := .cells #[.int .i64 tG, .int .i64 (wrap64 (tB + 1)), .int .i64 tI, .int .i64 tM] 52 (0, 0)) (by (with_reducible repeat (first | refine blk_drewN ?_ _ | refine blk_drew ?_ | refine blk_alloc ?_ _)); refine blk_put (cs := #[.int .i64 tG, .int .i64 (wrap64 (tB + 1)), .int .i64 tI, .int .i64 0]) ?_ 3 _ rfl; (with_reducible repeat (first | refine blk_drewN ?_ _ | refine blk_drew ?_ | refine blk_alloc ?_ _)); exact BKe.out) hb); clear BKe; have BKe := n0_; clear n0_; clear hr hb; obtain ⟨A7, c7, e7⟩ := Kd.R_slice HR7.out; subst e7; have BKb := Aside0.mk (HI10.out.old BKi.out); have n0_ := Aside0.mk (below_then (w2 := w11) HB.out (Nat.le_trans GE.out (Nat.le_of_lt (blk_lt BKi.out))) HI10.out.bel); clear HB; have HB := n0_; clear n0_; have hce0 : w11.cell? ⟨ge, 0, none⟩ = some (.int .i64 tG) := (blk_cell BKe.out 0).trans rfl; have hfe0 := blk_frozen BKe.out 0; have hce1 : w11.cell? ⟨ge, 1, none⟩ = some (.int .i64 (wrap64 (tB + 1))) := (blk_cell BKe.out 1).trans rfl; have hfe1 := blk_frozen BKe.out 1; have hce2 : w11.cell? ⟨ge, 2, none⟩ = some (.int .i64 tI) := (blk_cell BKe.out 2).trans rfl; have hfe2 := blk_frozen BKe.out 2; have hce3 : w11.cell? ⟨ge, 3, none⟩ = some (.int .i64 tM) := (blk_cell BKe.out 3).trans rfl; have hfe3 := blk_frozen BKe.out 3; have hcb0 : w11.cell? ⟨gb, 0, none⟩ = some (.int .i64 0) := (blk_cell BKb.out 0).trans rfl; have hfb0 := blk_frozen BKb.out 0; have hcb1 : w11.cell? ⟨gb, 1, none⟩ = some (.int .i64 0) := (blk_cell BKb.out 1).trans rfl; have hfb1 := blk_frozen BKb.out 1; have hcb2 : w11.cell? ⟨gb, 2, none⟩ = some (.int .i64 0) := (blk_cell BKb.out 2).trans rfl; have hfb2 := blk_frozen BKb.out 2; have hcb3 : w11.cell? ⟨gb, 3, none⟩ = some (.int .i64 0) := (blk_cell BKb.out 3).trans rfl; have hfb3 := blk_frozen BKb.out 3))
            refine bodyPost_ret (results_ct rfl _ _ gb 52 #[.int .i64 0, .int .i64 0, .int .i64 0, .int .i64 0] (0, 0) _ rfl (by (with_reducible repeat (first | refine blk_drewN ?_ _ | refine blk_drew ?_ | refine blk_alloc ?_ _)); refine blk_put (cs := #[.int .i64 0, .int .i64 0, .int .i64 0, .int .i64 0]) ?_ 3 _ rfl; (with_reducible repeat (first | refine blk_drewN ?_ _ | refine blk_drew ?_ | refine blk_alloc ?_ _)); refine blk_put (cs := #[.int .i64 0, .int .i64 0, .int .i64 0, .int .i64 0]) ?_ 2 _ rfl; (with_reducible repeat (first | refine blk_drewN ?_ _ | refine blk_drew ?_ | refine blk_alloc ?_ _)); refine blk_put (cs := #[.int .i64 0, .int .i64 0, .int .i64 0, .int .i64 0]) ?_ 1 _ rfl; (with_reducible repeat (first | refine blk_drewN ?_ _ | refine blk_drew ?_ | refine blk_alloc ?_ _)); refine blk_put (cs := #[.int .i64 0, .int .i64 0, .int .i64 0, .int .i64 0]) ?_ 0 _ rfl; (with_reducible repeat (first | refine blk_drewN ?_ _ | refine blk_drew ?_ | refine blk_alloc ?_ _)); exact BKb.out) hu52 rfl (by kernel_rfl)) rfl ?_
            exact ⟨rfl, by repeat (first | (with_reducible first | exact HB.out | apply below_alloc | apply pw_below_drewN | apply below_drew1 | refine below_set ?_ GE.out) | exact HB.out)⟩
        · obtain rfl : t = false := by cases t; rfl; exact absurd rfl htt
          rw [if_neg (by decide)] at h2
          simp only [Option.some.injEq, Prod.mk.injEq] at h2
          obtain ⟨rfl, rfl, rfl, rfl, rfl⟩ := h2
          go_enter Try.func30, Try.ntmps30
          go_wp2_with (first
            | ((with_reducible refine gate_dst (N := 2) rfl ?_); refine box_event ?hg (N := 2) ?hd (cs := #[.int .i64 0, .int .i64 0, .int .i64 0, .int .i64 0]) (t := 52) ?hr ?_; (case hd => rfl); (case hg => rfl); (case hr => first | (go_simp; done) | (go_simp; rfl)); intro gb hg w1 hbox hb; have n0_ := Aside0.mk (below_step (w2 := w1) (by repeat (first | (with_reducible first | exact HB.out | apply below_alloc | apply pw_below_drewN | apply below_drew1) | exact HB.out)) hb); have BKb := Aside0.mk hbox; have GE := Aside0.mk (show w.heap.size ≤ gb by rw [hg]; exact Nat.le_refl _); clear HB; have HB := n0_; clear n0_ hb hbox hg; have hcb0 : w1.cell? ⟨gb, 0, none⟩ = some (.int .i64 0) := (blk_cell BKb.out 0).trans rfl; have hfb0 := blk_frozen BKb.out 0; have hcb1 : w1.cell? ⟨gb, 1, none⟩ = some (.int .i64 0) := (blk_cell BKb.out 1).trans rfl; have hfb1 := blk_frozen BKb.out 1; have hcb2 : w1.cell? ⟨gb, 2, none⟩ = some (.int .i64 0) := (blk_cell BKb.out 2).trans rfl; have hfb2 := blk_frozen BKb.out 2; have hcb3 : w1.cell? ⟨gb, 3, none⟩ = some (.int .i64 0) := (blk_cell BKb.out 3).trans rfl; have hfb3 := blk_frozen BKb.out 3; obtain ⟨ii, hii, _, hsz, _⟩ := info_parts info5; obtain ⟨hcut, hA, hC⟩ := print_take_of (P := Try.prog) (Value.int .u8) 0 26 5 .i64 Try.underlying26 hii hsz A0 c0 l0 4 (by omega) (of_decide_eq_true h4b) HC0.out; have HR4 := Aside0.mk (Kd.C_of_reads (h1 := fun _ => rfl) (hA _ (Kd.reads_of_C HR0.out))); clear hA hC hii hsz; have hcv := Kd.C_string (P := Try.prog) (A := A0) (c := c0) Try.underlying26 Try.underlying5 Try.underlying9 (Kd.C_below HR4.out HB.out); have hcvs := hcv; simp only [Int.reduceToNat, List.length_take] at hcvs)
            | (go_at_call 54; clear hcb0 hfb0 hcb1 hfb1 hcb2 hfb2 hcb3 hfb3; refine (word_Sealed.calls k A0 c0 l0 false _ (Kd.C_below HR0.out (by repeat (first | exact HB.out | apply pw_below_drewN | apply below_drew1))) HC0.out HSE.out).mono ?_; rintro e w2 ⟨rfl, hb⟩; have n0_ := Aside0.mk (blk_below (w1 := w2) (by (with_reducible repeat (first | refine blk_drewN ?_ _ | refine blk_drew ?_ | refine blk_alloc ?_ _)); exact BKb.out) hb); clear BKb; have BKb := n0_; clear n0_; have n0_ := Aside0.mk (below_step (w2 := w2) (by repeat (first | (with_reducible first | exact HB.out | apply below_alloc | apply pw_below_drewN | apply below_drew1) | exact HB.out)) hb); clear HB; have HB := n0_; clear n0_; clear hb HSE hcv hcvs; have hcb0 : w2.cell? ⟨gb, 0, none⟩ = some (.int .i64 0) := (blk_cell BKb.out 0).trans rfl; have hfb0 := blk_frozen BKb.out 0; have hcb1 : w2.cell? ⟨gb, 1, none⟩ = some (.int .i64 0) := (blk_cell BKb.out 1).trans rfl; have hfb1 := blk_frozen BKb.out 1; have hcb2 : w2.cell? ⟨gb, 2, none⟩ = some (.int .i64 0) := (blk_cell BKb.out 2).trans rfl; have hfb2 := blk_frozen BKb.out 2; have hcb3 : w2.cell? ⟨gb, 3, none⟩ = some (.int .i64 0) := (blk_cell BKb.out 3).trans rfl; have hfb3 := blk_frozen BKb.out 3))
          refine bodyPost_ret (results_ct rfl _ _ gb 52 #[.int .i64 0, .int .i64 0, .int .i64 0, .int .i64 0] (0, 0) _ rfl (by (with_reducible repeat (first | refine blk_drewN ?_ _ | refine blk_drew ?_ | refine blk_alloc ?_ _)); refine blk_put (cs := #[.int .i64 0, .int .i64 0, .int .i64 0, .int .i64 0]) ?_ 3 _ rfl; (with_reducible repeat (first | refine blk_drewN ?_ _ | refine blk_drew ?_ | refine blk_alloc ?_ _)); refine blk_put (cs := #[.int .i64 0, .int .i64 0, .int .i64 0, .int .i64 0]) ?_ 2 _ rfl; (with_reducible repeat (first | refine blk_drewN ?_ _ | refine blk_drew ?_ | refine blk_alloc ?_ _)); refine blk_put (cs := #[.int .i64 0, .int .i64 0, .int .i64 0, .int .i64 0]) ?_ 1 _ rfl; (with_reducible repeat (first | refine blk_drewN ?_ _ | refine blk_drew ?_ | refine blk_alloc ?_ _)); refine blk_put (cs := #[.int .i64 0, .int .i64 0, .int .i64 0, .int .i64 0]) ?_ 0 _ rfl; (with_reducible repeat (first | refine blk_drewN ?_ _ | refine blk_drew ?_ | refine blk_alloc ?_ _)); exact BKb.out) hu52 rfl (by kernel_rfl)) rfl ?_
          exact ⟨rfl, by repeat (first | (with_reducible first | exact HB.out | apply below_alloc | apply pw_below_drewN | apply below_drew1 | refine below_set ?_ GE.out) | exact HB.out)⟩
      · rw [if_neg hm] at h
        have hmb0 : ((strOfNums (l0.take 4)).toList == ([98, 111, 108, 108] : List UInt8)) = false := beq_eq_false_iff_ne.mpr hm
        have hmb1 : ((strOfNums (l0.take 4)).toList != ([98, 111, 108, 108] : List UInt8)) = true := bne_iff_ne.mpr hm
        clear hm
        simp only [Option.some.injEq, Prod.mk.injEq] at h
        obtain ⟨rfl, rfl, rfl, rfl, rfl⟩ := h
        go_enter Try.func30, Try.ntmps30
        go_wp2_with (first
          | ((with_reducible refine gate_dst (N := 2) rfl ?_); refine box_event ?hg (N := 2) ?hd (cs := #[.int .i64 0, .int .i64 0, .int .i64 0, .int .i64 0]) (t := 52) ?hr ?_; (case hd => rfl); (case hg => rfl); (case hr => first | (go_simp; done) | (go_simp; rfl)); intro gb hg w1 hbox hb; have n0_ := Aside0.mk (below_step (w2 := w1) (by repeat (first | (with_reducible first | exact HB.out | apply below_alloc | apply pw_below_drewN | apply below_drew1) | exact HB.out)) hb); have BKb := Aside0.mk hbox; have GE := Aside0.mk (show w.heap.size ≤ gb by rw [hg]; exact Nat.le_refl _); clear HB; have HB := n0_; clear n0_ hb hbox hg; have hcb0 : w1.cell? ⟨gb, 0, none⟩ = some (.int .i64 0) := (blk_cell BKb.out 0).trans rfl; have hfb0 := blk_frozen BKb.out 0; have hcb1 : w1.cell? ⟨gb, 1, none⟩ = some (.int .i64 0) := (blk_cell BKb.out 1).trans rfl; have hfb1 := blk_frozen BKb.out 1; have hcb2 : w1.cell? ⟨gb, 2, none⟩ = some (.int .i64 0) := (blk_cell BKb.out 2).trans rfl; have hfb2 := blk_frozen BKb.out 2; have hcb3 : w1.cell? ⟨gb, 3, none⟩ = some (.int .i64 0) := (blk_cell BKb.out 3).trans rfl; have hfb3 := blk_frozen BKb.out 3; obtain ⟨ii, hii, _, hsz, _⟩ := info_parts info5; obtain ⟨hcut, hA, hC⟩ := print_take_of (P := Try.prog) (Value.int .u8) 0 26 5 .i64 Try.underlying26 hii hsz A0 c0 l0 4 (by omega) (of_decide_eq_true h4b) HC0.out; have HR4 := Aside0.mk (Kd.C_of_reads (h1 := fun _ => rfl) (hA _ (Kd.reads_of_C HR0.out))); clear hA hC hii hsz; have hcv := Kd.C_string (P := Try.prog) (A := A0) (c := c0) Try.underlying26 Try.underlying5 Try.underlying9 (Kd.C_below HR4.out HB.out); have hcvs := hcv; simp only [Int.reduceToNat, List.length_take] at hcvs))
        refine bodyPost_ret (results_ct rfl _ _ gb 52 #[.int .i64 0, .int .i64 0, .int .i64 0, .int .i64 0] (0, 0) _ rfl (by (with_reducible repeat (first | refine blk_drewN ?_ _ | refine blk_drew ?_ | refine blk_alloc ?_ _)); refine blk_put (cs := #[.int .i64 0, .int .i64 0, .int .i64 0, .int .i64 0]) ?_ 3 _ rfl; (with_reducible repeat (first | refine blk_drewN ?_ _ | refine blk_drew ?_ | refine blk_alloc ?_ _)); refine blk_put (cs := #[.int .i64 0, .int .i64 0, .int .i64 0, .int .i64 0]) ?_ 2 _ rfl; (with_reducible repeat (first | refine blk_drewN ?_ _ | refine blk_drew ?_ | refine blk_alloc ?_ _)); refine blk_put (cs := #[.int .i64 0, .int .i64 0, .int .i64 0, .int .i64 0]) ?_ 1 _ rfl; (with_reducible repeat (first | refine blk_drewN ?_ _ | refine blk_drew ?_ | refine blk_alloc ?_ _)); refine blk_put (cs := #[.int .i64 0, .int .i64 0, .int .i64 0, .int .i64 0]) ?_ 0 _ rfl; (with_reducible repeat (first | refine blk_drewN ?_ _ | refine blk_drew ?_ | refine blk_alloc ?_ _)); exact BKb.out) hu52 rfl (by kernel_rfl)) rfl ?_
        exact ⟨rfl, by repeat (first | (with_reducible first | exact HB.out | apply below_alloc | apply pw_below_drewN | apply below_drew1 | refine below_set ?_ GE.out) | exact HB.out)⟩
    · rw [if_neg hwf] at h
      cases h
  · rw [if_neg hlen] at h
    have hb0 : ((l0.length : Int) == 128) = false := beq_eq_false_iff_ne.mpr hlen
    have hb1 : ((l0.length : Int) != 128) = true := bne_iff_ne.mpr hlen
    clear hlen
    simp only [Option.some.injEq, Prod.mk.injEq] at h
    obtain ⟨rfl, rfl, rfl, rfl, rfl⟩ := h
    go_enter Try.func30, Try.ntmps30
    go_wp2_with (first
      | ((with_reducible refine gate_dst (N := 2) rfl ?_); refine box_event ?hg (N := 2) ?hd (cs := #[.int .i64 0, .int .i64 0, .int .i64 0, .int .i64 0]) (t := 52) ?hr ?_; (case hd => rfl); (case hg => rfl); (case hr => first | (go_simp; done) | (go_simp; rfl)); intro gb hg w1 hbox hb; have n0_ := Aside0.mk (below_step (w2 := w1) (by repeat (first | (with_reducible first | exact HB.out | apply below_alloc | apply pw_below_drewN | apply below_drew1) | exact HB.out)) hb); have BKb := Aside0.mk hbox; have GE := Aside0.mk (show w.heap.size ≤ gb by rw [hg]; exact Nat.le_refl _); clear HB; have HB := n0_; clear n0_ hb hbox hg; have hcb0 : w1.cell? ⟨gb, 0, none⟩ = some (.int .i64 0) := (blk_cell BKb.out 0).trans rfl; have hfb0 := blk_frozen BKb.out 0; have hcb1 : w1.cell? ⟨gb, 1, none⟩ = some (.int .i64 0) := (blk_cell BKb.out 1).trans rfl; have hfb1 := blk_frozen BKb.out 1; have hcb2 : w1.cell? ⟨gb, 2, none⟩ = some (.int .i64 0) := (blk_cell BKb.out 2).trans rfl; have hfb2 := blk_frozen BKb.out 2; have hcb3 : w1.cell? ⟨gb, 3, none⟩ = some (.int .i64 0) := (blk_cell BKb.out 3).trans rfl; have hfb3 := blk_frozen BKb.out 3))
    refine bodyPost_ret (results_ct rfl _ _ gb 52 #[.int .i64 0, .int .i64 0, .int .i64 0, .int .i64 0] (0, 0) _ rfl (by (with_reducible repeat (first | refine blk_drewN ?_ _ | refine blk_drew ?_ | refine blk_alloc ?_ _)); refine blk_put (cs := #[.int .i64 0, .int .i64 0, .int .i64 0, .int .i64 0]) ?_ 3 _ rfl; (with_reducible repeat (first | refine blk_drewN ?_ _ | refine blk_drew ?_ | refine blk_alloc ?_ _)); refine blk_put (cs := #[.int .i64 0, .int .i64 0, .int .i64 0, .int .i64 0]) ?_ 2 _ rfl; (with_reducible repeat (first | refine blk_drewN ?_ _ | refine blk_drew ?_ | refine blk_alloc ?_ _)); refine blk_put (cs := #[.int .i64 0, .int .i64 0, .int .i64 0, .int .i64 0]) ?_ 1 _ rfl; (with_reducible repeat (first | refine blk_drewN ?_ _ | refine blk_drew ?_ | refine blk_alloc ?_ _)); refine blk_put (cs := #[.int .i64 0, .int .i64 0, .int .i64 0, .int .i64 0]) ?_ 0 _ rfl; (with_reducible repeat (first | refine blk_drewN ?_ _ | refine blk_drew ?_ | refine blk_alloc ?_ _)); exact BKb.out) hu52 rfl (by kernel_rfl)) rfl ?_
    exact ⟨rfl, by repeat (first | (with_reducible first | exact HB.out | apply below_alloc | apply pw_below_drewN | apply below_drew1 | refine below_set ?_ GE.out) | exact HB.out)⟩

/-! ### bollardref03_same: function 39 -/
def bollardref03_same.f (l0 : List Int) (l1 : List Int) : Option (Bool) := some ((strOfNums l0).toList == (strOfNums l1).toList)
set_option maxHeartbeats 8000000 in
set_option maxRecDepth 100000 in
theorem bollardref03_same.calls (A0 : Option Addr) (c0 : Nat) (l0 : List Int) (A1 : Option Addr) (c1 : Nat) (l1 : List Int) (r : Bool) (w : World) (hr0 : Kd.C (Kd.int .u8) w A0 l0.length l0) (hc0 : l0.length ≤ c0) (hr1 : Kd.C (Kd.int .u8) w A1 l1.length l1) (hc1 : l1.length ≤ c1) (h : bollardref03_same.f l0 l1 = some r) :
    Calls Try.prog 39 #[.slice A0 l0.length c0, .slice A1 l1.length c1] w fun e w' => e = .returned (.bool r) ∧ Drawn0 w w' := by
  have HR0 := Aside0.mk hr0
  have HC0 := Aside0.mk hc0
  clear hr0 hc0
  have HR1 := Aside0.mk hr1
  have HC1 := Aside0.mk hc1
  clear hr1 hc1
  have H : (some ((strOfNums l0).toList == (strOfNums l1).toList)) = some r := h
  clear h
  obtain rfl := Option.some.inj H
  have hcv3 := Kd.C_string (P := Try.prog) (A := A0) (c := c0) Try.underlying26 Try.underlying5 Try.underlying9 HR0.out
  have hcv4 := Kd.C_string (P := Try.prog) (A := A1) (c := c1) Try.underlying26 Try.underlying5 Try.underlying9 HR1.out
  go_enter Try.func39, Try.ntmps39
  go_wp2
  go_ret
  exact ⟨by first | rfl | (simp; done) | (simp [*]; done), by repeat (first | exact Drawn0.refl _ | apply Drawn0.step)⟩

/-! ### bollardref01_Get: function 66 -/
mutual
def bollardref01_Get.j0 : Nat → List Int → Int → Int → Bool → Option (Int × Int)
  | 0, _, _, _, _ => none
  | k + 1, x0, x1, x2, x19 => if x19 = true then (some (0, 1)) else (if x1 > (wrap64 ((x0.length : Int) - x2)) then (some (0, 10)) else (bollardref01_Get.l0 k x0 x1 0 (wrap64 (x2 - 1))))
def bollardref01_Get.l0 : Nat → List Int → Int → Int → Int → Option (Int × Int)
  | 0, _, _, _, _ => none
  | k + 1, x0, x1, x8, x9 => if x9 ≥ 0 then (if 0 ≤ (wrap64 (x1 + x9)) then (if (wrap64 (x1 + x9)) < (x0.length : Int) then (bollardref01_Get.l0 k x0 x1 (wrap64 ((wrap64 (x8 * 256)) + (wrap64 (rd x0 (wrap64 (x1 + x9)))))) (wrap64 (x9 - 1))) else (none)) else (none)) else (some (x8, 0))
end
def bollardref01_Get.f (k : Nat) (l0 : List Int) (a1 : Int) (a2 : Int) : Option (Int × Int) := if a2 < 1 then (bollardref01_Get.j0 k l0 a1 a2 true) else (if a2 > 4 then (bollardref01_Get.j0 k l0 a1 a2 true) else (bollardref01_Get.j0 k l0 a1 a2 (decide (a1 < 0))))
theorem bollardref01_Get.mono_l : ∀ k, (∀ y0 y1 y2 y3, LeO (bollardref01_Get.j0 k y0 y1 y2 y3) (bollardref01_Get.j0 (k + 1) y0 y1 y2 y3)) ∧ (∀ y0 y1 y2 y3, LeO (bollardref01_Get.l0 k y0 y1 y2 y3) (bollardref01_Get.l0 (k + 1) y0 y1 y2 y3))
  | 0 => ⟨fun _ _ _ _ r h => by simp [bollardref01_Get.j0] at h, fun _ _ _ _ r h => by simp [bollardref01_Get.l0] at h⟩
  | k + 1 => by
    obtain ⟨ih0, ih1⟩ := bollardref01_Get.mono_l k
    refine ⟨?_, ?_⟩
    · intro y0 y1 y2 y3
      unfold bollardref01_Get.j0
      repeat' first
      | (with_reducible exact ih0 _ _ _ _)
      | (with_reducible exact ih1 _ _ _ _)
      | (with_reducible exact LeO.refl _)
      | (with_reducible exact LeO.none _)
      | (with_reducible refine LeO.ite ?_ ?_)
      | (with_reducible refine LeO.bind ?_ (fun _ => ?_))
      | exact ih0 _ _ _ _
      | exact ih1 _ _ _ _
      | exact LeO.none _
      | refine LeO.ite ?_ ?_
      | refine LeO.bind ?_ (fun _ => ?_)
    · intro y0 y1 y2 y3
      unfold bollardref01_Get.l0
      repeat' first
      | (with_reducible exact ih0 _ _ _ _)
      | (with_reducible exact ih1 _ _ _ _)
      | (with_reducible exact LeO.refl _)
      | (with_reducible exact LeO.none _)
      | (with_reducible refine LeO.ite ?_ ?_)
      | (with_reducible refine LeO.bind ?_ (fun _ => ?_))
      | exact ih0 _ _ _ _
      | exact ih1 _ _ _ _
      | exact LeO.none _
      | refine LeO.ite ?_ ?_
      | refine LeO.bind ?_ (fun _ => ?_)
theorem bollardref01_Get.mono : ∀ a0 a1 a2 k, LeO (bollardref01_Get.f k a0 a1 a2) (bollardref01_Get.f (k + 1) a0 a1 a2) := by
  intro a0 a1 a2 k
  obtain ⟨ih0, ih1⟩ := bollardref01_Get.mono_l k
  unfold bollardref01_Get.f
  repeat' first
      | (with_reducible exact ih0 _ _ _ _)
      | (with_reducible exact ih1 _ _ _ _)
      | (with_reducible exact LeO.refl _)
      | (with_reducible exact LeO.none _)
      | (with_reducible refine LeO.ite ?_ ?_)
      | (with_reducible refine LeO.bind ?_ (fun _ => ?_))
      | exact ih0 _ _ _ _
      | exact ih1 _ _ _ _
      | exact LeO.none _
      | refine LeO.ite ?_ ?_
      | refine LeO.bind ?_ (fun _ => ?_)
set_option maxHeartbeats 8000000 in
set_option maxRecDepth 100000 in
theorem bollardref01_Get.calls (k : Nat) (A0 : Option Addr) (c0 : Nat) (l0 : List Int) (a1 : Int) (a2 : Int) (r1 : Int) (r2 : Int) (w : World) (hr0 : Kd.C (Kd.int .u8) w A0 l0.length l0) (hc0 : l0.length ≤ c0) (h : bollardref01_Get.f k l0 a1 a2 = some (r1, r2)) :
    Calls Try.prog 66 #[.slice A0 l0.length c0, .int .i64 a1, .int .i64 a2] w fun e w' => e = .returned (.tuple #[.int .i64 r1, .int .i64 r2]) ∧ Drawn0 w w' := by
  have HR0 := Aside0.mk hr0
  have HC0 := Aside0.mk hc0
  clear hr0 hc0
  have H : (if a2 < 1 then (bollardref01_Get.j0 k l0 a1 a2 true) else (if a2 > 4 then (bollardref01_Get.j0 k l0 a1 a2 true) else (bollardref01_Get.j0 k l0 a1 a2 (decide (a1 < 0))))) = some (r1, r2) := h
  clear h
  have HC4 := Aside0.mk H
  clear H
  go_enter Try.func66, Try.ntmps66
  go_upto_region 1 with (fail)
  go_cut [19] (fun v19 wc => ∃ (kq : Nat) (x19_3 : Bool), v19 = .bool x19_3 ∧ Aside0 (bollardref01_Get.j0 kq l0 a1 a2 x19_3 = some (r1, r2)) ∧ Aside0 (kq ≤ k) ∧ Drawn0 w wc)
  case first =>
    have H := HC4.out
    clear HC4
    by_cases c5 : a2 < 1
    · rw [if_pos c5] at H
      have c5b0 : decide (a2 < 1) = true := decide_eq_true c5
      clear c5
      (first | rw [c5b0] | (simp only [i64_w, i32_w]; rw [c5b0]) | skip)
      have H' := Aside0.mk H
      clear H
      go_wp2
      go_meet
      case rel => exact ⟨_, (true), (by first | rfl | (simp; done) | (simp [*]; done)), H', ⟨by first | omega | exact Nat.le_refl _⟩, by repeat (first | exact Drawn0.refl _ | apply Drawn0.step)⟩
    · rw [if_neg c5] at H
      have c5b0 : decide (a2 < 1) = false := decide_eq_false c5
      clear c5
      (first | rw [c5b0] | (simp only [i64_w, i32_w]; rw [c5b0]) | skip)
      by_cases c6 : a2 > 4
      · rw [if_pos c6] at H
        have c6b0 : decide (4 < a2) = true := decide_eq_true c6
        clear c6
        have H' := Aside0.mk H
        clear H
        go_wp2
        go_meet
        case rel => exact ⟨_, (true), (by first | rfl | (simp; done) | (simp [*]; done)), H', ⟨by first | omega | exact Nat.le_refl _⟩, by repeat (first | exact Drawn0.refl _ | apply Drawn0.step)⟩
      · rw [if_neg c6] at H
        have c6b0 : decide (4 < a2) = false := decide_eq_false c6
        clear c6
        have H' := Aside0.mk H
        clear H
        go_wp2
        go_meet
        case rel => exact ⟨_, (decide (a1 < 0)), (by first | rfl | (simp; done) | (simp [*]; done)), H', ⟨by first | omega | exact Nat.le_refl _⟩, by repeat (first | exact Drawn0.refl _ | apply Drawn0.step)⟩
  case rest =>
    clear HC4
    try clear p2
    try clear c5
    try clear c5b0
    try clear c6
    try clear c6b0
    obtain ⟨kq, x19_3, rfl, HA, HJ3, ⟨mc3, rfl⟩⟩ := hcut
    cases kq with
    | zero => exact absurd HA.out (by simp [bollardref01_Get.j0])
    | succ kj3 =>
      have H := HA.out
      clear HA
      simp only [bollardref01_Get.j0] at H
      by_cases c7 : x19_3 = true
      · subst c7
        have H1 : (some (0, 1)) = some (r1, r2) := by rw [if_pos rfl] at H; exact H
        clear H
        have H := H1
        clear H1
        simp only [Option.some.injEq, Prod.mk.injEq] at H
        obtain ⟨rfl, rfl⟩ := H
        go_wp2
        go_ret2
        exact ⟨by first | rfl | (simp; done) | (simp [*]; done), by repeat (first | exact Drawn0.refl _ | apply Drawn0.step)⟩
      · replace c7 := Bool.eq_false_iff.mpr c7
        subst c7
        have H1 : (if a1 > (wrap64 ((l0.length : Int) - a2)) then (some (0, 10)) else (bollardref01_Get.l0 kj3 l0 a1 0 (wrap64 (a2 - 1)))) = some (r1, r2) := by rw [if_neg (show ¬ (false = true) by decide)] at H; exact H
        clear H
        have H := H1
        clear H1
        by_cases c8 : a1 > (wrap64 ((l0.length : Int) - a2))
        · rw [if_pos c8] at H
          have c8b0 : decide ((wrap64 ((l0.length : Int) - a2)) < a1) = true := decide_eq_true c8
          clear c8
          simp only [Option.some.injEq, Prod.mk.injEq] at H
          obtain ⟨rfl, rfl⟩ := H
          go_wp2
          go_ret2
          exact ⟨by first | rfl | (simp; done) | (simp [*]; done), by repeat (first | exact Drawn0.refl _ | apply Drawn0.step)⟩
        · rw [if_neg c8] at H
          have c8b0 : decide ((wrap64 ((l0.length : Int) - a2)) < a1) = false := decide_eq_false c8
          clear c8
          have H' := Aside0.mk H
          clear H
          go_wp2
          go_loopg [8, 9] kj3 (fun kq v8 v9 w' => ∃ (x8_2 : Int) (x9_2 : Int), v8 = .int .i64 x8_2 ∧ v9 = .int .i64 x9_2 ∧ Aside0 (bollardref01_Get.l0 kq l0 a1 x8_2 x9_2 = some (r1, r2)) ∧ Aside0 (kq ≤ kj3) ∧ Drawn0 w w')
          case atStart => exact ⟨(0), (wrap64 (a2 - 1)), (by first | rfl | (simp; done) | (simp [*]; done)), (by first | rfl | (simp; done) | (simp [*]; done)), H', ⟨Nat.le_refl _⟩, by repeat (first | exact Drawn0.refl _ | apply Drawn0.step)⟩
          case round =>
            clear H'
            try clear p2
            try clear c3
            try clear c5
            try clear c5b0
            try clear c6
            try clear c6b0
            try clear p6
            try clear c7
            try clear c8
            try clear c8b0
            try clear p2
            obtain ⟨x8_2, x9_2, rfl, rfl, HA, HK2, ⟨m2, rfl⟩⟩ := hrel
            cases gk with
            | zero => exact absurd HA.out (by simp [bollardref01_Get.l0])
            | succ k2 =>
              have H := HA.out
              clear HA
              simp only [bollardref01_Get.l0] at H
              by_cases c9 : x9_2 ≥ 0
              · rw [if_pos c9] at H
                have c9b0 : decide (0 ≤ x9_2) = true := decide_eq_true c9
                clear c9
                obtain ⟨ji10, hji10⟩ : ∃ j_ : Int, (wrap64 (a1 + x9_2)) = j_ := ⟨_, rfl⟩
                replace H : (if 0 ≤ (ji10) then (if (ji10) < (l0.length : Int) then (bollardref01_Get.l0 k2 l0 a1 (wrap64 ((wrap64 (x8_2 * 256)) + (wrap64 (rd l0 (ji10))))) (wrap64 (x9_2 - 1))) else (none)) else (none)) = some (r1, r2) := by first | (rw [hji10] at H; exact H) | (simp only [hji10] at H ⊢; exact H)
                have hji10w : (IntKind.i64.wrap (a1 + x9_2)) = ji10 := (i64_w _).trans hji10
                by_cases c11 : 0 ≤ (ji10)
                · rw [if_pos c11] at H
                  have c11b0 : decide (0 ≤ (ji10)) = true := decide_eq_true c11
                  clear c11
                  by_cases c12 : (ji10) < (l0.length : Int)
                  · rw [if_pos c12] at H
                    have c12b0 : decide ((ji10) < (l0.length : Int)) = true := decide_eq_true c12
                    clear c12
                    have H' := Aside0.mk H
                    clear H
                    have p193 : 0 ≤ ((ji10) : Int) := of_decide_eq_true (by first | (with_reducible assumption) | assumption)
                    have q193 : (ji10) < (l0.length : Int) := of_decide_eq_true (by first | (with_reducible assumption) | assumption)
                    obtain ⟨ad193, e193, hx193_0⟩ := Kd.at_int HR0.out (ji10) p193 q193
                    cases e193
                    replace p193 := eq_true p193
                    replace q193 := eq_true q193
                    go_wp2
                    go_roundg k2
                    case measure => have := HJ3.out; have := HK2.out; omega
                    case rel => exact ⟨(wrap64 ((wrap64 (x8_2 * 256)) + (wrap64 (rd l0 (ji10))))), (wrap64 (x9_2 - 1)), (by first | rfl | (simp; done) | (simp only [← hji10] <;> (first | rfl | simp)) | (simp [*]; done)), (by first | rfl | (simp; done) | (simp [*]; done)), H', ⟨by have := HJ3.out; have := HK2.out; omega⟩, by repeat (first | exact Drawn0.refl _ | apply Drawn0.step)⟩
                  · rw [if_neg c12] at H
                    exact absurd H (by simp)
                · rw [if_neg c11] at H
                  exact absurd H (by simp)
              · rw [if_neg c9] at H
                have c9b0 : decide (0 ≤ x9_2) = false := decide_eq_false c9
                clear c9
                simp only [Option.some.injEq, Prod.mk.injEq] at H
                obtain ⟨rfl, rfl⟩ := H
                go_wp2
                go_ret2
                exact ⟨by first | rfl | (simp; done) | (simp [*]; done), by repeat (first | exact Drawn0.refl _ | apply Drawn0.step)⟩

/-! ### bollardref03_get: function 47 -/
def bollardref03_get.f (k : Nat) (l0 : List Int) (a1 : Int) (a2 : Int) : Option (Int) := (bollardref01_Get.f k l0 a1 a2).bind fun bt194 => (some bt194.1)
theorem bollardref03_get.mono : ∀ a0 a1 a2 k, LeO (bollardref03_get.f k a0 a1 a2) (bollardref03_get.f (k + 1) a0 a1 a2) := by
  intro a0 a1 a2 k
  unfold bollardref03_get.f
  repeat' first
      | (with_reducible exact bollardref01_Get.mono _ _ _ _)
      | (with_reducible exact LeO.refl _)
      | (with_reducible exact LeO.none _)
      | (with_reducible refine LeO.ite ?_ ?_)
      | (with_reducible refine LeO.bind ?_ (fun _ => ?_))
      | exact bollardref01_Get.mono _ _ _ _
      | exact LeO.none _
      | refine LeO.ite ?_ ?_
      | refine LeO.bind ?_ (fun _ => ?_)
set_option maxHeartbeats 8000000 in
set_option maxRecDepth 100000 in
theorem bollardref03_get.calls (k : Nat) (A0 : Option Addr) (c0 : Nat) (l0 : List Int) (a1 : Int) (a2 : Int) (r : Int) (w : World) (hr0 : Kd.C (Kd.int .u8) w A0 l0.length l0) (hc0 : l0.length ≤ c0) (h : bollardref03_get.f k l0 a1 a2 = some r) :
    Calls Try.prog 47 #[.slice A0 l0.length c0, .int .i64 a1, .int .i64 a2] w fun e w' => e = .returned (.int .i64 r) ∧ Drawn0 w w' := by
  have HR0 := Aside0.mk hr0
  have HC0 := Aside0.mk hc0
  clear hr0 hc0
  have H : ((bollardref01_Get.f k l0 a1 a2).bind fun bt194 => (some bt194.1)) = some r := h
  clear h
  replace H := Option.bind_eq_some_iff.mp H
  obtain ⟨⟨t194, t195⟩, A40, H⟩ := H
  replace H : (some t194) = some r := H
  have A4 := Aside0.mk A40
  clear A40
  obtain rfl := Option.some.inj H
  go_enter Try.func47, Try.ntmps47
  go_wp2_with (first | ((with_reducible refine gate_callee (f := 66) rfl ?_); refine goesL_ (some 13) rfl rfl Try.func66 (by kernel_rfl) rfl #[.slice A0 l0.length c0, .int .i64 a1, .int .i64 a2] rfl (by (try simp only [List.map_toArray, List.map_cons, List.map_nil]); first | done | rfl | (simp only [List.length_drop, List.length_take]; rfl)) ?_; (with_reducible refine (bollardref01_Get.calls k _ _ l0 a1 a2 t194 t195 _ ?side1 ?side2 A4.out).mono ?_); (case side1 => repeat (first | exact HR0.out | (with_reducible refine Kd.C_alloc ?_ _) | (with_reducible refine Kd.C_drewN ?_ _) | (with_reducible refine Kd.C_drew ?_))); (case side2 => exact HC0.out); rintro e w' ⟨rfl, ⟨nd, rfl⟩⟩; refine ⟨_, rfl, ?_⟩))
  go_ret
  exact ⟨by first | rfl | (simp; done) | (simp [*]; done), by repeat (first | exact Drawn0.refl _ | apply Drawn0.step)⟩

/-! ### bollardref01_Sealed: function 56 -/
def bollardref01_Sealed.f (k : Nat) (l0 : List Int) : Option (Bool) := if (l0.length : Int) < 4 then (some false) else ((bollardref01_Get.f k l0 (wrap64 ((l0.length : Int) - 4)) 4).bind fun bt196 => (if 0 ≤ (wrap64 ((l0.length : Int) - 4)) then (if (wrap64 ((l0.length : Int) - 4)) ≤ (l0.length : Int) then ((bollardref01_Sum.f k (l0.take ((wrap64 ((l0.length : Int) - 4)) : Int).toNat)).bind fun t199 => (some (bt196.1 == t199))) else (none)) else (none)))
theorem bollardref01_Sealed.mono : ∀ a0 k, LeO (bollardref01_Sealed.f k a0) (bollardref01_Sealed.f (k + 1) a0) := by
  intro a0 k
  unfold bollardref01_Sealed.f
  repeat' first
      | (with_reducible exact bollardref01_Get.mono _ _ _ _)
      | (with_reducible exact bollardref01_Sum.mono _ _)
      | (with_reducible exact LeO.refl _)
      | (with_reducible exact LeO.none _)
      | (with_reducible refine LeO.ite ?_ ?_)
      | (with_reducible refine LeO.bind ?_ (fun _ => ?_))
      | exact bollardref01_Get.mono _ _ _ _
      | exact bollardref01_Sum.mono _ _
      | exact LeO.none _
      | refine LeO.ite ?_ ?_
      | refine LeO.bind ?_ (fun _ => ?_)
set_option maxHeartbeats 8000000 in
set_option maxRecDepth 100000 in
theorem bollardref01_Sealed.calls (k : Nat) (A0 : Option Addr) (c0 : Nat) (l0 : List Int) (r : Bool) (w : World) (hr0 : Kd.C (Kd.int .u8) w A0 l0.length l0) (hc0 : l0.length ≤ c0) (h : bollardref01_Sealed.f k l0 = some r) :
    Calls Try.prog 56 #[.slice A0 l0.length c0] w fun e w' => e = .returned (.bool r) ∧ Drawn0 w w' := by
  have HR0 := Aside0.mk hr0
  have HC0 := Aside0.mk hc0
  clear hr0 hc0
  have H : (if (l0.length : Int) < 4 then (some false) else ((bollardref01_Get.f k l0 (wrap64 ((l0.length : Int) - 4)) 4).bind fun bt196 => (if 0 ≤ (wrap64 ((l0.length : Int) - 4)) then (if (wrap64 ((l0.length : Int) - 4)) ≤ (l0.length : Int) then ((bollardref01_Sum.f k (l0.take ((wrap64 ((l0.length : Int) - 4)) : Int).toNat)).bind fun t199 => (some (bt196.1 == t199))) else (none)) else (none)))) = some r := h
  clear h
  by_cases c2 : (l0.length : Int) < 4
  · rw [if_pos c2] at H
    have c2b0 : decide ((l0.length : Int) < 4) = true := decide_eq_true c2
    have c2b1 : decide (l0.length < 4) = true := decide_eq_true (by omega)
    clear c2
    obtain rfl := Option.some.inj H
    go_enter Try.func56, Try.ntmps56
    go_wp2
    go_ret
    exact ⟨by first | rfl | (simp; done) | (simp [*]; done), by repeat (first | exact Drawn0.refl _ | apply Drawn0.step)⟩
  · rw [if_neg c2] at H
    have c2b0 : decide ((l0.length : Int) < 4) = false := decide_eq_false c2
    have c2b1 : decide (l0.length < 4) = false := decide_eq_false (by omega)
    clear c2
    replace H := Option.bind_eq_some_iff.mp H
    obtain ⟨⟨t196, t197⟩, A30, H⟩ := H
    replace H : (if 0 ≤ (wrap64 ((l0.length : Int) - 4)) then (if (wrap64 ((l0.length : Int) - 4)) ≤ (l0.length : Int) then ((bollardref01_Sum.f k (l0.take ((wrap64 ((l0.length : Int) - 4)) : Int).toNat)).bind fun t199 => (some (t196 == t199))) else (none)) else (none)) = some r := H
    have A3 := Aside0.mk A30
    clear A30
    obtain ⟨ji4, hji4⟩ : ∃ j_ : Int, (wrap64 ((l0.length : Int) - 4)) = j_ := ⟨_, rfl⟩
    replace H : (if 0 ≤ (ji4) then (if (ji4) ≤ (l0.length : Int) then ((bollardref01_Sum.f k (l0.take ((ji4) : Int).toNat)).bind fun t199 => (some (t196 == t199))) else (none)) else (none)) = some r := by first | (rw [hji4] at H; exact H) | (simp only [hji4] at H ⊢; exact H)
    (try rw [hji4] at A3)
    have hji4w : (IntKind.i64.wrap ((l0.length : Int) - 4)) = ji4 := (i64_w _).trans hji4
    by_cases c5 : 0 ≤ (ji4)
    · rw [if_pos c5] at H
      have c5b0 := eq_true c5
      have c5b1 : decide (0 ≤ (ji4)) = true := decide_eq_true c5
      clear c5
      by_cases c6 : (ji4) ≤ (l0.length : Int)
      · rw [if_pos c6] at H
        have c6b0 := eq_true c6
        have c6b1 : decide ((ji4) ≤ (l0.length : Int)) = true := decide_eq_true c6
        clear c6
        replace H := Option.bind_eq_some_iff.mp H
        obtain ⟨t199, A70, H⟩ := H
        replace H : (some (t196 == t199)) = some r := H
        have A7 := Aside0.mk A70
        clear A70
        obtain rfl := Option.some.inj H
        go_enter Try.func56, Try.ntmps56
        go_wp2_with (first | ((with_reducible refine gate_callee (f := 66) rfl ?_); refine goesL_ (some 13) rfl rfl Try.func66 (by kernel_rfl) rfl #[.slice A0 l0.length c0, .int .i64 ji4, .int .i64 4] rfl (by (try simp only [List.map_toArray, List.map_cons, List.map_nil]); first | done | (simp only [hji4]; rfl) | rfl | (simp only [List.length_drop, List.length_take]; rfl)) ?_; (with_reducible refine (bollardref01_Get.calls k _ _ l0 ji4 4 t196 t197 _ ?side1 ?side2 A3.out).mono ?_); (case side1 => repeat (first | exact HR0.out | (with_reducible refine Kd.C_alloc ?_ _) | (with_reducible refine Kd.C_drewN ?_ _) | (with_reducible refine Kd.C_drew ?_))); (case side2 => exact HC0.out); rintro e w' ⟨rfl, ⟨nd, rfl⟩⟩; refine ⟨_, rfl, ?_⟩; obtain ⟨i08, hi08, _, hsz8, _⟩ := info_parts info5; obtain ⟨hcut8, hA8, hC8⟩ := print_take_of (P := Try.prog) (Value.int .u8) 0 26 5 .i64 Try.underlying26 hi08 hsz8 A0 c0 l0 (ji4) (of_decide_eq_true (by first | (with_reducible assumption) | assumption)) (of_decide_eq_true (by first | (with_reducible assumption) | assumption)) HC0.out; have HR198 := Aside0.mk (Kd.C_of_reads (h1 := fun _ => rfl) (hA8 _ (Kd.reads_of_C HR0.out))); have HC198 := Aside0.mk hC8; clear hA8 hC8 hi08 hsz8) | ((with_reducible refine gate_callee (f := 69) rfl ?_); refine goesL_ (some 22) rfl rfl Try.func69 (by kernel_rfl) rfl #[.slice A0 (l0.take ((ji4) : Int).toNat).length c0] rfl (by (try simp only [List.map_toArray, List.map_cons, List.map_nil]); first | done | (rw [show (l0.take ((ji4) : Int).toNat).length = (ji4).toNat from (by rw [List.length_take]; have h_ : ((ji4) : Int) ≤ (l0.length : Int) := of_decide_eq_true (by first | (with_reducible assumption) | assumption); omega)] <;> rfl) | (simp only [hji4]; rfl) | rfl | (simp only [List.length_drop, List.length_take]; rfl)) ?_; (with_reducible refine (bollardref01_Sum.calls k _ _ (l0.take ((ji4) : Int).toNat) t199 _ ?side1 ?side2 A7.out).mono ?_); (case side1 => repeat (first | exact HR198.out | (with_reducible refine Kd.C_alloc ?_ _) | (with_reducible refine Kd.C_drewN ?_ _) | (with_reducible refine Kd.C_drew ?_))); (case side2 => exact HC198.out); rintro e w' ⟨rfl, ⟨nd, rfl⟩⟩; refine ⟨_, rfl, ?_⟩))
        go_ret
        exact ⟨by first | rfl | (simp; done) | (simp only [← hji4] <;> (first | rfl | simp)) | (simp [*]; done), by repeat (first | exact Drawn0.refl _ | apply Drawn0.step)⟩
      · rw [if_neg c6] at H
        exact absurd H (by simp)
    · rw [if_neg c5] at H
      exact absurd H (by simp)

/-! ### bollardref03_DecodeSuper: function 31 -/
def bollardref03_DecodeSuper.f (k : Nat) (l0 : List Int) : Option (Int × Int × Int × Int × Int) := if (l0.length : Int) = 128 then (if 4 ≤ (l0.length : Int) then (if (strOfNums (l0.take 4)).toList = ([98, 111, 108, 108] : List UInt8) then ((bollardref01_Sealed.f k l0).bind fun t202 => (if t202 = true then ((bollardref03_get.f k l0 4 1).bind fun t203 => ((bollardref03_get.f k l0 5 1).bind fun t204 => ((bollardref03_get.f k l0 6 1).bind fun t205 => ((bollardref03_get.f k l0 8 4).bind fun t206 => ((bollardref03_EncodeSuper.f k t203 (wrap64 (t204 + 1)) t205 t206).bind fun bt208 => (if bt208.2 = 0 then ((bollardref03_same.f l0 bt208.1).bind fun t212 => (if t212 = true then (some (t203, wrap64 (t204 + 1), t205, t206, 0)) else (some (0, 0, 0, 0, 6)))) else (some (0, 0, 0, 0, 6)))))))) else (some (0, 0, 0, 0, 30)))) else (some (0, 0, 0, 0, 31))) else (none)) else (some (0, 0, 0, 0, 6))
theorem bollardref03_DecodeSuper.mono : ∀ a0 k, LeO (bollardref03_DecodeSuper.f k a0) (bollardref03_DecodeSuper.f (k + 1) a0) := by
  intro a0 k
  unfold bollardref03_DecodeSuper.f
  repeat' first
      | (with_reducible exact bollardref01_Sealed.mono _ _)
      | (with_reducible exact bollardref03_EncodeSuper.mono _ _ _ _ _)
      | (with_reducible exact bollardref03_get.mono _ _ _ _)
      | (with_reducible exact LeO.refl _)
      | (with_reducible exact LeO.none _)
      | (with_reducible refine LeO.ite ?_ ?_)
      | (with_reducible refine LeO.bind ?_ (fun _ => ?_))
      | exact bollardref01_Sealed.mono _ _
      | exact bollardref03_EncodeSuper.mono _ _ _ _ _
      | exact bollardref03_get.mono _ _ _ _
      | exact LeO.none _
      | refine LeO.ite ?_ ?_
      | refine LeO.bind ?_ (fun _ => ?_)
set_option maxHeartbeats 8000000 in
set_option maxRecDepth 100000 in
theorem bollardref03_DecodeSuper.calls (k : Nat) (A0 : Option Addr) (c0 : Nat) (l0 : List Int) (r1 : Int) (r2 : Int) (r3 : Int) (r4 : Int) (r5 : Int) (w : World) (hr0 : Kd.C (Kd.int .u8) w A0 l0.length l0) (hc0 : l0.length ≤ c0) (h : bollardref03_DecodeSuper.f k l0 = some (r1, r2, r3, r4, r5)) :
    Calls Try.prog 31 #[.slice A0 l0.length c0] w fun e w' => e = .returned (.tuple #[.agg #[.int .i64 r1, .int .i64 r2, .int .i64 r3, .int .i64 r4], .int .i64 r5]) ∧ Below w.heap.size w w' := by
  have hu52 := Try.underlying52
  have hu50 := Try.underlying50
  have HR0 := Aside0.mk hr0
  have HC0 := Aside0.mk hc0
  clear hr0 hc0
  have HB := Aside0.mk (Below.refl w.heap.size w)
  have H : (if (l0.length : Int) = 128 then (if 4 ≤ (l0.length : Int) then (if (strOfNums (l0.take 4)).toList = ([98, 111, 108, 108] : List UInt8) then ((bollardref01_Sealed.f k l0).bind fun t202 => (if t202 = true then ((bollardref03_get.f k l0 4 1).bind fun t203 => ((bollardref03_get.f k l0 5 1).bind fun t204 => ((bollardref03_get.f k l0 6 1).bind fun t205 => ((bollardref03_get.f k l0 8 4).bind fun t206 => ((bollardref03_EncodeSuper.f k t203 (wrap64 (t204 + 1)) t205 t206).bind fun bt208 => (if bt208.2 = 0 then ((bollardref03_same.f l0 bt208.1).bind fun t212 => (if t212 = true then (some (t203, wrap64 (t204 + 1), t205, t206, 0)) else (some (0, 0, 0, 0, 6)))) else (some (0, 0, 0, 0, 6)))))))) else (some (0, 0, 0, 0, 30)))) else (some (0, 0, 0, 0, 31))) else (none)) else (some (0, 0, 0, 0, 6))) = some (r1, r2, r3, r4, r5) := h
  clear h
  by_cases c2 : (l0.length : Int) = 128
  · rw [if_pos c2] at H
    have c2b0 : ((l0.length : Int) == 128) = true := beq_iff_eq.mpr c2
    have c2b1 : ((l0.length : Int) != 128) = false := bne_eq_false_iff_eq.mpr c2
    clear c2
    by_cases c3 : 4 ≤ (l0.length : Int)
    · rw [if_pos c3] at H
      have c3b0 := eq_true c3
      have c3b1 : decide (4 ≤ (l0.length : Int)) = true := decide_eq_true c3
      clear c3
      by_cases c4 : (strOfNums (l0.take 4)).toList = ([98, 111, 108, 108] : List UInt8)
      · rw [if_pos c4] at H
        have c4b0 : ((strOfNums (l0.take 4)).toList == ([98, 111, 108, 108] : List UInt8)) = true := beq_iff_eq.mpr c4
        have c4b1 : ((strOfNums (l0.take 4)).toList != ([98, 111, 108, 108] : List UInt8)) = false := bne_eq_false_iff_eq.mpr c4
        clear c4
        replace H := Option.bind_eq_some_iff.mp H
        obtain ⟨t202, A50, H⟩ := H
        replace H : (if t202 = true then ((bollardref03_get.f k l0 4 1).bind fun t203 => ((bollardref03_get.f k l0 5 1).bind fun t204 => ((bollardref03_get.f k l0 6 1).bind fun t205 => ((bollardref03_get.f k l0 8 4).bind fun t206 => ((bollardref03_EncodeSuper.f k t203 (wrap64 (t204 + 1)) t205 t206).bind fun bt208 => (if bt208.2 = 0 then ((bollardref03_same.f l0 bt208.1).bind fun t212 => (if t212 = true then (some (t203, wrap64 (t204 + 1), t205, t206, 0)) else (some (0, 0, 0, 0, 6)))) else (some (0, 0, 0, 0, 6)))))))) else (some (0, 0, 0, 0, 30))) = some (r1, r2, r3, r4, r5) := H
        have A5 := Aside0.mk A50
        clear A50
        by_cases c6 : t202 = true
        · subst c6
          have H1 : ((bollardref03_get.f k l0 4 1).bind fun t203 => ((bollardref03_get.f k l0 5 1).bind fun t204 => ((bollardref03_get.f k l0 6 1).bind fun t205 => ((bollardref03_get.f k l0 8 4).bind fun t206 => ((bollardref03_EncodeSuper.f k t203 (wrap64 (t204 + 1)) t205 t206).bind fun bt208 => (if bt208.2 = 0 then ((bollardref03_same.f l0 bt208.1).bind fun t212 => (if t212 = true then (some (t203, wrap64 (t204 + 1), t205, t206, 0)) else (some (0, 0, 0, 0, 6)))) else (some (0, 0, 0, 0, 6)))))))) = some (r1, r2, r3, r4, r5) := by rw [if_pos rfl] at H; exact H
          clear H
          have H := H1
          clear H1
          replace H := Option.bind_eq_some_iff.mp H
          obtain ⟨t203, A70, H⟩ := H
          replace H : ((bollardref03_get.f k l0 5 1).bind fun t204 => ((bollardref03_get.f k l0 6 1).bind fun t205 => ((bollardref03_get.f k l0 8 4).bind fun t206 => ((bollardref03_EncodeSuper.f k t203 (wrap64 (t204 + 1)) t205 t206).bind fun bt208 => (if bt208.2 = 0 then ((bollardref03_same.f l0 bt208.1).bind fun t212 => (if t212 = true then (some (t203, wrap64 (t204 + 1), t205, t206, 0)) else (some (0, 0, 0, 0, 6)))) else (some (0, 0, 0, 0, 6))))))) = some (r1, r2, r3, r4, r5) := H
          have A7 := Aside0.mk A70
          clear A70
          replace H := Option.bind_eq_some_iff.mp H
          obtain ⟨t204, A80, H⟩ := H
          replace H : ((bollardref03_get.f k l0 6 1).bind fun t205 => ((bollardref03_get.f k l0 8 4).bind fun t206 => ((bollardref03_EncodeSuper.f k t203 (wrap64 (t204 + 1)) t205 t206).bind fun bt208 => (if bt208.2 = 0 then ((bollardref03_same.f l0 bt208.1).bind fun t212 => (if t212 = true then (some (t203, wrap64 (t204 + 1), t205, t206, 0)) else (some (0, 0, 0, 0, 6)))) else (some (0, 0, 0, 0, 6)))))) = some (r1, r2, r3, r4, r5) := H
          have A8 := Aside0.mk A80
          clear A80
          replace H := Option.bind_eq_some_iff.mp H
          obtain ⟨t205, A90, H⟩ := H
          replace H : ((bollardref03_get.f k l0 8 4).bind fun t206 => ((bollardref03_EncodeSuper.f k t203 (wrap64 (t204 + 1)) t205 t206).bind fun bt208 => (if bt208.2 = 0 then ((bollardref03_same.f l0 bt208.1).bind fun t212 => (if t212 = true then (some (t203, wrap64 (t204 + 1), t205, t206, 0)) else (some (0, 0, 0, 0, 6)))) else (some (0, 0, 0, 0, 6))))) = some (r1, r2, r3, r4, r5) := H
          have A9 := Aside0.mk A90
          clear A90
          replace H := Option.bind_eq_some_iff.mp H
          obtain ⟨t206, A100, H⟩ := H
          replace H : ((bollardref03_EncodeSuper.f k t203 (wrap64 (t204 + 1)) t205 t206).bind fun bt208 => (if bt208.2 = 0 then ((bollardref03_same.f l0 bt208.1).bind fun t212 => (if t212 = true then (some (t203, wrap64 (t204 + 1), t205, t206, 0)) else (some (0, 0, 0, 0, 6)))) else (some (0, 0, 0, 0, 6)))) = some (r1, r2, r3, r4, r5) := H
          have A10 := Aside0.mk A100
          clear A100
          replace H := Option.bind_eq_some_iff.mp H
          obtain ⟨⟨t208, t211⟩, A110, H⟩ := H
          replace H : (if t211 = 0 then ((bollardref03_same.f l0 t208).bind fun t212 => (if t212 = true then (some (t203, wrap64 (t204 + 1), t205, t206, 0)) else (some (0, 0, 0, 0, 6)))) else (some (0, 0, 0, 0, 6))) = some (r1, r2, r3, r4, r5) := H
          have A11 := Aside0.mk A110
          clear A110
          by_cases c12 : t211 = 0
          · rw [if_pos c12] at H
            have c12b0 : (t211 == 0) = true := beq_iff_eq.mpr c12
            have c12b1 : (t211 != 0) = false := bne_eq_false_iff_eq.mpr c12
            clear c12
            replace H := Option.bind_eq_some_iff.mp H
            obtain ⟨t212, A130, H⟩ := H
            replace H : (if t212 = true then (some (t203, wrap64 (t204 + 1), t205, t206, 0)) else (some (0, 0, 0, 0, 6))) = some (r1, r2, r3, r4, r5) := H
            have A13 := Aside0.mk A130
            clear A130
            by_cases c14 : t212 = true
            · subst c14
              have H1 : (some (t203, wrap64 (t204 + 1), t205, t206, 0)) = some (r1, r2, r3, r4, r5) := by rw [if_pos rfl] at H; exact H
              clear H
              have H := H1
              clear H1
              simp only [Option.some.injEq, Prod.mk.injEq] at H
              obtain ⟨rfl, rfl, rfl, rfl, rfl⟩ := H
              go_enter Try.func31, Try.ntmps31
              go_wp2_with (first | ((with_reducible refine gate_dst (N := 2) rfl ?_); refine box_event ?hg (N := 2) ?hd (cs := #[.int .i64 0, .int .i64 0, .int .i64 0, .int .i64 0]) (t := 52) ?hr ?_; (case hd => rfl); (case hg => rfl); (case hr => first | (go_simp; done) | (go_simp; rfl)); intro gb200 hg w15 hbox hb; have n0_ := Aside0.mk (below_step (by repeat (first | (with_reducible first | exact HB.out | apply below_alloc | apply pw_below_drewN | apply below_drew1) | exact HB.out)) hb); have n1_ := Aside0.mk (hbox); have n2_ := Aside0.mk ((by rw [hg]; exact (below_size (by repeat (first | (with_reducible first | exact HB.out | apply below_alloc | apply pw_below_drewN | apply below_drew1) | exact HB.out))) : w.heap.size ≤ gb200)); have n3_ := Aside0.mk ((by rw [hg]; exact (below_size (by repeat (first | (with_reducible first | exact HB.out | apply below_alloc | apply pw_below_drewN | apply below_drew1) | exact HB.out))) : w.heap.size ≤ gb200)); clear HB; have HB := n0_; have BK200 := n1_; have GW200 := n2_; have GE200 := n3_; clear n0_ n1_ n2_ n3_; clear hb hbox hg; obtain ⟨i016, hi016, _, hsz16, _⟩ := info_parts info5; obtain ⟨hcut16, hA16, hC16⟩ := print_take_of (P := Try.prog) (Value.int .u8) 0 26 5 .i64 Try.underlying26 hi016 hsz16 A0 c0 l0 4 (by omega) (of_decide_eq_true (by first | (with_reducible assumption) | assumption)) HC0.out; have HR201 := Aside0.mk (Kd.C_of_reads (h1 := fun _ => rfl) (hA16 _ (Kd.reads_of_C HR0.out))); have HC201 := Aside0.mk hC16; clear hA16 hC16 hi016 hsz16; have hcv17 := Kd.C_string (P := Try.prog) (A := A0) (c := c0) Try.underlying26 Try.underlying5 Try.underlying9 (Kd.C_below HR201.out HB.out); have hcv17s := hcv17; simp only [Int.reduceToNat, List.length_take] at hcv17s) | ((with_reducible refine gate_callee (f := 56) rfl ?_); refine goesL_ (some 20) rfl rfl Try.func56 (by kernel_rfl) rfl #[.slice A0 l0.length c0] rfl (by (try simp only [List.map_toArray, List.map_cons, List.map_nil]); first | done | rfl | (simp only [List.length_drop, List.length_take]; rfl)) ?_; (with_reducible refine (bollardref01_Sealed.calls k _ _ l0 true _ ?side1 ?side2 A5.out).mono ?_); (case side1 => repeat (first | exact (Kd.C_below HR0.out HB.out) | (with_reducible refine Kd.C_alloc ?_ _) | (with_reducible refine Kd.C_drewN ?_ _) | (with_reducible refine Kd.C_drew ?_))); (case side2 => exact HC0.out); rintro e w' ⟨rfl, ⟨nd, rfl⟩⟩; refine ⟨_, rfl, ?_⟩; (try (rw [drewN_self w15]; generalize hq_ : World.drewN w15 _ = w15; have n0_ : Aside0 (w15.heap[gb200]? = some (.cells #[.int .i64 0, .int .i64 0, .int .i64 0, .int .i64 0] 52 (0, 0))) := ⟨by rw [← hq_]; exact (by (with_reducible repeat (first | refine blk_drewN ?_ _ | refine blk_drew ?_ | refine blk_alloc ?_ _)); exact BK200.out)⟩; have n1_ : Aside0 (Below w.heap.size w w15) := ⟨by rw [← hq_]; exact (by repeat (first | (with_reducible first | exact HB.out | apply below_alloc | apply pw_below_drewN | apply below_drew1 | refine below_set ?_ GE200.out) | exact HB.out))⟩; clear BK200 HB hq_; have BK200 := n0_; have HB := n1_; clear n0_ n1_))) | ((with_reducible refine gate_callee (f := 47) rfl ?_); refine goesL_ (some 24) rfl rfl Try.func47 (by kernel_rfl) rfl #[.slice A0 l0.length c0, .int .i64 4, .int .i64 1] rfl (by (try simp only [List.map_toArray, List.map_cons, List.map_nil]); first | done | rfl | (simp only [List.length_drop, List.length_take]; rfl)) ?_; (with_reducible refine (bollardref03_get.calls k _ _ l0 4 1 t203 _ ?side1 ?side2 A7.out).mono ?_); (case side1 => repeat (first | exact (Kd.C_below HR0.out HB.out) | (with_reducible refine Kd.C_alloc ?_ _) | (with_reducible refine Kd.C_drewN ?_ _) | (with_reducible refine Kd.C_drew ?_))); (case side2 => exact HC0.out); rintro e w' ⟨rfl, ⟨nd, rfl⟩⟩; refine ⟨_, rfl, ?_⟩; (try (rw [drewN_self w15]; generalize hq_ : World.drewN w15 _ = w15; have n0_ : Aside0 (w15.heap[gb200]? = some (.cells #[.int .i64 0, .int .i64 0, .int .i64 0, .int .i64 0] 52 (0, 0))) := ⟨by rw [← hq_]; exact (by (with_reducible repeat (first | refine blk_drewN ?_ _ | refine blk_drew ?_ | refine blk_alloc ?_ _)); exact BK200.out)⟩; have n1_ : Aside0 (Below w.heap.size w w15) := ⟨by rw [← hq_]; exact (by repeat (first | (with_reducible first | exact HB.out | apply below_alloc | apply pw_below_drewN | apply below_drew1 | refine below_set ?_ GE200.out) | exact HB.out))⟩; clear BK200 HB hq_; have BK200 := n0_; have HB := n1_; clear n0_ n1_))) | ((with_reducible refine gate_callee (f := 47) rfl ?_); refine goesL_ (some 26) rfl rfl Try.func47 (by kernel_rfl) rfl #[.slice A0 l0.length c0, .int .i64 5, .int .i64 1] rfl (by (try simp only [List.map_toArray, List.map_cons, List.map_nil]); first | done | rfl | (simp only [List.length_drop, List.length_take]; rfl)) ?_; (with_reducible refine (bollardref03_get.calls k _ _ l0 5 1 t204 _ ?side1 ?side2 A8.out).mono ?_); (case side1 => repeat (first | exact (Kd.C_below HR0.out HB.out) | (with_reducible refine Kd.C_alloc ?_ _) | (with_reducible refine Kd.C_drewN ?_ _) | (with_reducible refine Kd.C_drew ?_))); (case side2 => exact HC0.out); rintro e w' ⟨rfl, ⟨nd, rfl⟩⟩; refine ⟨_, rfl, ?_⟩; (try (rw [drewN_self w15]; generalize hq_ : World.drewN w15 _ = w15; have n0_ : Aside0 (w15.heap[gb200]? = some (.cells #[.int .i64 0, .int .i64 0, .int .i64 0, .int .i64 0] 52 (0, 0))) := ⟨by rw [← hq_]; exact (by (with_reducible repeat (first | refine blk_drewN ?_ _ | refine blk_drew ?_ | refine blk_alloc ?_ _)); exact BK200.out)⟩; have n1_ : Aside0 (Below w.heap.size w w15) := ⟨by rw [← hq_]; exact (by repeat (first | (with_reducible first | exact HB.out | apply below_alloc | apply pw_below_drewN | apply below_drew1 | refine below_set ?_ GE200.out) | exact HB.out))⟩; clear BK200 HB hq_; have BK200 := n0_; have HB := n1_; clear n0_ n1_))) | ((with_reducible refine gate_callee (f := 47) rfl ?_); refine goesL_ (some 29) rfl rfl Try.func47 (by kernel_rfl) rfl #[.slice A0 l0.length c0, .int .i64 6, .int .i64 1] rfl (by (try simp only [List.map_toArray, List.map_cons, List.map_nil]); first | done | rfl | (simp only [List.length_drop, List.length_take]; rfl)) ?_; (with_reducible refine (bollardref03_get.calls k _ _ l0 6 1 t205 _ ?side1 ?side2 A9.out).mono ?_); (case side1 => repeat (first | exact (Kd.C_below HR0.out HB.out) | (with_reducible refine Kd.C_alloc ?_ _) | (with_reducible refine Kd.C_drewN ?_ _) | (with_reducible refine Kd.C_drew ?_))); (case side2 => exact HC0.out); rintro e w' ⟨rfl, ⟨nd, rfl⟩⟩; refine ⟨_, rfl, ?_⟩; (try (rw [drewN_self w15]; generalize hq_ : World.drewN w15 _ = w15; have n0_ : Aside0 (w15.heap[gb200]? = some (.cells #[.int .i64 0, .int .i64 0, .int .i64 0, .int .i64 0] 52 (0, 0))) := ⟨by rw [← hq_]; exact (by (with_reducible repeat (first | refine blk_drewN ?_ _ | refine blk_drew ?_ | refine blk_alloc ?_ _)); exact BK200.out)⟩; have n1_ : Aside0 (Below w.heap.size w w15) := ⟨by rw [← hq_]; exact (by repeat (first | (with_reducible first | exact HB.out | apply below_alloc | apply pw_below_drewN | apply below_drew1 | refine below_set ?_ GE200.out) | exact HB.out))⟩; clear BK200 HB hq_; have BK200 := n0_; have HB := n1_; clear n0_ n1_))) | ((with_reducible refine gate_callee (f := 47) rfl ?_); refine goesL_ (some 32) rfl rfl Try.func47 (by kernel_rfl) rfl #[.slice A0 l0.length c0, .int .i64 8, .int .i64 4] rfl (by (try simp only [List.map_toArray, List.map_cons, List.map_nil]); first | done | rfl | (simp only [List.length_drop, List.length_take]; rfl)) ?_; (with_reducible refine (bollardref03_get.calls k _ _ l0 8 4 t206 _ ?side1 ?side2 A10.out).mono ?_); (case side1 => repeat (first | exact (Kd.C_below HR0.out HB.out) | (with_reducible refine Kd.C_alloc ?_ _) | (with_reducible refine Kd.C_drewN ?_ _) | (with_reducible refine Kd.C_drew ?_))); (case side2 => exact HC0.out); rintro e w' ⟨rfl, ⟨nd, rfl⟩⟩; refine ⟨_, rfl, ?_⟩; (try (rw [drewN_self w15]; generalize hq_ : World.drewN w15 _ = w15; have n0_ : Aside0 (w15.heap[gb200]? = some (.cells #[.int .i64 0, .int .i64 0, .int .i64 0, .int .i64 0] 52 (0, 0))) := ⟨by rw [← hq_]; exact (by (with_reducible repeat (first | refine blk_drewN ?_ _ | refine blk_drew ?_ | refine blk_alloc ?_ _)); exact BK200.out)⟩; have n1_ : Aside0 (Below w.heap.size w w15) := ⟨by rw [← hq_]; exact (by repeat (first | (with_reducible first | exact HB.out | apply below_alloc | apply pw_below_drewN | apply below_drew1 | refine below_set ?_ GE200.out) | exact HB.out))⟩; clear BK200 HB hq_; have BK200 := n0_; have HB := n1_; clear n0_ n1_))) | ((with_reducible refine gate_dst (N := 4) rfl ?_); refine box_event ?hg (N := 4) ?hd (cs := #[.int .i64 0, .int .i64 0, .int .i64 0, .int .i64 0]) (t := 52) ?hr ?_; (case hd => rfl); (case hg => rfl); (case hr => first | (go_simp; done) | (go_simp; rfl)); intro gb207 hg w18 hbox hb; have n0_ := Aside0.mk (blk_below (g := gb200) (o := .cells #[.int .i64 0, .int .i64 0, .int .i64 0, .int .i64 0] 52 (0, 0)) (by (with_reducible repeat (first | refine blk_drewN ?_ _ | refine blk_drew ?_ | refine blk_alloc ?_ _)); exact BK200.out) hb); have n1_ := Aside0.mk (below_step (by repeat (first | (with_reducible first | exact HB.out | apply below_alloc | apply pw_below_drewN | apply below_drew1 | refine below_set ?_ GE200.out) | exact HB.out)) hb); have n2_ := Aside0.mk (hbox); have n3_ := Aside0.mk ((by rw [hg]; exact (below_size (by repeat (first | (with_reducible first | exact HB.out | apply below_alloc | apply pw_below_drewN | apply below_drew1 | refine below_set ?_ GE200.out) | exact HB.out))) : w.heap.size ≤ gb207)); have n4_ := Aside0.mk ((by rw [hg]; exact (below_size (by repeat (first | (with_reducible first | exact HB.out | apply below_alloc | apply pw_below_drewN | apply below_drew1 | refine below_set ?_ GE200.out) | exact HB.out))) : w.heap.size ≤ gb207)); have n5_ := Aside0.mk ((by rw [hg]; exact Nat.ne_of_lt (blk_lt (g := gb200) (o := .cells #[.int .i64 0, .int .i64 0, .int .i64 0, .int .i64 0] 52 (0, 0)) (by (with_reducible repeat (first | refine blk_drewN ?_ _ | refine blk_drew ?_ | refine blk_alloc ?_ _)); exact BK200.out)) : gb200 ≠ gb207)); have n6_ := Aside0.mk ((by rw [hg]; exact Nat.ne_of_gt (blk_lt (g := gb200) (o := .cells #[.int .i64 0, .int .i64 0, .int .i64 0, .int .i64 0] 52 (0, 0)) (by (with_reducible repeat (first | refine blk_drewN ?_ _ | refine blk_drew ?_ | refine blk_alloc ?_ _)); exact BK200.out)) : gb207 ≠ gb200)); clear BK200; clear HB; have BK200 := n0_; have HB := n1_; have BK207 := n2_; have GW207 := n3_; have GE207 := n4_; have NB200_207 := n5_; have NB207_200 := n6_; clear n0_ n1_ n2_ n3_ n4_ n5_ n6_; clear hb hbox hg; have hnb19 := NB207_200.out; have hnc19 := NB200_207.out; have hcz20_0 : w18.cell? ⟨gb207, 0, none⟩ = some (.int .i64 0) := (blk_cell BK207.out 0).trans rfl; have hcz20_1 : w18.cell? ⟨gb207, 1, none⟩ = some (.int .i64 0) := (blk_cell BK207.out 1).trans rfl; have hcz20_2 : w18.cell? ⟨gb207, 2, none⟩ = some (.int .i64 0) := (blk_cell BK207.out 2).trans rfl; have hcz20_3 : w18.cell? ⟨gb207, 3, none⟩ = some (.int .i64 0) := (blk_cell BK207.out 3).trans rfl; have hfz20_0 := blk_frozen BK207.out 0; have hfz20_1 := blk_frozen BK207.out 1; have hfz20_2 := blk_frozen BK207.out 2; have hfz20_3 := blk_frozen BK207.out 3) | ((with_reducible refine gate_callee (f := 29) rfl ?_); refine goesL_ (some 36) rfl rfl Try.func29 (by kernel_rfl) rfl #[.agg #[.int .i64 t203, .int .i64 (wrap64 (t204 + 1)), .int .i64 t205, .int .i64 t206]] rfl (by (try simp only [List.map_toArray, List.map_cons, List.map_nil]); first | done | rfl | (simp only [List.length_drop, List.length_take]; rfl)) ?_; (with_reducible refine (bollardref03_EncodeSuper.calls k t203 (wrap64 (t204 + 1)) t205 t206 t208 t211 _ A11.out).mono ?_); rintro e w21 ⟨v209, rfl, ho0, hb⟩; refine ⟨_, rfl, ?_⟩; have n0_ := Aside0.mk (Kd.R_lower ho0 (below_size (by repeat (first | (with_reducible first | exact HB.out | apply below_alloc | apply pw_below_drewN | apply below_drew1 | refine below_set ?_ GE200.out | refine below_set ?_ GE207.out) | exact HB.out)))); have n1_ := Aside0.mk (blk_below (g := gb200) (o := .cells #[.int .i64 0, .int .i64 0, .int .i64 0, .int .i64 0] 52 (0, 0)) (by (with_reducible repeat (first | refine blk_drewN ?_ _ | refine blk_drew ?_ | refine blk_alloc ?_ _)); refine blk_far ?_ NB200_207.out _; (with_reducible repeat (first | refine blk_drewN ?_ _ | refine blk_drew ?_ | refine blk_alloc ?_ _)); refine blk_far ?_ NB200_207.out _; (with_reducible repeat (first | refine blk_drewN ?_ _ | refine blk_drew ?_ | refine blk_alloc ?_ _)); refine blk_far ?_ NB200_207.out _; (with_reducible repeat (first | refine blk_drewN ?_ _ | refine blk_drew ?_ | refine blk_alloc ?_ _)); refine blk_far ?_ NB200_207.out _; (with_reducible repeat (first | refine blk_drewN ?_ _ | refine blk_drew ?_ | refine blk_alloc ?_ _)); exact BK200.out) hb); have n2_ := Aside0.mk (blk_below (g := gb207) (o := .cells #[.int .i64 t203, .int .i64 (wrap64 (t204 + 1)), .int .i64 t205, .int .i64 t206] 52 (0, 0)) (by (with_reducible repeat (first | refine blk_drewN ?_ _ | refine blk_drew ?_ | refine blk_alloc ?_ _)); refine blk_put (cs := #[.int .i64 t203, .int .i64 (wrap64 (t204 + 1)), .int .i64 t205, .int .i64 0]) ?_ 3 _ rfl; (with_reducible repeat (first | refine blk_drewN ?_ _ | refine blk_drew ?_ | refine blk_alloc ?_ _)); refine blk_put (cs := #[.int .i64 t203, .int .i64 (wrap64 (t204 + 1)), .int .i64 0, .int .i64 0]) ?_ 2 _ rfl; (with_reducible repeat (first | refine blk_drewN ?_ _ | refine blk_drew ?_ | refine blk_alloc ?_ _)); refine blk_put (cs := #[.int .i64 t203, .int .i64 0, .int .i64 0, .int .i64 0]) ?_ 1 _ rfl; (with_reducible repeat (first | refine blk_drewN ?_ _ | refine blk_drew ?_ | refine blk_alloc ?_ _)); refine blk_put (cs := #[.int .i64 0, .int .i64 0, .int .i64 0, .int .i64 0]) ?_ 0 _ rfl; (with_reducible repeat (first | refine blk_drewN ?_ _ | refine blk_drew ?_ | refine blk_alloc ?_ _)); exact BK207.out) hb); have n3_ := Aside0.mk (below_step (by repeat (first | (with_reducible first | exact HB.out | apply below_alloc | apply pw_below_drewN | apply below_drew1 | refine below_set ?_ GE200.out | refine below_set ?_ GE207.out) | exact HB.out)) hb); clear BK200; clear BK207; clear HB; have HO210 := n0_; have BK200 := n1_; have BK207 := n2_; have HB := n3_; clear n0_ n1_ n2_ n3_; (try clear hb); (try clear hb2); (try clear hk); (try clear hi); (try clear ho0); obtain ⟨Ao22, co22, eo22⟩ := Kd.R_slice HO210.out; subst eo22) | (go_at_call 39; (with_reducible refine (bollardref03_same.calls _ _ l0 _ _ t208 true _ ?side1 ?side2 ?side3 ?side4 A13.out).mono ?_); (case side1 => repeat (first | exact (Kd.C_below HR0.out HB.out) | (with_reducible refine Kd.C_alloc ?_ _) | (with_reducible refine Kd.C_drewN ?_ _) | (with_reducible refine Kd.C_drew ?_))); (case side2 => exact HC0.out); (case side3 => repeat (first | exact (Kd.R_reads' HO210.out).2.2 | (with_reducible refine Kd.C_alloc ?_ _) | (with_reducible refine Kd.C_drewN ?_ _) | (with_reducible refine Kd.C_drew ?_))); (case side4 => exact (Kd.R_reads' HO210.out).2.1); rintro e w' ⟨rfl, ⟨nd, rfl⟩⟩; (try (rw [drewN_self w21]; generalize hq_ : World.drewN w21 _ = w21; have n0_ : Aside0 (Kd.R (Kd.int .u8) 5 w21 w.heap.size (fun _ => True) (.slice Ao22 t208.length co22) t208) := ⟨by rw [← hq_]; exact (by (with_reducible repeat (first | apply Kd.R_alloc | apply Kd.R_drewN | apply Kd.R_drew)); exact HO210.out)⟩; have n1_ : Aside0 (w21.heap[gb200]? = some (.cells #[.int .i64 0, .int .i64 0, .int .i64 0, .int .i64 0] 52 (0, 0))) := ⟨by rw [← hq_]; exact (by (with_reducible repeat (first | refine blk_drewN ?_ _ | refine blk_drew ?_ | refine blk_alloc ?_ _)); exact BK200.out)⟩; have n2_ : Aside0 (w21.heap[gb207]? = some (.cells #[.int .i64 t203, .int .i64 (wrap64 (t204 + 1)), .int .i64 t205, .int .i64 t206] 52 (0, 0))) := ⟨by rw [← hq_]; exact (by (with_reducible repeat (first | refine blk_drewN ?_ _ | refine blk_drew ?_ | refine blk_alloc ?_ _)); exact BK207.out)⟩; have n3_ : Aside0 (Below w.heap.size w w21) := ⟨by rw [← hq_]; exact (by repeat (first | (with_reducible first | exact HB.out | apply below_alloc | apply pw_below_drewN | apply below_drew1 | refine below_set ?_ GE200.out | refine below_set ?_ GE207.out) | exact HB.out))⟩; clear HO210 BK200 BK207 HB hq_; have HO210 := n0_; have BK200 := n1_; have BK207 := n2_; have HB := n3_; clear n0_ n1_ n2_ n3_)); have hcz23_0 : w21.cell? ⟨gb207, 0, none⟩ = some (.int .i64 t203) := (blk_cell BK207.out 0).trans rfl; have hcz23_1 : w21.cell? ⟨gb207, 1, none⟩ = some (.int .i64 (wrap64 (t204 + 1))) := (blk_cell BK207.out 1).trans rfl; have hcz23_2 : w21.cell? ⟨gb207, 2, none⟩ = some (.int .i64 t205) := (blk_cell BK207.out 2).trans rfl; have hcz23_3 : w21.cell? ⟨gb207, 3, none⟩ = some (.int .i64 t206) := (blk_cell BK207.out 3).trans rfl; have hfz23_0 := blk_frozen BK207.out 0; have hfz23_1 := blk_frozen BK207.out 1; have hfz23_2 := blk_frozen BK207.out 2; have hfz23_3 := blk_frozen BK207.out 3; have hcz24_0 : w21.cell? ⟨gb200, 0, none⟩ = some (.int .i64 0) := (blk_cell BK200.out 0).trans rfl; have hcz24_1 : w21.cell? ⟨gb200, 1, none⟩ = some (.int .i64 0) := (blk_cell BK200.out 1).trans rfl; have hcz24_2 : w21.cell? ⟨gb200, 2, none⟩ = some (.int .i64 0) := (blk_cell BK200.out 2).trans rfl; have hcz24_3 : w21.cell? ⟨gb200, 3, none⟩ = some (.int .i64 0) := (blk_cell BK200.out 3).trans rfl; have hfz24_0 := blk_frozen BK200.out 0; have hfz24_1 := blk_frozen BK200.out 1; have hfz24_2 := blk_frozen BK200.out 2; have hfz24_3 := blk_frozen BK200.out 3))
              refine bodyPost_ret (results_ct rfl _ _ gb200 52 #[.int .i64 t203, .int .i64 (wrap64 (t204 + 1)), .int .i64 t205, .int .i64 t206] (0, 0) _ rfl (by (with_reducible repeat (first | refine blk_drewN ?_ _ | refine blk_drew ?_ | refine blk_alloc ?_ _)); refine blk_put (cs := #[.int .i64 t203, .int .i64 (wrap64 (t204 + 1)), .int .i64 t205, .int .i64 0]) ?_ 3 _ rfl; (with_reducible repeat (first | refine blk_drewN ?_ _ | refine blk_drew ?_ | refine blk_alloc ?_ _)); refine blk_put (cs := #[.int .i64 t203, .int .i64 (wrap64 (t204 + 1)), .int .i64 0, .int .i64 0]) ?_ 2 _ rfl; (with_reducible repeat (first | refine blk_drewN ?_ _ | refine blk_drew ?_ | refine blk_alloc ?_ _)); refine blk_put (cs := #[.int .i64 t203, .int .i64 0, .int .i64 0, .int .i64 0]) ?_ 1 _ rfl; (with_reducible repeat (first | refine blk_drewN ?_ _ | refine blk_drew ?_ | refine blk_alloc ?_ _)); refine blk_put (cs := #[.int .i64 0, .int .i64 0, .int .i64 0, .int .i64 0]) ?_ 0 _ rfl; (with_reducible repeat (first | refine blk_drewN ?_ _ | refine blk_drew ?_ | refine blk_alloc ?_ _)); exact BK200.out) Try.underlying52 rfl (by kernel_rfl)) rfl ?_
              exact ⟨by first | rfl | (simp [errW_none, errW_some] <;> rfl) | (simp [*, errW_none, errW_some] <;> rfl), by repeat (first | (with_reducible first | exact HB.out | apply below_alloc | apply pw_below_drewN | apply below_drew1 | refine below_set ?_ GE200.out | refine below_set ?_ GE207.out) | exact HB.out)⟩
            · replace c14 := Bool.eq_false_iff.mpr c14
              subst c14
              have H1 : (some (0, 0, 0, 0, 6)) = some (r1, r2, r3, r4, r5) := by rw [if_neg (show ¬ (false = true) by decide)] at H; exact H
              clear H
              have H := H1
              clear H1
              simp only [Option.some.injEq, Prod.mk.injEq] at H
              obtain ⟨rfl, rfl, rfl, rfl, rfl⟩ := H
              go_enter Try.func31, Try.ntmps31
              go_wp2_with (first | ((with_reducible refine gate_dst (N := 2) rfl ?_); refine box_event ?hg (N := 2) ?hd (cs := #[.int .i64 0, .int .i64 0, .int .i64 0, .int .i64 0]) (t := 52) ?hr ?_; (case hd => rfl); (case hg => rfl); (case hr => first | (go_simp; done) | (go_simp; rfl)); intro gb200 hg w25 hbox hb; have n0_ := Aside0.mk (below_step (by repeat (first | (with_reducible first | exact HB.out | apply below_alloc | apply pw_below_drewN | apply below_drew1) | exact HB.out)) hb); have n1_ := Aside0.mk (hbox); have n2_ := Aside0.mk ((by rw [hg]; exact (below_size (by repeat (first | (with_reducible first | exact HB.out | apply below_alloc | apply pw_below_drewN | apply below_drew1) | exact HB.out))) : w.heap.size ≤ gb200)); have n3_ := Aside0.mk ((by rw [hg]; exact (below_size (by repeat (first | (with_reducible first | exact HB.out | apply below_alloc | apply pw_below_drewN | apply below_drew1) | exact HB.out))) : w.heap.size ≤ gb200)); clear HB; have HB := n0_; have BK200 := n1_; have GW200 := n2_; have GE200 := n3_; clear n0_ n1_ n2_ n3_; clear hb hbox hg; obtain ⟨i026, hi026, _, hsz26, _⟩ := info_parts info5; obtain ⟨hcut26, hA26, hC26⟩ := print_take_of (P := Try.prog) (Value.int .u8) 0 26 5 .i64 Try.underlying26 hi026 hsz26 A0 c0 l0 4 (by omega) (of_decide_eq_true (by first | (with_reducible assumption) | assumption)) HC0.out; have HR201 := Aside0.mk (Kd.C_of_reads (h1 := fun _ => rfl) (hA26 _ (Kd.reads_of_C HR0.out))); have HC201 := Aside0.mk hC26; clear hA26 hC26 hi026 hsz26; have hcv27 := Kd.C_string (P := Try.prog) (A := A0) (c := c0) Try.underlying26 Try.underlying5 Try.underlying9 (Kd.C_below HR201.out HB.out); have hcv27s := hcv27; simp only [Int.reduceToNat, List.length_take] at hcv27s) | ((with_reducible refine gate_callee (f := 56) rfl ?_); refine goesL_ (some 20) rfl rfl Try.func56 (by kernel_rfl) rfl #[.slice A0 l0.length c0] rfl (by (try simp only [List.map_toArray, List.map_cons, List.map_nil]); first | done | rfl | (simp only [List.length_drop, List.length_take]; rfl)) ?_; (with_reducible refine (bollardref01_Sealed.calls k _ _ l0 true _ ?side1 ?side2 A5.out).mono ?_); (case side1 => repeat (first | exact (Kd.C_below HR0.out HB.out) | (with_reducible refine Kd.C_alloc ?_ _) | (with_reducible refine Kd.C_drewN ?_ _) | (with_reducible refine Kd.C_drew ?_))); (case side2 => exact HC0.out); rintro e w' ⟨rfl, ⟨nd, rfl⟩⟩; refine ⟨_, rfl, ?_⟩; (try (rw [drewN_self w25]; generalize hq_ : World.drewN w25 _ = w25; have n0_ : Aside0 (w25.heap[gb200]? = some (.cells #[.int .i64 0, .int .i64 0, .int .i64 0, .int .i64 0] 52 (0, 0))) := ⟨by rw [← hq_]; exact (by (with_reducible repeat (first | refine blk_drewN ?_ _ | refine blk_drew ?_ | refine blk_alloc ?_ _)); exact BK200.out)⟩; have n1_ : Aside0 (Below w.heap.size w w25) := ⟨by rw [← hq_]; exact (by repeat (first | (with_reducible first | exact HB.out | apply below_alloc | apply pw_below_drewN | apply below_drew1 | refine below_set ?_ GE200.out) | exact HB.out))⟩; clear BK200 HB hq_; have BK200 := n0_; have HB := n1_; clear n0_ n1_))) | ((with_reducible refine gate_callee (f := 47) rfl ?_); refine goesL_ (some 24) rfl rfl Try.func47 (by kernel_rfl) rfl #[.slice A0 l0.length c0, .int .i64 4, .int .i64 1] rfl (by (try simp only [List.map_toArray, List.map_cons, List.map_nil]); first | done | rfl | (simp only [List.length_drop, List.length_take]; rfl)) ?_; (with_reducible refine (bollardref03_get.calls k _ _ l0 4 1 t203 _ ?side1 ?side2 A7.out).mono ?_); (case side1 => repeat (first | exact (Kd.C_below HR0.out HB.out) | (with_reducible refine Kd.C_alloc ?_ _) | (with_reducible refine Kd.C_drewN ?_ _) | (with_reducible refine Kd.C_drew ?_))); (case side2 => exact HC0.out); rintro e w' ⟨rfl, ⟨nd, rfl⟩⟩; refine ⟨_, rfl, ?_⟩; (try (rw [drewN_self w25]; generalize hq_ : World.drewN w25 _ = w25; have n0_ : Aside0 (w25.heap[gb200]? = some (.cells #[.int .i64 0, .int .i64 0, .int .i64 0, .int .i64 0] 52 (0, 0))) := ⟨by rw [← hq_]; exact (by (with_reducible repeat (first | refine blk_drewN ?_ _ | refine blk_drew ?_ | refine blk_alloc ?_ _)); exact BK200.out)⟩; have n1_ : Aside0 (Below w.heap.size w w25) := ⟨by rw [← hq_]; exact (by repeat (first | (with_reducible first | exact HB.out | apply below_alloc | apply pw_below_drewN | apply below_drew1 | refine below_set ?_ GE200.out) | exact HB.out))⟩; clear BK200 HB hq_; have BK200 := n0_; have HB := n1_; clear n0_ n1_))) | ((with_reducible refine gate_callee (f := 47) rfl ?_); refine goesL_ (some 26) rfl rfl Try.func47 (by kernel_rfl) rfl #[.slice A0 l0.length c0, .int .i64 5, .int .i64 1] rfl (by (try simp only [List.map_toArray, List.map_cons, List.map_nil]); first | done | rfl | (simp only [List.length_drop, List.length_take]; rfl)) ?_; (with_reducible refine (bollardref03_get.calls k _ _ l0 5 1 t204 _ ?side1 ?side2 A8.out).mono ?_); (case side1 => repeat (first | exact (Kd.C_below HR0.out HB.out) | (with_reducible refine Kd.C_alloc ?_ _) | (with_reducible refine Kd.C_drewN ?_ _) | (with_reducible refine Kd.C_drew ?_))); (case side2 => exact HC0.out); rintro e w' ⟨rfl, ⟨nd, rfl⟩⟩; refine ⟨_, rfl, ?_⟩; (try (rw [drewN_self w25]; generalize hq_ : World.drewN w25 _ = w25; have n0_ : Aside0 (w25.heap[gb200]? = some (.cells #[.int .i64 0, .int .i64 0, .int .i64 0, .int .i64 0] 52 (0, 0))) := ⟨by rw [← hq_]; exact (by (with_reducible repeat (first | refine blk_drewN ?_ _ | refine blk_drew ?_ | refine blk_alloc ?_ _)); exact BK200.out)⟩; have n1_ : Aside0 (Below w.heap.size w w25) := ⟨by rw [← hq_]; exact (by repeat (first | (with_reducible first | exact HB.out | apply below_alloc | apply pw_below_drewN | apply below_drew1 | refine below_set ?_ GE200.out) | exact HB.out))⟩; clear BK200 HB hq_; have BK200 := n0_; have HB := n1_; clear n0_ n1_))) | ((with_reducible refine gate_callee (f := 47) rfl ?_); refine goesL_ (some 29) rfl rfl Try.func47 (by kernel_rfl) rfl #[.slice A0 l0.length c0, .int .i64 6, .int .i64 1] rfl (by (try simp only [List.map_toArray, List.map_cons, List.map_nil]); first | done | rfl | (simp only [List.length_drop, List.length_take]; rfl)) ?_; (with_reducible refine (bollardref03_get.calls k _ _ l0 6 1 t205 _ ?side1 ?side2 A9.out).mono ?_); (case side1 => repeat (first | exact (Kd.C_below HR0.out HB.out) | (with_reducible refine Kd.C_alloc ?_ _) | (with_reducible refine Kd.C_drewN ?_ _) | (with_reducible refine Kd.C_drew ?_))); (case side2 => exact HC0.out); rintro e w' ⟨rfl, ⟨nd, rfl⟩⟩; refine ⟨_, rfl, ?_⟩; (try (rw [drewN_self w25]; generalize hq_ : World.drewN w25 _ = w25; have n0_ : Aside0 (w25.heap[gb200]? = some (.cells #[.int .i64 0, .int .i64 0, .int .i64 0, .int .i64 0] 52 (0, 0))) := ⟨by rw [← hq_]; exact (by (with_reducible repeat (first | refine blk_drewN ?_ _ | refine blk_drew ?_ | refine blk_alloc ?_ _)); exact BK200.out)⟩; have n1_ : Aside0 (Below w.heap.size w w25) := ⟨by rw [← hq_]; exact (by repeat (first | (with_reducible first | exact HB.out | apply below_alloc | apply pw_below_drewN | apply below_drew1 | refine below_set ?_ GE200.out) | exact HB.out))⟩; clear BK200 HB hq_; have BK200 := n0_; have HB := n1_; clear n0_ n1_))) | ((with_reducible refine gate_callee (f := 47) rfl ?_); refine goesL_ (some 32) rfl rfl Try.func47 (by kernel_rfl) rfl #[.slice A0 l0.length c0, .int .i64 8, .int .i64 4] rfl (by (try simp only [List.map_toArray, List.map_cons, List.map_nil]); first | done | rfl | (simp only [List.length_drop, List.length_take]; rfl)) ?_; (with_reducible refine (bollardref03_get.calls k _ _ l0 8 4 t206 _ ?side1 ?side2 A10.out).mono ?_); (case side1 => repeat (first | exact (Kd.C_below HR0.out HB.out) | (with_reducible refine Kd.C_alloc ?_ _) | (with_reducible refine Kd.C_drewN ?_ _) | (with_reducible refine Kd.C_drew ?_))); (case side2 => exact HC0.out); rintro e w' ⟨rfl, ⟨nd, rfl⟩⟩; refine ⟨_, rfl, ?_⟩; (try (rw [drewN_self w25]; generalize hq_ : World.drewN w25 _ = w25; have n0_ : Aside0 (w25.heap[gb200]? = some (.cells #[.int .i64 0, .int .i64 0, .int .i64 0, .int .i64 0] 52 (0, 0))) := ⟨by rw [← hq_]; exact (by (with_reducible repeat (first | refine blk_drewN ?_ _ | refine blk_drew ?_ | refine blk_alloc ?_ _)); exact BK200.out)⟩; have n1_ : Aside0 (Below w.heap.size w w25) := ⟨by rw [← hq_]; exact (by repeat (first | (with_reducible first | exact HB.out | apply below_alloc | apply pw_below_drewN | apply below_drew1 | refine below_set ?_ GE200.out) | exact HB.out))⟩; clear BK200 HB hq_; have BK200 := n0_; have HB := n1_; clear n0_ n1_))) | ((with_reducible refine gate_dst (N := 4) rfl ?_); refine box_event ?hg (N := 4) ?hd (cs := #[.int .i64 0, .int .i64 0, .int .i64 0, .int .i64 0]) (t := 52) ?hr ?_; (case hd => rfl); (case hg => rfl); (case hr => first | (go_simp; done) | (go_simp; rfl)); intro gb207 hg w28 hbox hb; have n0_ := Aside0.mk (blk_below (g := gb200) (o := .cells #[.int .i64 0, .int .i64 0, .int .i64 0, .int .i64 0] 52 (0, 0)) (by (with_reducible repeat (first | refine blk_drewN ?_ _ | refine blk_drew ?_ | refine blk_alloc ?_ _)); exact BK200.out) hb); have n1_ := Aside0.mk (below_step (by repeat (first | (with_reducible first | exact HB.out | apply below_alloc | apply pw_below_drewN | apply below_drew1 | refine below_set ?_ GE200.out) | exact HB.out)) hb); have n2_ := Aside0.mk (hbox); have n3_ := Aside0.mk ((by rw [hg]; exact (below_size (by repeat (first | (with_reducible first | exact HB.out | apply below_alloc | apply pw_below_drewN | apply below_drew1 | refine below_set ?_ GE200.out) | exact HB.out))) : w.heap.size ≤ gb207)); have n4_ := Aside0.mk ((by rw [hg]; exact (below_size (by repeat (first | (with_reducible first | exact HB.out | apply below_alloc | apply pw_below_drewN | apply below_drew1 | refine below_set ?_ GE200.out) | exact HB.out))) : w.heap.size ≤ gb207)); have n5_ := Aside0.mk ((by rw [hg]; exact Nat.ne_of_lt (blk_lt (g := gb200) (o := .cells #[.int .i64 0, .int .i64 0, .int .i64 0, .int .i64 0] 52 (0, 0)) (by (with_reducible repeat (first | refine blk_drewN ?_ _ | refine blk_drew ?_ | refine blk_alloc ?_ _)); exact BK200.out)) : gb200 ≠ gb207)); have n6_ := Aside0.mk ((by rw [hg]; exact Nat.ne_of_gt (blk_lt (g := gb200) (o := .cells #[.int .i64 0, .int .i64 0, .int .i64 0, .int .i64 0] 52 (0, 0)) (by (with_reducible repeat (first | refine blk_drewN ?_ _ | refine blk_drew ?_ | refine blk_alloc ?_ _)); exact BK200.out)) : gb207 ≠ gb200)); clear BK200; clear HB; have BK200 := n0_; have HB := n1_; have BK207 := n2_; have GW207 := n3_; have GE207 := n4_; have NB200_207 := n5_; have NB207_200 := n6_; clear n0_ n1_ n2_ n3_ n4_ n5_ n6_; clear hb hbox hg; have hnb29 := NB207_200.out; have hnc29 := NB200_207.out; have hcz30_0 : w28.cell? ⟨gb207, 0, none⟩ = some (.int .i64 0) := (blk_cell BK207.out 0).trans rfl; have hcz30_1 : w28.cell? ⟨gb207, 1, none⟩ = some (.int .i64 0) := (blk_cell BK207.out 1).trans rfl; have hcz30_2 : w28.cell? ⟨gb207, 2, none⟩ = some (.int .i64 0) := (blk_cell BK207.out 2).trans rfl; have hcz30_3 : w28.cell? ⟨gb207, 3, none⟩ = some (.int .i64 0) := (blk_cell BK207.out 3).trans rfl; have hfz30_0 := blk_frozen BK207.out 0; have hfz30_1 := blk_frozen BK207.out 1; have hfz30_2 := blk_frozen BK207.out 2; have hfz30_3 := blk_frozen BK207.out 3) | ((with_reducible refine gate_callee (f := 29) rfl ?_); refine goesL_ (some 36) rfl rfl Try.func29 (by kernel_rfl) rfl #[.agg #[.int .i64 t203, .int .i64 (wrap64 (t204 + 1)), .int .i64 t205, .int .i64 t206]] rfl (by (try simp only [List.map_toArray, List.map_cons, List.map_nil]); first | done | rfl | (simp only [List.length_drop, List.length_take]; rfl)) ?_; (with_reducible refine (bollardref03_EncodeSuper.calls k t203 (wrap64 (t204 + 1)) t205 t206 t208 t211 _ A11.out).mono ?_); rintro e w31 ⟨v209, rfl, ho0, hb⟩; refine ⟨_, rfl, ?_⟩; have n0_ := Aside0.mk (Kd.R_lower ho0 (below_size (by repeat (first | (with_reducible first | exact HB.out | apply below_alloc | apply pw_below_drewN | apply below_drew1 | refine below_set ?_ GE200.out | refine below_set ?_ GE207.out) | exact HB.out)))); have n1_ := Aside0.mk (blk_below (g := gb200) (o := .cells #[.int .i64 0, .int .i64 0, .int .i64 0, .int .i64 0] 52 (0, 0)) (by (with_reducible repeat (first | refine blk_drewN ?_ _ | refine blk_drew ?_ | refine blk_alloc ?_ _)); refine blk_far ?_ NB200_207.out _; (with_reducible repeat (first | refine blk_drewN ?_ _ | refine blk_drew ?_ | refine blk_alloc ?_ _)); refine blk_far ?_ NB200_207.out _; (with_reducible repeat (first | refine blk_drewN ?_ _ | refine blk_drew ?_ | refine blk_alloc ?_ _)); refine blk_far ?_ NB200_207.out _; (with_reducible repeat (first | refine blk_drewN ?_ _ | refine blk_drew ?_ | refine blk_alloc ?_ _)); refine blk_far ?_ NB200_207.out _; (with_reducible repeat (first | refine blk_drewN ?_ _ | refine blk_drew ?_ | refine blk_alloc ?_ _)); exact BK200.out) hb); have n2_ := Aside0.mk (blk_below (g := gb207) (o := .cells #[.int .i64 t203, .int .i64 (wrap64 (t204 + 1)), .int .i64 t205, .int .i64 t206] 52 (0, 0)) (by (with_reducible repeat (first | refine blk_drewN ?_ _ | refine blk_drew ?_ | refine blk_alloc ?_ _)); refine blk_put (cs := #[.int .i64 t203, .int .i64 (wrap64 (t204 + 1)), .int .i64 t205, .int .i64 0]) ?_ 3 _ rfl; (with_reducible repeat (first | refine blk_drewN ?_ _ | refine blk_drew ?_ | refine blk_alloc ?_ _)); refine blk_put (cs := #[.int .i64 t203, .int .i64 (wrap64 (t204 + 1)), .int .i64 0, .int .i64 0]) ?_ 2 _ rfl; (with_reducible repeat (first | refine blk_drewN ?_ _ | refine blk_drew ?_ | refine blk_alloc ?_ _)); refine blk_put (cs := #[.int .i64 t203, .int .i64 0, .int .i64 0, .int .i64 0]) ?_ 1 _ rfl; (with_reducible repeat (first | refine blk_drewN ?_ _ | refine blk_drew ?_ | refine blk_alloc ?_ _)); refine blk_put (cs := #[.int .i64 0, .int .i64 0, .int .i64 0, .int .i64 0]) ?_ 0 _ rfl; (with_reducible repeat (first | refine blk_drewN ?_ _ | refine blk_drew ?_ | refine blk_alloc ?_ _)); exact BK207.out) hb); have n3_ := Aside0.mk (below_step (by repeat (first | (with_reducible first | exact HB.out | apply below_alloc | apply pw_below_drewN | apply below_drew1 | refine below_set ?_ GE200.out | refine below_set ?_ GE207.out) | exact HB.out)) hb); clear BK200; clear BK207; clear HB; have HO210 := n0_; have BK200 := n1_; have BK207 := n2_; have HB := n3_; clear n0_ n1_ n2_ n3_; (try clear hb); (try clear hb2); (try clear hk); (try clear hi); (try clear ho0); obtain ⟨Ao32, co32, eo32⟩ := Kd.R_slice HO210.out; subst eo32) | (go_at_call 39; (with_reducible refine (bollardref03_same.calls _ _ l0 _ _ t208 false _ ?side1 ?side2 ?side3 ?side4 A13.out).mono ?_); (case side1 => repeat (first | exact (Kd.C_below HR0.out HB.out) | (with_reducible refine Kd.C_alloc ?_ _) | (with_reducible refine Kd.C_drewN ?_ _) | (with_reducible refine Kd.C_drew ?_))); (case side2 => exact HC0.out); (case side3 => repeat (first | exact (Kd.R_reads' HO210.out).2.2 | (with_reducible refine Kd.C_alloc ?_ _) | (with_reducible refine Kd.C_drewN ?_ _) | (with_reducible refine Kd.C_drew ?_))); (case side4 => exact (Kd.R_reads' HO210.out).2.1); rintro e w' ⟨rfl, ⟨nd, rfl⟩⟩; (try (rw [drewN_self w31]; generalize hq_ : World.drewN w31 _ = w31; have n0_ : Aside0 (Kd.R (Kd.int .u8) 5 w31 w.heap.size (fun _ => True) (.slice Ao32 t208.length co32) t208) := ⟨by rw [← hq_]; exact (by (with_reducible repeat (first | apply Kd.R_alloc | apply Kd.R_drewN | apply Kd.R_drew)); exact HO210.out)⟩; have n1_ : Aside0 (w31.heap[gb200]? = some (.cells #[.int .i64 0, .int .i64 0, .int .i64 0, .int .i64 0] 52 (0, 0))) := ⟨by rw [← hq_]; exact (by (with_reducible repeat (first | refine blk_drewN ?_ _ | refine blk_drew ?_ | refine blk_alloc ?_ _)); exact BK200.out)⟩; have n2_ : Aside0 (w31.heap[gb207]? = some (.cells #[.int .i64 t203, .int .i64 (wrap64 (t204 + 1)), .int .i64 t205, .int .i64 t206] 52 (0, 0))) := ⟨by rw [← hq_]; exact (by (with_reducible repeat (first | refine blk_drewN ?_ _ | refine blk_drew ?_ | refine blk_alloc ?_ _)); exact BK207.out)⟩; have n3_ : Aside0 (Below w.heap.size w w31) := ⟨by rw [← hq_]; exact (by repeat (first | (with_reducible first | exact HB.out | apply below_alloc | apply pw_below_drewN | apply below_drew1 | refine below_set ?_ GE200.out | refine below_set ?_ GE207.out) | exact HB.out))⟩; clear HO210 BK200 BK207 HB hq_; have HO210 := n0_; have BK200 := n1_; have BK207 := n2_; have HB := n3_; clear n0_ n1_ n2_ n3_)); have hcz33_0 : w31.cell? ⟨gb200, 0, none⟩ = some (.int .i64 0) := (blk_cell BK200.out 0).trans rfl; have hcz33_1 : w31.cell? ⟨gb200, 1, none⟩ = some (.int .i64 0) := (blk_cell BK200.out 1).trans rfl; have hcz33_2 : w31.cell? ⟨gb200, 2, none⟩ = some (.int .i64 0) := (blk_cell BK200.out 2).trans rfl; have hcz33_3 : w31.cell? ⟨gb200, 3, none⟩ = some (.int .i64 0) := (blk_cell BK200.out 3).trans rfl; have hfz33_0 := blk_frozen BK200.out 0; have hfz33_1 := blk_frozen BK200.out 1; have hfz33_2 := blk_frozen BK200.out 2; have hfz33_3 := blk_frozen BK200.out 3))
              refine bodyPost_ret (results_ct rfl _ _ gb200 52 #[.int .i64 0, .int .i64 0, .int .i64 0, .int .i64 0] (0, 0) _ rfl (by (with_reducible repeat (first | refine blk_drewN ?_ _ | refine blk_drew ?_ | refine blk_alloc ?_ _)); refine blk_put (cs := #[.int .i64 0, .int .i64 0, .int .i64 0, .int .i64 0]) ?_ 3 _ rfl; (with_reducible repeat (first | refine blk_drewN ?_ _ | refine blk_drew ?_ | refine blk_alloc ?_ _)); refine blk_put (cs := #[.int .i64 0, .int .i64 0, .int .i64 0, .int .i64 0]) ?_ 2 _ rfl; (with_reducible repeat (first | refine blk_drewN ?_ _ | refine blk_drew ?_ | refine blk_alloc ?_ _)); refine blk_put (cs := #[.int .i64 0, .int .i64 0, .int .i64 0, .int .i64 0]) ?_ 1 _ rfl; (with_reducible repeat (first | refine blk_drewN ?_ _ | refine blk_drew ?_ | refine blk_alloc ?_ _)); refine blk_put (cs := #[.int .i64 0, .int .i64 0, .int .i64 0, .int .i64 0]) ?_ 0 _ rfl; (with_reducible repeat (first | refine blk_drewN ?_ _ | refine blk_drew ?_ | refine blk_alloc ?_ _)); exact BK200.out) Try.underlying52 rfl (by kernel_rfl)) rfl ?_
              exact ⟨by first | rfl | (simp [errW_none, errW_some] <;> rfl) | (simp [*, errW_none, errW_some] <;> rfl), by repeat (first | (with_reducible first | exact HB.out | apply below_alloc | apply pw_below_drewN | apply below_drew1 | refine below_set ?_ GE200.out | refine below_set ?_ GE207.out) | exact HB.out)⟩
          · rw [if_neg c12] at H
            have c12b0 : (t211 == 0) = false := beq_eq_false_iff_ne.mpr c12
            have c12b1 : (t211 != 0) = true := bne_iff_ne.mpr c12
            simp only [Option.some.injEq, Prod.mk.injEq] at H
            obtain ⟨rfl, rfl, rfl, rfl, rfl⟩ := H
            go_enter Try.func31, Try.ntmps31
            go_wp2_with (first | ((with_reducible refine gate_dst (N := 2) rfl ?_); refine box_event ?hg (N := 2) ?hd (cs := #[.int .i64 0, .int .i64 0, .int .i64 0, .int .i64 0]) (t := 52) ?hr ?_; (case hd => rfl); (case hg => rfl); (case hr => first | (go_simp; done) | (go_simp; rfl)); intro gb200 hg w34 hbox hb; have n0_ := Aside0.mk (below_step (by repeat (first | (with_reducible first | exact HB.out | apply below_alloc | apply pw_below_drewN | apply below_drew1) | exact HB.out)) hb); have n1_ := Aside0.mk (hbox); have n2_ := Aside0.mk ((by rw [hg]; exact (below_size (by repeat (first | (with_reducible first | exact HB.out | apply below_alloc | apply pw_below_drewN | apply below_drew1) | exact HB.out))) : w.heap.size ≤ gb200)); have n3_ := Aside0.mk ((by rw [hg]; exact (below_size (by repeat (first | (with_reducible first | exact HB.out | apply below_alloc | apply pw_below_drewN | apply below_drew1) | exact HB.out))) : w.heap.size ≤ gb200)); clear HB; have HB := n0_; have BK200 := n1_; have GW200 := n2_; have GE200 := n3_; clear n0_ n1_ n2_ n3_; clear hb hbox hg; obtain ⟨i035, hi035, _, hsz35, _⟩ := info_parts info5; obtain ⟨hcut35, hA35, hC35⟩ := print_take_of (P := Try.prog) (Value.int .u8) 0 26 5 .i64 Try.underlying26 hi035 hsz35 A0 c0 l0 4 (by omega) (of_decide_eq_true (by first | (with_reducible assumption) | assumption)) HC0.out; have HR201 := Aside0.mk (Kd.C_of_reads (h1 := fun _ => rfl) (hA35 _ (Kd.reads_of_C HR0.out))); have HC201 := Aside0.mk hC35; clear hA35 hC35 hi035 hsz35; have hcv36 := Kd.C_string (P := Try.prog) (A := A0) (c := c0) Try.underlying26 Try.underlying5 Try.underlying9 (Kd.C_below HR201.out HB.out); have hcv36s := hcv36; simp only [Int.reduceToNat, List.length_take] at hcv36s) | ((with_reducible refine gate_callee (f := 56) rfl ?_); refine goesL_ (some 20) rfl rfl Try.func56 (by kernel_rfl) rfl #[.slice A0 l0.length c0] rfl (by (try simp only [List.map_toArray, List.map_cons, List.map_nil]); first | done | rfl | (simp only [List.length_drop, List.length_take]; rfl)) ?_; (with_reducible refine (bollardref01_Sealed.calls k _ _ l0 true _ ?side1 ?side2 A5.out).mono ?_); (case side1 => repeat (first | exact (Kd.C_below HR0.out HB.out) | (with_reducible refine Kd.C_alloc ?_ _) | (with_reducible refine Kd.C_drewN ?_ _) | (with_reducible refine Kd.C_drew ?_))); (case side2 => exact HC0.out); rintro e w' ⟨rfl, ⟨nd, rfl⟩⟩; refine ⟨_, rfl, ?_⟩; (try (rw [drewN_self w34]; generalize hq_ : World.drewN w34 _ = w34; have n0_ : Aside0 (w34.heap[gb200]? = some (.cells #[.int .i64 0, .int .i64 0, .int .i64 0, .int .i64 0] 52 (0, 0))) := ⟨by rw [← hq_]; exact (by (with_reducible repeat (first | refine blk_drewN ?_ _ | refine blk_drew ?_ | refine blk_alloc ?_ _)); exact BK200.out)⟩; have n1_ : Aside0 (Below w.heap.size w w34) := ⟨by rw [← hq_]; exact (by repeat (first | (with_reducible first | exact HB.out | apply below_alloc | apply pw_below_drewN | apply below_drew1 | refine below_set ?_ GE200.out) | exact HB.out))⟩; clear BK200 HB hq_; have BK200 := n0_; have HB := n1_; clear n0_ n1_))) | ((with_reducible refine gate_callee (f := 47) rfl ?_); refine goesL_ (some 24) rfl rfl Try.func47 (by kernel_rfl) rfl #[.slice A0 l0.length c0, .int .i64 4, .int .i64 1] rfl (by (try simp only [List.map_toArray, List.map_cons, List.map_nil]); first | done | rfl | (simp only [List.length_drop, List.length_take]; rfl)) ?_; (with_reducible refine (bollardref03_get.calls k _ _ l0 4 1 t203 _ ?side1 ?side2 A7.out).mono ?_); (case side1 => repeat (first | exact (Kd.C_below HR0.out HB.out) | (with_reducible refine Kd.C_alloc ?_ _) | (with_reducible refine Kd.C_drewN ?_ _) | (with_reducible refine Kd.C_drew ?_))); (case side2 => exact HC0.out); rintro e w' ⟨rfl, ⟨nd, rfl⟩⟩; refine ⟨_, rfl, ?_⟩; (try (rw [drewN_self w34]; generalize hq_ : World.drewN w34 _ = w34; have n0_ : Aside0 (w34.heap[gb200]? = some (.cells #[.int .i64 0, .int .i64 0, .int .i64 0, .int .i64 0] 52 (0, 0))) := ⟨by rw [← hq_]; exact (by (with_reducible repeat (first | refine blk_drewN ?_ _ | refine blk_drew ?_ | refine blk_alloc ?_ _)); exact BK200.out)⟩; have n1_ : Aside0 (Below w.heap.size w w34) := ⟨by rw [← hq_]; exact (by repeat (first | (with_reducible first | exact HB.out | apply below_alloc | apply pw_below_drewN | apply below_drew1 | refine below_set ?_ GE200.out) | exact HB.out))⟩; clear BK200 HB hq_; have BK200 := n0_; have HB := n1_; clear n0_ n1_))) | ((with_reducible refine gate_callee (f := 47) rfl ?_); refine goesL_ (some 26) rfl rfl Try.func47 (by kernel_rfl) rfl #[.slice A0 l0.length c0, .int .i64 5, .int .i64 1] rfl (by (try simp only [List.map_toArray, List.map_cons, List.map_nil]); first | done | rfl | (simp only [List.length_drop, List.length_take]; rfl)) ?_; (with_reducible refine (bollardref03_get.calls k _ _ l0 5 1 t204 _ ?side1 ?side2 A8.out).mono ?_); (case side1 => repeat (first | exact (Kd.C_below HR0.out HB.out) | (with_reducible refine Kd.C_alloc ?_ _) | (with_reducible refine Kd.C_drewN ?_ _) | (with_reducible refine Kd.C_drew ?_))); (case side2 => exact HC0.out); rintro e w' ⟨rfl, ⟨nd, rfl⟩⟩; refine ⟨_, rfl, ?_⟩; (try (rw [drewN_self w34]; generalize hq_ : World.drewN w34 _ = w34; have n0_ : Aside0 (w34.heap[gb200]? = some (.cells #[.int .i64 0, .int .i64 0, .int .i64 0, .int .i64 0] 52 (0, 0))) := ⟨by rw [← hq_]; exact (by (with_reducible repeat (first | refine blk_drewN ?_ _ | refine blk_drew ?_ | refine blk_alloc ?_ _)); exact BK200.out)⟩; have n1_ : Aside0 (Below w.heap.size w w34) := ⟨by rw [← hq_]; exact (by repeat (first | (with_reducible first | exact HB.out | apply below_alloc | apply pw_below_drewN | apply below_drew1 | refine below_set ?_ GE200.out) | exact HB.out))⟩; clear BK200 HB hq_; have BK200 := n0_; have HB := n1_; clear n0_ n1_))) | ((with_reducible refine gate_callee (f := 47) rfl ?_); refine goesL_ (some 29) rfl rfl Try.func47 (by kernel_rfl) rfl #[.slice A0 l0.length c0, .int .i64 6, .int .i64 1] rfl (by (try simp only [List.map_toArray, List.map_cons, List.map_nil]); first | done | rfl | (simp only [List.length_drop, List.length_take]; rfl)) ?_; (with_reducible refine (bollardref03_get.calls k _ _ l0 6 1 t205 _ ?side1 ?side2 A9.out).mono ?_); (case side1 => repeat (first | exact (Kd.C_below HR0.out HB.out) | (with_reducible refine Kd.C_alloc ?_ _) | (with_reducible refine Kd.C_drewN ?_ _) | (with_reducible refine Kd.C_drew ?_))); (case side2 => exact HC0.out); rintro e w' ⟨rfl, ⟨nd, rfl⟩⟩; refine ⟨_, rfl, ?_⟩; (try (rw [drewN_self w34]; generalize hq_ : World.drewN w34 _ = w34; have n0_ : Aside0 (w34.heap[gb200]? = some (.cells #[.int .i64 0, .int .i64 0, .int .i64 0, .int .i64 0] 52 (0, 0))) := ⟨by rw [← hq_]; exact (by (with_reducible repeat (first | refine blk_drewN ?_ _ | refine blk_drew ?_ | refine blk_alloc ?_ _)); exact BK200.out)⟩; have n1_ : Aside0 (Below w.heap.size w w34) := ⟨by rw [← hq_]; exact (by repeat (first | (with_reducible first | exact HB.out | apply below_alloc | apply pw_below_drewN | apply below_drew1 | refine below_set ?_ GE200.out) | exact HB.out))⟩; clear BK200 HB hq_; have BK200 := n0_; have HB := n1_; clear n0_ n1_))) | ((with_reducible refine gate_callee (f := 47) rfl ?_); refine goesL_ (some 32) rfl rfl Try.func47 (by kernel_rfl) rfl #[.slice A0 l0.length c0, .int .i64 8, .int .i64 4] rfl (by (try simp only [List.map_toArray, List.map_cons, List.map_nil]); first | done | rfl | (simp only [List.length_drop, List.length_take]; rfl)) ?_; (with_reducible refine (bollardref03_get.calls k _ _ l0 8 4 t206 _ ?side1 ?side2 A10.out).mono ?_); (case side1 => repeat (first | exact (Kd.C_below HR0.out HB.out) | (with_reducible refine Kd.C_alloc ?_ _) | (with_reducible refine Kd.C_drewN ?_ _) | (with_reducible refine Kd.C_drew ?_))); (case side2 => exact HC0.out); rintro e w' ⟨rfl, ⟨nd, rfl⟩⟩; refine ⟨_, rfl, ?_⟩; (try (rw [drewN_self w34]; generalize hq_ : World.drewN w34 _ = w34; have n0_ : Aside0 (w34.heap[gb200]? = some (.cells #[.int .i64 0, .int .i64 0, .int .i64 0, .int .i64 0] 52 (0, 0))) := ⟨by rw [← hq_]; exact (by (with_reducible repeat (first | refine blk_drewN ?_ _ | refine blk_drew ?_ | refine blk_alloc ?_ _)); exact BK200.out)⟩; have n1_ : Aside0 (Below w.heap.size w w34) := ⟨by rw [← hq_]; exact (by repeat (first | (with_reducible first | exact HB.out | apply below_alloc | apply pw_below_drewN | apply below_drew1 | refine below_set ?_ GE200.out) | exact HB.out))⟩; clear BK200 HB hq_; have BK200 := n0_; have HB := n1_; clear n0_ n1_))) | ((with_reducible refine gate_dst (N := 4) rfl ?_); refine box_event ?hg (N := 4) ?hd (cs := #[.int .i64 0, .int .i64 0, .int .i64 0, .int .i64 0]) (t := 52) ?hr ?_; (case hd => rfl); (case hg => rfl); (case hr => first | (go_simp; done) | (go_simp; rfl)); intro gb207 hg w37 hbox hb; have n0_ := Aside0.mk (blk_below (g := gb200) (o := .cells #[.int .i64 0, .int .i64 0, .int .i64 0, .int .i64 0] 52 (0, 0)) (by (with_reducible repeat (first | refine blk_drewN ?_ _ | refine blk_drew ?_ | refine blk_alloc ?_ _)); exact BK200.out) hb); have n1_ := Aside0.mk (below_step (by repeat (first | (with_reducible first | exact HB.out | apply below_alloc | apply pw_below_drewN | apply below_drew1 | refine below_set ?_ GE200.out) | exact HB.out)) hb); have n2_ := Aside0.mk (hbox); have n3_ := Aside0.mk ((by rw [hg]; exact (below_size (by repeat (first | (with_reducible first | exact HB.out | apply below_alloc | apply pw_below_drewN | apply below_drew1 | refine below_set ?_ GE200.out) | exact HB.out))) : w.heap.size ≤ gb207)); have n4_ := Aside0.mk ((by rw [hg]; exact (below_size (by repeat (first | (with_reducible first | exact HB.out | apply below_alloc | apply pw_below_drewN | apply below_drew1 | refine below_set ?_ GE200.out) | exact HB.out))) : w.heap.size ≤ gb207)); have n5_ := Aside0.mk ((by rw [hg]; exact Nat.ne_of_lt (blk_lt (g := gb200) (o := .cells #[.int .i64 0, .int .i64 0, .int .i64 0, .int .i64 0] 52 (0, 0)) (by (with_reducible repeat (first | refine blk_drewN ?_ _ | refine blk_drew ?_ | refine blk_alloc ?_ _)); exact BK200.out)) : gb200 ≠ gb207)); have n6_ := Aside0.mk ((by rw [hg]; exact Nat.ne_of_gt (blk_lt (g := gb200) (o := .cells #[.int .i64 0, .int .i64 0, .int .i64 0, .int .i64 0] 52 (0, 0)) (by (with_reducible repeat (first | refine blk_drewN ?_ _ | refine blk_drew ?_ | refine blk_alloc ?_ _)); exact BK200.out)) : gb207 ≠ gb200)); clear BK200; clear HB; have BK200 := n0_; have HB := n1_; have BK207 := n2_; have GW207 := n3_; have GE207 := n4_; have NB200_207 := n5_; have NB207_200 := n6_; clear n0_ n1_ n2_ n3_ n4_ n5_ n6_; clear hb hbox hg; have hnb38 := NB207_200.out; have hnc38 := NB200_207.out; have hcz39_0 : w37.cell? ⟨gb207, 0, none⟩ = some (.int .i64 0) := (blk_cell BK207.out 0).trans rfl; have hcz39_1 : w37.cell? ⟨gb207, 1, none⟩ = some (.int .i64 0) := (blk_cell BK207.out 1).trans rfl; have hcz39_2 : w37.cell? ⟨gb207, 2, none⟩ = some (.int .i64 0) := (blk_cell BK207.out 2).trans rfl; have hcz39_3 : w37.cell? ⟨gb207, 3, none⟩ = some (.int .i64 0) := (blk_cell BK207.out 3).trans rfl; have hfz39_0 := blk_frozen BK207.out 0; have hfz39_1 := blk_frozen BK207.out 1; have hfz39_2 := blk_frozen BK207.out 2; have hfz39_3 := blk_frozen BK207.out 3) | ((with_reducible refine gate_callee (f := 29) rfl ?_); refine goesL_ (some 36) rfl rfl Try.func29 (by kernel_rfl) rfl #[.agg #[.int .i64 t203, .int .i64 (wrap64 (t204 + 1)), .int .i64 t205, .int .i64 t206]] rfl (by (try simp only [List.map_toArray, List.map_cons, List.map_nil]); first | done | rfl | (simp only [List.length_drop, List.length_take]; rfl)) ?_; (with_reducible refine (bollardref03_EncodeSuper.calls k t203 (wrap64 (t204 + 1)) t205 t206 t208 t211 _ A11.out).mono ?_); rintro e w40 ⟨v209, rfl, ho0, hb⟩; refine ⟨_, rfl, ?_⟩; have n0_ := Aside0.mk (Kd.R_lower ho0 (below_size (by repeat (first | (with_reducible first | exact HB.out | apply below_alloc | apply pw_below_drewN | apply below_drew1 | refine below_set ?_ GE200.out | refine below_set ?_ GE207.out) | exact HB.out)))); have n1_ := Aside0.mk (blk_below (g := gb200) (o := .cells #[.int .i64 0, .int .i64 0, .int .i64 0, .int .i64 0] 52 (0, 0)) (by (with_reducible repeat (first | refine blk_drewN ?_ _ | refine blk_drew ?_ | refine blk_alloc ?_ _)); refine blk_far ?_ NB200_207.out _; (with_reducible repeat (first | refine blk_drewN ?_ _ | refine blk_drew ?_ | refine blk_alloc ?_ _)); refine blk_far ?_ NB200_207.out _; (with_reducible repeat (first | refine blk_drewN ?_ _ | refine blk_drew ?_ | refine blk_alloc ?_ _)); refine blk_far ?_ NB200_207.out _; (with_reducible repeat (first | refine blk_drewN ?_ _ | refine blk_drew ?_ | refine blk_alloc ?_ _)); refine blk_far ?_ NB200_207.out _; (with_reducible repeat (first | refine blk_drewN ?_ _ | refine blk_drew ?_ | refine blk_alloc ?_ _)); exact BK200.out) hb); have n2_ := Aside0.mk (blk_below (g := gb207) (o := .cells #[.int .i64 t203, .int .i64 (wrap64 (t204 + 1)), .int .i64 t205, .int .i64 t206] 52 (0, 0)) (by (with_reducible repeat (first | refine blk_drewN ?_ _ | refine blk_drew ?_ | refine blk_alloc ?_ _)); refine blk_put (cs := #[.int .i64 t203, .int .i64 (wrap64 (t204 + 1)), .int .i64 t205, .int .i64 0]) ?_ 3 _ rfl; (with_reducible repeat (first | refine blk_drewN ?_ _ | refine blk_drew ?_ | refine blk_alloc ?_ _)); refine blk_put (cs := #[.int .i64 t203, .int .i64 (wrap64 (t204 + 1)), .int .i64 0, .int .i64 0]) ?_ 2 _ rfl; (with_reducible repeat (first | refine blk_drewN ?_ _ | refine blk_drew ?_ | refine blk_alloc ?_ _)); refine blk_put (cs := #[.int .i64 t203, .int .i64 0, .int .i64 0, .int .i64 0]) ?_ 1 _ rfl; (with_reducible repeat (first | refine blk_drewN ?_ _ | refine blk_drew ?_ | refine blk_alloc ?_ _)); refine blk_put (cs := #[.int .i64 0, .int .i64 0, .int .i64 0, .int .i64 0]) ?_ 0 _ rfl; (with_reducible repeat (first | refine blk_drewN ?_ _ | refine blk_drew ?_ | refine blk_alloc ?_ _)); exact BK207.out) hb); have n3_ := Aside0.mk (below_step (by repeat (first | (with_reducible first | exact HB.out | apply below_alloc | apply pw_below_drewN | apply below_drew1 | refine below_set ?_ GE200.out | refine below_set ?_ GE207.out) | exact HB.out)) hb); clear BK200; clear BK207; clear HB; have HO210 := n0_; have BK200 := n1_; have BK207 := n2_; have HB := n3_; clear n0_ n1_ n2_ n3_; (try clear hb); (try clear hb2); (try clear hk); (try clear hi); (try clear ho0); have hcz41_0 : w40.cell? ⟨gb200, 0, none⟩ = some (.int .i64 0) := (blk_cell BK200.out 0).trans rfl; have hcz41_1 : w40.cell? ⟨gb200, 1, none⟩ = some (.int .i64 0) := (blk_cell BK200.out 1).trans rfl; have hcz41_2 : w40.cell? ⟨gb200, 2, none⟩ = some (.int .i64 0) := (blk_cell BK200.out 2).trans rfl; have hcz41_3 : w40.cell? ⟨gb200, 3, none⟩ = some (.int .i64 0) := (blk_cell BK200.out 3).trans rfl; have hfz41_0 := blk_frozen BK200.out 0; have hfz41_1 := blk_frozen BK200.out 1; have hfz41_2 := blk_frozen BK200.out 2; have hfz41_3 := blk_frozen BK200.out 3))
            refine bodyPost_ret (results_ct rfl _ _ gb200 52 #[.int .i64 0, .int .i64 0, .int .i64 0, .int .i64 0] (0, 0) _ rfl (by (with_reducible repeat (first | refine blk_drewN ?_ _ | refine blk_drew ?_ | refine blk_alloc ?_ _)); refine blk_put (cs := #[.int .i64 0, .int .i64 0, .int .i64 0, .int .i64 0]) ?_ 3 _ rfl; (with_reducible repeat (first | refine blk_drewN ?_ _ | refine blk_drew ?_ | refine blk_alloc ?_ _)); refine blk_put (cs := #[.int .i64 0, .int .i64 0, .int .i64 0, .int .i64 0]) ?_ 2 _ rfl; (with_reducible repeat (first | refine blk_drewN ?_ _ | refine blk_drew ?_ | refine blk_alloc ?_ _)); refine blk_put (cs := #[.int .i64 0, .int .i64 0, .int .i64 0, .int .i64 0]) ?_ 1 _ rfl; (with_reducible repeat (first | refine blk_drewN ?_ _ | refine blk_drew ?_ | refine blk_alloc ?_ _)); refine blk_put (cs := #[.int .i64 0, .int .i64 0, .int .i64 0, .int .i64 0]) ?_ 0 _ rfl; (with_reducible repeat (first | refine blk_drewN ?_ _ | refine blk_drew ?_ | refine blk_alloc ?_ _)); exact BK200.out) Try.underlying52 rfl (by kernel_rfl)) rfl ?_
            exact ⟨by first | rfl | (simp [errW_none, errW_some] <;> rfl) | (simp [*, errW_none, errW_some] <;> rfl), by repeat (first | (with_reducible first | exact HB.out | apply below_alloc | apply pw_below_drewN | apply below_drew1 | refine below_set ?_ GE200.out | refine below_set ?_ GE207.out) | exact HB.out)⟩
        · replace c6 := Bool.eq_false_iff.mpr c6
          subst c6
          have H1 : (some (0, 0, 0, 0, 30)) = some (r1, r2, r3, r4, r5) := by rw [if_neg (show ¬ (false = true) by decide)] at H; exact H
          clear H
          have H := H1
          clear H1
          simp only [Option.some.injEq, Prod.mk.injEq] at H
          obtain ⟨rfl, rfl, rfl, rfl, rfl⟩ := H
          go_enter Try.func31, Try.ntmps31
          go_wp2_with (first | ((with_reducible refine gate_dst (N := 2) rfl ?_); refine box_event ?hg (N := 2) ?hd (cs := #[.int .i64 0, .int .i64 0, .int .i64 0, .int .i64 0]) (t := 52) ?hr ?_; (case hd => rfl); (case hg => rfl); (case hr => first | (go_simp; done) | (go_simp; rfl)); intro gb200 hg w42 hbox hb; have n0_ := Aside0.mk (below_step (by repeat (first | (with_reducible first | exact HB.out | apply below_alloc | apply pw_below_drewN | apply below_drew1) | exact HB.out)) hb); have n1_ := Aside0.mk (hbox); have n2_ := Aside0.mk ((by rw [hg]; exact (below_size (by repeat (first | (with_reducible first | exact HB.out | apply below_alloc | apply pw_below_drewN | apply below_drew1) | exact HB.out))) : w.heap.size ≤ gb200)); have n3_ := Aside0.mk ((by rw [hg]; exact (below_size (by repeat (first | (with_reducible first | exact HB.out | apply below_alloc | apply pw_below_drewN | apply below_drew1) | exact HB.out))) : w.heap.size ≤ gb200)); clear HB; have HB := n0_; have BK200 := n1_; have GW200 := n2_; have GE200 := n3_; clear n0_ n1_ n2_ n3_; clear hb hbox hg; obtain ⟨i043, hi043, _, hsz43, _⟩ := info_parts info5; obtain ⟨hcut43, hA43, hC43⟩ := print_take_of (P := Try.prog) (Value.int .u8) 0 26 5 .i64 Try.underlying26 hi043 hsz43 A0 c0 l0 4 (by omega) (of_decide_eq_true (by first | (with_reducible assumption) | assumption)) HC0.out; have HR201 := Aside0.mk (Kd.C_of_reads (h1 := fun _ => rfl) (hA43 _ (Kd.reads_of_C HR0.out))); have HC201 := Aside0.mk hC43; clear hA43 hC43 hi043 hsz43; have hcv44 := Kd.C_string (P := Try.prog) (A := A0) (c := c0) Try.underlying26 Try.underlying5 Try.underlying9 (Kd.C_below HR201.out HB.out); have hcv44s := hcv44; simp only [Int.reduceToNat, List.length_take] at hcv44s) | ((with_reducible refine gate_callee (f := 56) rfl ?_); refine goesL_ (some 20) rfl rfl Try.func56 (by kernel_rfl) rfl #[.slice A0 l0.length c0] rfl (by (try simp only [List.map_toArray, List.map_cons, List.map_nil]); first | done | rfl | (simp only [List.length_drop, List.length_take]; rfl)) ?_; (with_reducible refine (bollardref01_Sealed.calls k _ _ l0 false _ ?side1 ?side2 A5.out).mono ?_); (case side1 => repeat (first | exact (Kd.C_below HR0.out HB.out) | (with_reducible refine Kd.C_alloc ?_ _) | (with_reducible refine Kd.C_drewN ?_ _) | (with_reducible refine Kd.C_drew ?_))); (case side2 => exact HC0.out); rintro e w' ⟨rfl, ⟨nd, rfl⟩⟩; refine ⟨_, rfl, ?_⟩; (try (rw [drewN_self w42]; generalize hq_ : World.drewN w42 _ = w42; have n0_ : Aside0 (w42.heap[gb200]? = some (.cells #[.int .i64 0, .int .i64 0, .int .i64 0, .int .i64 0] 52 (0, 0))) := ⟨by rw [← hq_]; exact (by (with_reducible repeat (first | refine blk_drewN ?_ _ | refine blk_drew ?_ | refine blk_alloc ?_ _)); exact BK200.out)⟩; have n1_ : Aside0 (Below w.heap.size w w42) := ⟨by rw [← hq_]; exact (by repeat (first | (with_reducible first | exact HB.out | apply below_alloc | apply pw_below_drewN | apply below_drew1 | refine below_set ?_ GE200.out) | exact HB.out))⟩; clear BK200 HB hq_; have BK200 := n0_; have HB := n1_; clear n0_ n1_)); have hcz45_0 : w42.cell? ⟨gb200, 0, none⟩ = some (.int .i64 0) := (blk_cell BK200.out 0).trans rfl; have hcz45_1 : w42.cell? ⟨gb200, 1, none⟩ = some (.int .i64 0) := (blk_cell BK200.out 1).trans rfl; have hcz45_2 : w42.cell? ⟨gb200, 2, none⟩ = some (.int .i64 0) := (blk_cell BK200.out 2).trans rfl; have hcz45_3 : w42.cell? ⟨gb200, 3, none⟩ = some (.int .i64 0) := (blk_cell BK200.out 3).trans rfl; have hfz45_0 := blk_frozen BK200.out 0; have hfz45_1 := blk_frozen BK200.out 1; have hfz45_2 := blk_frozen BK200.out 2; have hfz45_3 := blk_frozen BK200.out 3))
          refine bodyPost_ret (results_ct rfl _ _ gb200 52 #[.int .i64 0, .int .i64 0, .int .i64 0, .int .i64 0] (0, 0) _ rfl (by (with_reducible repeat (first | refine blk_drewN ?_ _ | refine blk_drew ?_ | refine blk_alloc ?_ _)); refine blk_put (cs := #[.int .i64 0, .int .i64 0, .int .i64 0, .int .i64 0]) ?_ 3 _ rfl; (with_reducible repeat (first | refine blk_drewN ?_ _ | refine blk_drew ?_ | refine blk_alloc ?_ _)); refine blk_put (cs := #[.int .i64 0, .int .i64 0, .int .i64 0, .int .i64 0]) ?_ 2 _ rfl; (with_reducible repeat (first | refine blk_drewN ?_ _ | refine blk_drew ?_ | refine blk_alloc ?_ _)); refine blk_put (cs := #[.int .i64 0, .int .i64 0, .int .i64 0, .int .i64 0]) ?_ 1 _ rfl; (with_reducible repeat (first | refine blk_drewN ?_ _ | refine blk_drew ?_ | refine blk_alloc ?_ _)); refine blk_put (cs := #[.int .i64 0, .int .i64 0, .int .i64 0, .int .i64 0]) ?_ 0 _ rfl; (with_reducible repeat (first | refine blk_drewN ?_ _ | refine blk_drew ?_ | refine blk_alloc ?_ _)); exact BK200.out) Try.underlying52 rfl (by kernel_rfl)) rfl ?_
          exact ⟨by first | rfl | (simp [errW_none, errW_some] <;> rfl) | (simp [*, errW_none, errW_some] <;> rfl), by repeat (first | (with_reducible first | exact HB.out | apply below_alloc | apply pw_below_drewN | apply below_drew1 | refine below_set ?_ GE200.out) | exact HB.out)⟩
      · rw [if_neg c4] at H
        have c4b0 : ((strOfNums (l0.take 4)).toList == ([98, 111, 108, 108] : List UInt8)) = false := beq_eq_false_iff_ne.mpr c4
        have c4b1 : ((strOfNums (l0.take 4)).toList != ([98, 111, 108, 108] : List UInt8)) = true := bne_iff_ne.mpr c4
        simp only [Option.some.injEq, Prod.mk.injEq] at H
        obtain ⟨rfl, rfl, rfl, rfl, rfl⟩ := H
        go_enter Try.func31, Try.ntmps31
        go_wp2_with (first | ((with_reducible refine gate_dst (N := 2) rfl ?_); refine box_event ?hg (N := 2) ?hd (cs := #[.int .i64 0, .int .i64 0, .int .i64 0, .int .i64 0]) (t := 52) ?hr ?_; (case hd => rfl); (case hg => rfl); (case hr => first | (go_simp; done) | (go_simp; rfl)); intro gb200 hg w46 hbox hb; have n0_ := Aside0.mk (below_step (by repeat (first | (with_reducible first | exact HB.out | apply below_alloc | apply pw_below_drewN | apply below_drew1) | exact HB.out)) hb); have n1_ := Aside0.mk (hbox); have n2_ := Aside0.mk ((by rw [hg]; exact (below_size (by repeat (first | (with_reducible first | exact HB.out | apply below_alloc | apply pw_below_drewN | apply below_drew1) | exact HB.out))) : w.heap.size ≤ gb200)); have n3_ := Aside0.mk ((by rw [hg]; exact (below_size (by repeat (first | (with_reducible first | exact HB.out | apply below_alloc | apply pw_below_drewN | apply below_drew1) | exact HB.out))) : w.heap.size ≤ gb200)); clear HB; have HB := n0_; have BK200 := n1_; have GW200 := n2_; have GE200 := n3_; clear n0_ n1_ n2_ n3_; clear hb hbox hg; obtain ⟨i047, hi047, _, hsz47, _⟩ := info_parts info5; obtain ⟨hcut47, hA47, hC47⟩ := print_take_of (P := Try.prog) (Value.int .u8) 0 26 5 .i64 Try.underlying26 hi047 hsz47 A0 c0 l0 4 (by omega) (of_decide_eq_true (by first | (with_reducible assumption) | assumption)) HC0.out; have HR201 := Aside0.mk (Kd.C_of_reads (h1 := fun _ => rfl) (hA47 _ (Kd.reads_of_C HR0.out))); have HC201 := Aside0.mk hC47; clear hA47 hC47 hi047 hsz47; have hcv48 := Kd.C_string (P := Try.prog) (A := A0) (c := c0) Try.underlying26 Try.underlying5 Try.underlying9 (Kd.C_below HR201.out HB.out); have hcv48s := hcv48; simp only [Int.reduceToNat, List.length_take] at hcv48s; have hcz49_0 : w46.cell? ⟨gb200, 0, none⟩ = some (.int .i64 0) := (blk_cell BK200.out 0).trans rfl; have hcz49_1 : w46.cell? ⟨gb200, 1, none⟩ = some (.int .i64 0) := (blk_cell BK200.out 1).trans rfl; have hcz49_2 : w46.cell? ⟨gb200, 2, none⟩ = some (.int .i64 0) := (blk_cell BK200.out 2).trans rfl; have hcz49_3 : w46.cell? ⟨gb200, 3, none⟩ = some (.int .i64 0) := (blk_cell BK200.out 3).trans rfl; have hfz49_0 := blk_frozen BK200.out 0; have hfz49_1 := blk_frozen BK200.out 1; have hfz49_2 := blk_frozen BK200.out 2; have hfz49_3 := blk_frozen BK200.out 3))
        refine bodyPost_ret (results_ct rfl _ _ gb200 52 #[.int .i64 0, .int .i64 0, .int .i64 0, .int .i64 0] (0, 0) _ rfl (by (with_reducible repeat (first | refine blk_drewN ?_ _ | refine blk_drew ?_ | refine blk_alloc ?_ _)); refine blk_put (cs := #[.int .i64 0, .int .i64 0, .int .i64 0, .int .i64 0]) ?_ 3 _ rfl; (with_reducible repeat (first | refine blk_drewN ?_ _ | refine blk_drew ?_ | refine blk_alloc ?_ _)); refine blk_put (cs := #[.int .i64 0, .int .i64 0, .int .i64 0, .int .i64 0]) ?_ 2 _ rfl; (with_reducible repeat (first | refine blk_drewN ?_ _ | refine blk_drew ?_ | refine blk_alloc ?_ _)); refine blk_put (cs := #[.int .i64 0, .int .i64 0, .int .i64 0, .int .i64 0]) ?_ 1 _ rfl; (with_reducible repeat (first | refine blk_drewN ?_ _ | refine blk_drew ?_ | refine blk_alloc ?_ _)); refine blk_put (cs := #[.int .i64 0, .int .i64 0, .int .i64 0, .int .i64 0]) ?_ 0 _ rfl; (with_reducible repeat (first | refine blk_drewN ?_ _ | refine blk_drew ?_ | refine blk_alloc ?_ _)); exact BK200.out) Try.underlying52 rfl (by kernel_rfl)) rfl ?_
        exact ⟨by first | rfl | (simp [errW_none, errW_some] <;> rfl) | (simp [*, errW_none, errW_some] <;> rfl), by repeat (first | (with_reducible first | exact HB.out | apply below_alloc | apply pw_below_drewN | apply below_drew1 | refine below_set ?_ GE200.out) | exact HB.out)⟩
    · rw [if_neg c3] at H
      exact absurd H (by simp)
  · rw [if_neg c2] at H
    have c2b0 : ((l0.length : Int) == 128) = false := beq_eq_false_iff_ne.mpr c2
    have c2b1 : ((l0.length : Int) != 128) = true := bne_iff_ne.mpr c2
    simp only [Option.some.injEq, Prod.mk.injEq] at H
    obtain ⟨rfl, rfl, rfl, rfl, rfl⟩ := H
    go_enter Try.func31, Try.ntmps31
    go_wp2_with (first | ((with_reducible refine gate_dst (N := 2) rfl ?_); refine box_event ?hg (N := 2) ?hd (cs := #[.int .i64 0, .int .i64 0, .int .i64 0, .int .i64 0]) (t := 52) ?hr ?_; (case hd => rfl); (case hg => rfl); (case hr => first | (go_simp; done) | (go_simp; rfl)); intro gb200 hg w50 hbox hb; have n0_ := Aside0.mk (below_step (by repeat (first | (with_reducible first | exact HB.out | apply below_alloc | apply pw_below_drewN | apply below_drew1) | exact HB.out)) hb); have n1_ := Aside0.mk (hbox); have n2_ := Aside0.mk ((by rw [hg]; exact (below_size (by repeat (first | (with_reducible first | exact HB.out | apply below_alloc | apply pw_below_drewN | apply below_drew1) | exact HB.out))) : w.heap.size ≤ gb200)); have n3_ := Aside0.mk ((by rw [hg]; exact (below_size (by repeat (first | (with_reducible first | exact HB.out | apply below_alloc | apply pw_below_drewN | apply below_drew1) | exact HB.out))) : w.heap.size ≤ gb200)); clear HB; have HB := n0_; have BK200 := n1_; have GW200 := n2_; have GE200 := n3_; clear n0_ n1_ n2_ n3_; clear hb hbox hg; have hcz51_0 : w50.cell? ⟨gb200, 0, none⟩ = some (.int .i64 0) := (blk_cell BK200.out 0).trans rfl; have hcz51_1 : w50.cell? ⟨gb200, 1, none⟩ = some (.int .i64 0) := (blk_cell BK200.out 1).trans rfl; have hcz51_2 : w50.cell? ⟨gb200, 2, none⟩ = some (.int .i64 0) := (blk_cell BK200.out 2).trans rfl; have hcz51_3 : w50.cell? ⟨gb200, 3, none⟩ = some (.int .i64 0) := (blk_cell BK200.out 3).trans rfl; have hfz51_0 := blk_frozen BK200.out 0; have hfz51_1 := blk_frozen BK200.out 1; have hfz51_2 := blk_frozen BK200.out 2; have hfz51_3 := blk_frozen BK200.out 3))
    refine bodyPost_ret (results_ct rfl _ _ gb200 52 #[.int .i64 0, .int .i64 0, .int .i64 0, .int .i64 0] (0, 0) _ rfl (by (with_reducible repeat (first | refine blk_drewN ?_ _ | refine blk_drew ?_ | refine blk_alloc ?_ _)); refine blk_put (cs := #[.int .i64 0, .int .i64 0, .int .i64 0, .int .i64 0]) ?_ 3 _ rfl; (with_reducible repeat (first | refine blk_drewN ?_ _ | refine blk_drew ?_ | refine blk_alloc ?_ _)); refine blk_put (cs := #[.int .i64 0, .int .i64 0, .int .i64 0, .int .i64 0]) ?_ 2 _ rfl; (with_reducible repeat (first | refine blk_drewN ?_ _ | refine blk_drew ?_ | refine blk_alloc ?_ _)); refine blk_put (cs := #[.int .i64 0, .int .i64 0, .int .i64 0, .int .i64 0]) ?_ 1 _ rfl; (with_reducible repeat (first | refine blk_drewN ?_ _ | refine blk_drew ?_ | refine blk_alloc ?_ _)); refine blk_put (cs := #[.int .i64 0, .int .i64 0, .int .i64 0, .int .i64 0]) ?_ 0 _ rfl; (with_reducible repeat (first | refine blk_drewN ?_ _ | refine blk_drew ?_ | refine blk_alloc ?_ _)); exact BK200.out) Try.underlying52 rfl (by kernel_rfl)) rfl ?_
    exact ⟨by first | rfl | (simp [errW_none, errW_some] <;> rfl) | (simp [*, errW_none, errW_some] <;> rfl), by repeat (first | (with_reducible first | exact HB.out | apply below_alloc | apply pw_below_drewN | apply below_drew1 | refine below_set ?_ GE200.out) | exact HB.out)⟩

end Go.Proofs.Ytdaeanodgnmknaa.XLayoutSupers
