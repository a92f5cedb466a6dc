-- Written by a program of this session (wip/tools)
import Derived.Test.YtpfiladhmcdjlaaXBitsTurnsx0
import Derived.Test.YtpfiladhmcdjlaaXBitsTurnsx1
namespace Go.Proofs.Ytpfiladhmcdjlaa.XBitsTurns
open Go.RowKit Go.Proofs.YtpfiladhmcdjlaaW.PrintWords Go.Proofs.YtpfiladhmcdjlaaW.PrintLast Go.Proofs.YtpfiladhmcdjlaaW.PrintMore
attribute [local go_sem] max2_int min2_int max_two min_two max_three min_three max_four min_four   -- for this text's walks alone
set_option linter.unusedVariables false
set_option linter.unusedSimpArgs false

/-! ### bollardlaw05_BitsTurns: function 6 -/
mutual
def bollardlaw05_BitsTurns.j0 : Nat → List Int → Int → List Int → Bool → Option (Bool)
  | 0, _, _, _, _ => none
  | k + 1, x0, x1, x7, x51 => if x51 = true then (some false) else (bollardlaw05_BitsTurns.l0 k x0 x1 x7 (wrap64 (8 * (x0.length : Int))) 0)
def bollardlaw05_BitsTurns.l0 : Nat → List Int → Int → List Int → Int → Int → Option (Bool)
  | 0, _, _, _, _, _ => none
  | k + 1, x0, x1, x7, x54, x55 => if x55 < x54 then (if x55 = x1 then (bollardlaw05_BitsTurns.l0 k x0 x1 x7 x54 (wrap64 (x55 + 1))) else ((bits_Has.f x7 x55).bind fun t127 => ((bits_Has.f x0 x55).bind fun t128 => (if (t127 != t128) = true then (some false) else (bollardlaw05_BitsTurns.l0 k x0 x1 x7 x54 (wrap64 (x55 + 1))))))) else ((bits_Apart.f k x7 x0 (wrap64 (8 * (x0.length : Int)))).bind fun t124 => (some (decide ((t124.length : Int) ≤ 1))))
end
def bollardlaw05_BitsTurns.f (k : Nat) (l0 : List Int) (a1 : Int) (a2 : Bool) : Option (Bool) := if (l0.length : Int) = 0 then ((bits_Count.f k l0 8).bind fun t117 => (some (t117 == 0))) else (if 0 ≤ (mn (l0.length : Int) 200) then (if (mn (l0.length : Int) 200) ≤ (l0.length : Int) then (if (IntKind.u64.wrap (wrap64 (8 * ((l0.take ((mn (l0.length : Int) 200) : Int).toNat).length : Int)))) = 0 then (none) else ((bits_With.f k (l0.take ((mn (l0.length : Int) 200) : Int).toNat) (wrap64 (Int.tmod (IntKind.u64.wrap (a1)) (IntKind.u64.wrap (wrap64 (8 * ((l0.take ((mn (l0.length : Int) 200) : Int).toNat).length : Int)))))) a2).bind fun bt119 => (if bt119.2 = 0 then (if (bt119.1.length : Int) = ((l0.take ((mn (l0.length : Int) 200) : Int).toNat).length : Int) then ((bits_Has.f bt119.1 (wrap64 (Int.tmod (IntKind.u64.wrap (a1)) (IntKind.u64.wrap (wrap64 (8 * ((l0.take ((mn (l0.length : Int) 200) : Int).toNat).length : Int))))))).bind fun t123 => (bollardlaw05_BitsTurns.j0 k (l0.take ((mn (l0.length : Int) 200) : Int).toNat) (wrap64 (Int.tmod (IntKind.u64.wrap (a1)) (IntKind.u64.wrap (wrap64 (8 * ((l0.take ((mn (l0.length : Int) 200) : Int).toNat).length : Int)))))) bt119.1 (t123 != a2))) else (bollardlaw05_BitsTurns.j0 k (l0.take ((mn (l0.length : Int) 200) : Int).toNat) (wrap64 (Int.tmod (IntKind.u64.wrap (a1)) (IntKind.u64.wrap (wrap64 (8 * ((l0.take ((mn (l0.length : Int) 200) : Int).toNat).length : Int)))))) bt119.1 true)) else (bollardlaw05_BitsTurns.j0 k (l0.take ((mn (l0.length : Int) 200) : Int).toNat) (wrap64 (Int.tmod (IntKind.u64.wrap (a1)) (IntKind.u64.wrap (wrap64 (8 * ((l0.take ((mn (l0.length : Int) 200) : Int).toNat).length : Int)))))) bt119.1 true)))) else (none)) else (none))
theorem bollardlaw05_BitsTurns.mono_l : ∀ k, (∀ y0 y1 y2 y3, LeO (bollardlaw05_BitsTurns.j0 k y0 y1 y2 y3) (bollardlaw05_BitsTurns.j0 (k + 1) y0 y1 y2 y3)) ∧ (∀ y0 y1 y2 y3 y4, LeO (bollardlaw05_BitsTurns.l0 k y0 y1 y2 y3 y4) (bollardlaw05_BitsTurns.l0 (k + 1) y0 y1 y2 y3 y4))
  | 0 => ⟨fun _ _ _ _ r h => by simp [bollardlaw05_BitsTurns.j0] at h, fun _ _ _ _ _ r h => by simp [bollardlaw05_BitsTurns.l0] at h⟩
  | k + 1 => by
    obtain ⟨ih0, ih1⟩ := bollardlaw05_BitsTurns.mono_l k
    refine ⟨?_, ?_⟩
    · intro y0 y1 y2 y3
      unfold bollardlaw05_BitsTurns.j0
      repeat' first
      | (with_reducible exact ih0 _ _ _ _)
      | (with_reducible exact ih1 _ _ _ _ _)
      | (with_reducible exact bits_Apart.mono _ _ _ _)
      | (with_reducible exact bits_Count.mono _ _ _)
      | (with_reducible exact bits_With.mono _ _ _ _)
      | (with_reducible exact LeO.refl _)
      | (with_reducible exact LeO.none _)
      | (with_reducible refine LeO.ite ?_ ?_)
      | (with_reducible refine LeO.bind ?_ (fun _ => ?_))
      | exact ih0 _ _ _ _
      | exact ih1 _ _ _ _ _
      | exact bits_Apart.mono _ _ _ _
      | exact bits_Count.mono _ _ _
      | exact bits_With.mono _ _ _ _
      | exact LeO.none _
      | refine LeO.ite ?_ ?_
      | refine LeO.bind ?_ (fun _ => ?_)
    · intro y0 y1 y2 y3 y4
      unfold bollardlaw05_BitsTurns.l0
      repeat' first
      | (with_reducible exact ih0 _ _ _ _)
      | (with_reducible exact ih1 _ _ _ _ _)
      | (with_reducible exact bits_Apart.mono _ _ _ _)
      | (with_reducible exact bits_Count.mono _ _ _)
      | (with_reducible exact bits_With.mono _ _ _ _)
      | (with_reducible exact LeO.refl _)
      | (with_reducible exact LeO.none _)
      | (with_reducible refine LeO.ite ?_ ?_)
      | (with_reducible refine LeO.bind ?_ (fun _ => ?_))
      | exact ih0 _ _ _ _
      | exact ih1 _ _ _ _ _
      | exact bits_Apart.mono _ _ _ _
      | exact bits_Count.mono _ _ _
      | exact bits_With.mono _ _ _ _
      | exact LeO.none _
      | refine LeO.ite ?_ ?_
      | refine LeO.bind ?_ (fun _ => ?_)
theorem bollardlaw05_BitsTurns.mono : ∀ a0 a1 a2 k, LeO (bollardlaw05_BitsTurns.f k a0 a1 a2) (bollardlaw05_BitsTurns.f (k + 1) a0 a1 a2) := by
  intro a0 a1 a2 k
  obtain ⟨ih0, ih1⟩ := bollardlaw05_BitsTurns.mono_l k
  unfold bollardlaw05_BitsTurns.f
  repeat' first
      | (with_reducible exact ih0 _ _ _ _)
      | (with_reducible exact ih1 _ _ _ _ _)
      | (with_reducible exact bits_Apart.mono _ _ _ _)
      | (with_reducible exact bits_Count.mono _ _ _)
      | (with_reducible exact bits_With.mono _ _ _ _)
      | (with_reducible exact LeO.refl _)
      | (with_reducible exact LeO.none _)
      | (with_reducible refine LeO.ite ?_ ?_)
      | (with_reducible refine LeO.bind ?_ (fun _ => ?_))
      | exact ih0 _ _ _ _
      | exact ih1 _ _ _ _ _
      | exact bits_Apart.mono _ _ _ _
      | exact bits_Count.mono _ _ _
      | exact bits_With.mono _ _ _ _
      | exact LeO.none _
      | refine LeO.ite ?_ ?_
      | refine LeO.bind ?_ (fun _ => ?_)
set_option maxHeartbeats 8000000 in
set_option maxRecDepth 100000 in
theorem bollardlaw05_BitsTurns.calls (k : Nat) (A0 : Option Addr) (c0 : Nat) (l0 : List Int) (a1 : Int) (a2 : Bool) (r : Bool) (w : World) (hr0 : Kd.C (Kd.int .u8) w A0 l0.length l0) (hc0 : l0.length ≤ c0) (h : bollardlaw05_BitsTurns.f k l0 a1 a2 = some r) :
    Calls Try.prog 6 #[.slice A0 l0.length c0, .int .i64 a1, .bool a2] w fun e w' => e = .returned (.bool r) ∧ Below w.heap.size w w' := by
  have HR0 := Aside0.mk hr0
  have HC0 := Aside0.mk hc0
  clear hr0 hc0
  have HB := Aside0.mk (Below.refl w.heap.size w)
  have H : (if (l0.length : Int) = 0 then ((bits_Count.f k l0 8).bind fun t117 => (some (t117 == 0))) else (if 0 ≤ (mn (l0.length : Int) 200) then (if (mn (l0.length : Int) 200) ≤ (l0.length : Int) then (if (IntKind.u64.wrap (wrap64 (8 * ((l0.take ((mn (l0.length : Int) 200) : Int).toNat).length : Int)))) = 0 then (none) else ((bits_With.f k (l0.take ((mn (l0.length : Int) 200) : Int).toNat) (wrap64 (Int.tmod (IntKind.u64.wrap (a1)) (IntKind.u64.wrap (wrap64 (8 * ((l0.take ((mn (l0.length : Int) 200) : Int).toNat).length : Int)))))) a2).bind fun bt119 => (if bt119.2 = 0 then (if (bt119.1.length : Int) = ((l0.take ((mn (l0.length : Int) 200) : Int).toNat).length : Int) then ((bits_Has.f bt119.1 (wrap64 (Int.tmod (IntKind.u64.wrap (a1)) (IntKind.u64.wrap (wrap64 (8 * ((l0.take ((mn (l0.length : Int) 200) : Int).toNat).length : Int))))))).bind fun t123 => (bollardlaw05_BitsTurns.j0 k (l0.take ((mn (l0.length : Int) 200) : Int).toNat) (wrap64 (Int.tmod (IntKind.u64.wrap (a1)) (IntKind.u64.wrap (wrap64 (8 * ((l0.take ((mn (l0.length : Int) 200) : Int).toNat).length : Int)))))) bt119.1 (t123 != a2))) else (bollardlaw05_BitsTurns.j0 k (l0.take ((mn (l0.length : Int) 200) : Int).toNat) (wrap64 (Int.tmod (IntKind.u64.wrap (a1)) (IntKind.u64.wrap (wrap64 (8 * ((l0.take ((mn (l0.length : Int) 200) : Int).toNat).length : Int)))))) bt119.1 true)) else (bollardlaw05_BitsTurns.j0 k (l0.take ((mn (l0.length : Int) 200) : Int).toNat) (wrap64 (Int.tmod (IntKind.u64.wrap (a1)) (IntKind.u64.wrap (wrap64 (8 * ((l0.take ((mn (l0.length : Int) 200) : Int).toNat).length : Int)))))) bt119.1 true)))) else (none)) else (none))) = some r := h
  clear h
  by_cases c4 : (l0.length : Int) = 0
  · rw [if_pos c4] at H
    have c4b0 : ((l0.length : Int) == 0) = true := beq_iff_eq.mpr c4
    have c4b1 : ((l0.length : Int) != 0) = false := bne_eq_false_iff_eq.mpr c4
    clear c4
    replace H := Option.bind_eq_some_iff.mp H
    obtain ⟨t117, A50, H⟩ := H
    replace H : (some (t117 == 0)) = some r := H
    have A5 := Aside0.mk A50
    clear A50
    obtain rfl := Option.some.inj H
    go_enter Try.func6, Try.ntmps6
    go_wp2_with (first | ((with_reducible refine gate_callee (f := 20) rfl ?_); refine goesL_ (some 14) rfl rfl Try.func20 (by kernel_rfl) rfl #[.slice A0 l0.length c0, .int .i64 8] rfl (by (try simp only [List.map_toArray, List.map_cons, List.map_nil]); first | done | rfl | (simp only [List.length_drop, List.length_take]; rfl)) ?_; (with_reducible refine (bits_Count.calls k _ _ l0 8 t117 _ ?side1 ?side2 A5.out).mono ?_); (case side1 => repeat (first | exact HR0.out | (with_reducible refine Kd.C_alloc ?_ _) | (with_reducible refine Kd.C_drewN ?_ _) | (with_reducible refine Kd.C_drew ?_))); (case side2 => exact HC0.out); rintro e w6 ⟨rfl, hb⟩; refine ⟨_, rfl, ?_⟩; have n0_ := Aside0.mk (below_step (by repeat (first | (with_reducible first | exact HB.out | apply below_alloc | apply pw_below_drewN | apply below_drew1) | exact HB.out)) hb); clear HB; have HB := n0_; clear n0_; (try clear hb); (try clear hb2); (try clear hk); (try clear hi)))
    go_ret
    exact ⟨by first | rfl | (simp [errW_none, errW_some] <;> rfl) | (simp [*, errW_none, errW_some] <;> rfl), by repeat (first | (with_reducible first | exact HB.out | apply below_alloc | apply pw_below_drewN | apply below_drew1) | exact HB.out)⟩
  · rw [if_neg c4] at H
    have c4b0 : ((l0.length : Int) == 0) = false := beq_eq_false_iff_ne.mpr c4
    have c4b1 : ((l0.length : Int) != 0) = true := bne_iff_ne.mpr c4
    have c4b2 : ¬ (l0 = []) := fun h_ => c4 (by rw [h_]; rfl)
    obtain ⟨ji7, hji7⟩ : ∃ j_ : Int, (mn (l0.length : Int) 200) = j_ := ⟨_, rfl⟩
    replace H : (if 0 ≤ (ji7) then (if (ji7) ≤ (l0.length : Int) then (if (IntKind.u64.wrap (wrap64 (8 * ((l0.take ((ji7) : Int).toNat).length : Int)))) = 0 then (none) else ((bits_With.f k (l0.take ((ji7) : Int).toNat) (wrap64 (Int.tmod (IntKind.u64.wrap (a1)) (IntKind.u64.wrap (wrap64 (8 * ((l0.take ((ji7) : Int).toNat).length : Int)))))) a2).bind fun bt119 => (if bt119.2 = 0 then (if (bt119.1.length : Int) = ((l0.take ((ji7) : Int).toNat).length : Int) then ((bits_Has.f bt119.1 (wrap64 (Int.tmod (IntKind.u64.wrap (a1)) (IntKind.u64.wrap (wrap64 (8 * ((l0.take ((ji7) : Int).toNat).length : Int))))))).bind fun t123 => (bollardlaw05_BitsTurns.j0 k (l0.take ((ji7) : Int).toNat) (wrap64 (Int.tmod (IntKind.u64.wrap (a1)) (IntKind.u64.wrap (wrap64 (8 * ((l0.take ((ji7) : Int).toNat).length : Int)))))) bt119.1 (t123 != a2))) else (bollardlaw05_BitsTurns.j0 k (l0.take ((ji7) : Int).toNat) (wrap64 (Int.tmod (IntKind.u64.wrap (a1)) (IntKind.u64.wrap (wrap64 (8 * ((l0.take ((ji7) : Int).toNat).length : Int)))))) bt119.1 true)) else (bollardlaw05_BitsTurns.j0 k (l0.take ((ji7) : Int).toNat) (wrap64 (Int.tmod (IntKind.u64.wrap (a1)) (IntKind.u64.wrap (wrap64 (8 * ((l0.take ((ji7) : Int).toNat).length : Int)))))) bt119.1 true)))) else (none)) else (none)) = some r := by first | (rw [hji7] at H; exact H) | (simp only [hji7] at H ⊢; exact H)
    (try (have hji7h : ji7 ≤ 200 := by (rw [← hji7]; unfold mn; (repeat' split) <;> omega)))
    (try (have hji7g : ji7 ≤ 64 := by omega))
    (try (have hji7l : 0 ≤ ji7 := by (rw [← hji7]; unfold mn; (repeat' split) <;> omega)))
    (try (have hji7m : 0 ≤ ji7 := by omega))
    have hji7_ : (if 200 < (l0.length : Int) then 200 else (l0.length : Int)) = ji7 := hji7
    by_cases c8 : 0 ≤ (ji7)
    · rw [if_pos c8] at H
      have c8b0 := eq_true c8
      have c8b1 : decide (0 ≤ (ji7)) = true := decide_eq_true c8
      clear c8
      by_cases c9 : (ji7) ≤ (l0.length : Int)
      · rw [if_pos c9] at H
        have c9b0 := eq_true c9
        have c9b1 : decide ((ji7) ≤ (l0.length : Int)) = true := decide_eq_true c9
        clear c9
        by_cases c10 : (IntKind.u64.wrap (wrap64 (8 * ((l0.take ((ji7) : Int).toNat).length : Int)))) = 0
        · rw [if_pos c10] at H
          exact absurd H (by simp)
        · rw [if_neg c10] at H
          have c10b0 : ((IntKind.u64.wrap (wrap64 (8 * ((l0.take ((ji7) : Int).toNat).length : Int)))) == 0) = false := beq_eq_false_iff_ne.mpr c10
          have c10b1 : ((IntKind.u64.wrap (wrap64 (8 * ((l0.take ((ji7) : Int).toNat).length : Int)))) != 0) = true := bne_iff_ne.mpr c10
          replace H := Option.bind_eq_some_iff.mp H
          obtain ⟨⟨t119, t120⟩, A110, H⟩ := H
          replace H : (if t120 = 0 then (if (t119.length : Int) = ((l0.take ((ji7) : Int).toNat).length : Int) then ((bits_Has.f t119 (wrap64 (Int.tmod (IntKind.u64.wrap (a1)) (IntKind.u64.wrap (wrap64 (8 * ((l0.take ((ji7) : Int).toNat).length : Int))))))).bind fun t123 => (bollardlaw05_BitsTurns.j0 k (l0.take ((ji7) : Int).toNat) (wrap64 (Int.tmod (IntKind.u64.wrap (a1)) (IntKind.u64.wrap (wrap64 (8 * ((l0.take ((ji7) : Int).toNat).length : Int)))))) t119 (t123 != a2))) else (bollardlaw05_BitsTurns.j0 k (l0.take ((ji7) : Int).toNat) (wrap64 (Int.tmod (IntKind.u64.wrap (a1)) (IntKind.u64.wrap (wrap64 (8 * ((l0.take ((ji7) : Int).toNat).length : Int)))))) t119 true)) else (bollardlaw05_BitsTurns.j0 k (l0.take ((ji7) : Int).toNat) (wrap64 (Int.tmod (IntKind.u64.wrap (a1)) (IntKind.u64.wrap (wrap64 (8 * ((l0.take ((ji7) : Int).toNat).length : Int)))))) t119 true)) = some r := H
          have A11 := Aside0.mk A110
          clear A110
          have HC12 := Aside0.mk H
          clear H
          obtain ⟨i013, hi013, _, hsz13, _⟩ := info_parts info5
          obtain ⟨hcut13, hA13, hC13⟩ := print_take_of (P := Try.prog) (Value.int .u8) 0 22 5 .i64 Try.underlying22 hi013 hsz13 A0 c0 l0 (ji7) (of_decide_eq_true (by first | (with_reducible assumption) | assumption)) (of_decide_eq_true (by first | (with_reducible assumption) | assumption)) HC0.out
          have HR118 := Aside0.mk (Kd.C_of_reads (h1 := fun _ => rfl) (hA13 _ (Kd.reads_of_C HR0.out)))
          have HC118 := Aside0.mk hC13
          clear hA13 hC13 hi013 hsz13
          obtain ⟨lt, hlt⟩ : ∃ l_ : List Int, l_ = l0.take ((ji7) : Int).toNat := ⟨_, rfl⟩
          have hjl : ((ji7) : Int).toNat = lt.length := by (rw [hlt]; have h1 := of_decide_eq_true c9b1; simp; omega)
          have hlb : lt.length ≤ 200 := by omega
          have hm8 : wrap64 (8 * (lt.length : Int)) = 8 * (lt.length : Int) := by (unfold wrap64; omega)
          have hu8 : IntKind.u64.wrap (8 * (lt.length : Int)) = 8 * (lt.length : Int) := by (have e : IntKind.u64.wrap (8 * (lt.length : Int)) = (8 * (lt.length : Int)) % 18446744073709551616 := by simp [IntKind.wrap, IntKind.bits, IntKind.signed]); rw [e]; omega
          rw [← hlt] at A11 HC12 HR118 HC118 c10 hcut13
          rw [hm8, hu8] at A11 HC12 c10
          have hc10 : ((8 * (lt.length : Int)) == 0) = false := beq_eq_false_iff_ne.mpr c10
          have hlz : ¬ (lt = []) := fun h_ => c10 (by rw [h_]; rfl)
          have hlp : 0 < lt.length := List.length_pos_iff.mpr hlz
          have HLT := Aside0.mk hlt
          have HM8 := Aside0.mk hm8
          clear hlt c10b0 c10b1 hm8 hu8 c10
          go_enter Try.func6, Try.ntmps6
          go_upto_region 6 with (first | ((with_reducible refine gate_callee (f := 10) rfl ?_); refine goesL_ (some 33) rfl rfl Try.func10 (by kernel_rfl) rfl #[.slice A0 lt.length c0, .int .i64 (wrap64 (Int.tmod (IntKind.u64.wrap (a1)) (8 * (lt.length : Int)))), .bool a2] rfl (by (try simp only [List.map_toArray, List.map_cons, List.map_nil]); first | done | (rw [show lt.length = (ji7).toNat from (by rw [List.length_take]; have h_ : ((ji7) : Int) ≤ (l0.length : Int) := of_decide_eq_true (by first | (with_reducible assumption) | assumption); omega)] <;> rfl) | (simp only [hji7]; rfl) | rfl | (simp only [List.length_drop, List.length_take]; rfl)) ?_; (with_reducible refine (bits_With.calls k _ _ lt (wrap64 (Int.tmod (IntKind.u64.wrap (a1)) (8 * (lt.length : Int)))) a2 t119 t120 _ ?side1 ?side2 A11.out).mono ?_); (case side1 => repeat (first | exact HR118.out | (with_reducible refine Kd.C_alloc ?_ _) | (with_reducible refine Kd.C_drewN ?_ _) | (with_reducible refine Kd.C_drew ?_))); (case side2 => exact HC118.out); rintro e w14 ⟨v121, rfl, ho0, hb⟩; refine ⟨_, rfl, ?_⟩; have n0_ := Aside0.mk (Kd.R_lower ho0 (below_size (by repeat (first | (with_reducible first | exact HB.out | apply below_alloc | apply pw_below_drewN | apply below_drew1) | exact HB.out)))); have n1_ := Aside0.mk (below_step (by repeat (first | (with_reducible first | exact HB.out | apply below_alloc | apply pw_below_drewN | apply below_drew1) | exact HB.out)) hb); clear HB; have HO122 := n0_; have HB := n1_; clear n0_ n1_; (try clear hb); (try clear hb2); (try clear hk); (try clear hi); (try clear ho0)))
          (try simp only [Act.put, List.setIfInBounds_toArray, List.set_cons_zero, List.set_cons_succ])
          go_cut [51] (fun v51 wc => ∃ (kq : Nat) (x51_11 : Bool), v51 = .bool x51_11 ∧ Aside0 (bollardlaw05_BitsTurns.j0 kq lt (wrap64 (Int.tmod (IntKind.u64.wrap (a1)) (8 * (lt.length : Int)))) t119 x51_11 = some r) ∧ Aside0 (kq ≤ k) ∧ Aside0 (Kd.R (Kd.int .u8) 5 wc w.heap.size (fun _ => True) v121 t119) ∧ Aside0 (Below w.heap.size w wc))
          case first =>
            have H := HC12.out
            clear HC12
            by_cases c15 : t120 = 0
            · rw [if_pos c15] at H
              have c15b0 : (t120 == 0) = true := beq_iff_eq.mpr c15
              have c15b1 : (t120 != 0) = false := bne_eq_false_iff_eq.mpr c15
              clear c15
              (first | rw [c15b0] | (simp only [i64_w, i32_w]; rw [c15b0]) | skip)
              by_cases c16 : (t119.length : Int) = (lt.length : Int)
              · rw [if_pos c16] at H
                have c16b0 : ((t119.length : Int) == (lt.length : Int)) = true := beq_iff_eq.mpr c16
                have c16b1 : ((t119.length : Int) != (lt.length : Int)) = false := bne_eq_false_iff_eq.mpr c16
                have c16b2 : (t119.length == lt.length) = true := by first | simpa using c16 | (simp at c16 ⊢; omega)
                clear c16
                replace H := Option.bind_eq_some_iff.mp H
                obtain ⟨t123, A170, H⟩ := H
                replace H : (bollardlaw05_BitsTurns.j0 k lt (wrap64 (Int.tmod (IntKind.u64.wrap (a1)) (8 * (lt.length : Int)))) t119 (t123 != a2)) = some r := H
                have A17 := Aside0.mk A170
                clear A170
                have H' := Aside0.mk H
                clear H
                obtain ⟨Ao18, co18, eo18⟩ := Kd.R_slice HO122.out
                subst eo18
                go_wp2_with (first | (go_at_call 12; (with_reducible refine (bits_Has.calls _ _ t119 (wrap64 (Int.tmod (IntKind.u64.wrap (a1)) (8 * (lt.length : Int)))) t123 _ ?side1 ?side2 A17.out).mono ?_); (case side1 => repeat (first | exact (Kd.R_reads' HO122.out).2.2 | (with_reducible refine Kd.C_alloc ?_ _) | (with_reducible refine Kd.C_drewN ?_ _) | (with_reducible refine Kd.C_drew ?_))); (case side2 => exact (Kd.R_reads' HO122.out).2.1); rintro e w' ⟨rfl, ⟨nd, rfl⟩⟩))
                go_meet
                case rel => exact ⟨_, ((t123 != a2)), (by first | rfl | (simp; done) | (simp [*]; done)), H', ⟨by first | omega | exact Nat.le_refl _⟩, ⟨by (with_reducible repeat (first | apply Kd.R_alloc | apply Kd.R_drewN | apply Kd.R_drew)); exact HO122.out⟩, ⟨by repeat (first | (with_reducible first | exact HB.out | apply below_alloc | apply pw_below_drewN | apply below_drew1) | exact HB.out)⟩⟩
              · rw [if_neg c16] at H
                have c16b0 : ((t119.length : Int) == (lt.length : Int)) = false := beq_eq_false_iff_ne.mpr c16
                have c16b1 : ((t119.length : Int) != (lt.length : Int)) = true := bne_iff_ne.mpr c16
                have c16b2 : (t119.length == lt.length) = false := by first | simpa using c16 | (simp at c16 ⊢; omega)
                have H' := Aside0.mk H
                clear H
                obtain ⟨Ao19, co19, eo19⟩ := Kd.R_slice HO122.out
                subst eo19
                go_wp2
                go_meet
                case rel => exact ⟨_, (true), (by first | rfl | (simp; done) | (simp [*]; done)), H', ⟨by first | omega | exact Nat.le_refl _⟩, ⟨by (with_reducible repeat (first | apply Kd.R_alloc | apply Kd.R_drewN | apply Kd.R_drew)); exact HO122.out⟩, ⟨by repeat (first | (with_reducible first | exact HB.out | apply below_alloc | apply pw_below_drewN | apply below_drew1) | exact HB.out)⟩⟩
            · rw [if_neg c15] at H
              have c15b0 : (t120 == 0) = false := beq_eq_false_iff_ne.mpr c15
              have c15b1 : (t120 != 0) = true := bne_iff_ne.mpr c15
              (first | rw [c15b0] | (simp only [i64_w, i32_w]; rw [c15b0]) | skip)
              have H' := Aside0.mk H
              clear H
              go_wp2
              go_meet
              case rel => exact ⟨_, (true), (by first | rfl | (simp; done) | (simp [*]; done)), H', ⟨by first | omega | exact Nat.le_refl _⟩, ⟨by (with_reducible repeat (first | apply Kd.R_alloc | apply Kd.R_drewN | apply Kd.R_drew)); exact HO122.out⟩, ⟨by repeat (first | (with_reducible first | exact HB.out | apply below_alloc | apply pw_below_drewN | apply below_drew1) | exact HB.out)⟩⟩
          case rest =>
            clear HC12
            try clear c1
            try clear c2
            try clear p2
            try clear c4
            try clear c4b0
            try clear c4b1
            try clear c4b2
            try clear c6
            try clear p6
            try clear c8
            try clear c8b0
            try clear c8b1
            try clear c9
            try clear c9b0
            try clear c9b1
            try clear c10
            try clear c10b0
            try clear c10b1
            try clear c15
            try clear c15b0
            try clear c15b1
            try clear c16
            try clear c16b0
            try clear c16b1
            try clear c16b2
            obtain ⟨kq, x51_11, rfl, HA, HJ11, HO_7, HB⟩ := hcut
            cases kq with
            | zero => exact absurd HA.out (by simp [bollardlaw05_BitsTurns.j0])
            | succ kj11 =>
              have H := HA.out
              clear HA
              simp only [bollardlaw05_BitsTurns.j0] at H
              (try simp only [HM8.out] at H)
              by_cases c20 : x51_11 = true
              · subst c20
                have H1 : (some false) = some r := by rw [if_pos rfl] at H; exact H
                clear H
                have H := H1
                clear H1
                obtain rfl := Option.some.inj H
                go_wp2
                go_ret
                exact ⟨by first | rfl | (simp [errW_none, errW_some] <;> rfl) | (simp only [← hji7]; first | rfl | (simp [errW_none, errW_some] <;> rfl)) | (simp [*, errW_none, errW_some] <;> rfl), by repeat (first | (with_reducible first | exact HB.out | apply below_alloc | apply pw_below_drewN | apply below_drew1) | exact HB.out)⟩
              · replace c20 := Bool.eq_false_iff.mpr c20
                subst c20
                have H1 : (bollardlaw05_BitsTurns.l0 kj11 lt (wrap64 (Int.tmod (IntKind.u64.wrap (a1)) (8 * (lt.length : Int)))) t119 (8 * (lt.length : Int)) 0) = some r := by rw [if_neg (show ¬ (false = true) by decide)] at H; exact H
                clear H
                have H := H1
                clear H1
                have H' := Aside0.mk H
                clear H
                go_wp2
                go_loopg [55] kj11 (fun kq v55 w' => ∃ (x55_2 : Int), v55 = .int .i64 x55_2 ∧ Aside0 (bollardlaw05_BitsTurns.l0 kq lt (wrap64 (Int.tmod (IntKind.u64.wrap (a1)) (8 * (lt.length : Int)))) t119 (8 * (lt.length : Int)) x55_2 = some r) ∧ Aside0 (kq ≤ kj11) ∧ Aside0 (Kd.R (Kd.int .u8) 5 w' w.heap.size (fun _ => True) v121 t119) ∧ Aside0 (Below w.heap.size w w'))
                case atStart => exact ⟨(0), (by first | rfl | (simp; done) | (simp [*]; done)), H', ⟨Nat.le_refl _⟩, ⟨by (with_reducible repeat (first | apply Kd.R_alloc | apply Kd.R_drewN | apply Kd.R_drew)); exact HO_7.out⟩, ⟨by repeat (first | (with_reducible first | exact HB.out | apply below_alloc | apply pw_below_drewN | apply below_drew1) | exact HB.out)⟩⟩
                case round =>
                  clear H'
                  try clear c1
                  try clear c2
                  try clear p2
                  try clear c4
                  try clear c4b0
                  try clear c4b1
                  try clear c4b2
                  try clear c6
                  try clear p6
                  try clear c8
                  try clear c8b0
                  try clear c8b1
                  try clear c9
                  try clear c9b0
                  try clear c9b1
                  try clear c10
                  try clear c10b0
                  try clear c10b1
                  try clear c15
                  try clear c15b0
                  try clear c15b1
                  try clear c16
                  try clear c16b0
                  try clear c16b1
                  try clear c16b2
                  try clear c20
                  try clear p2
                  try clear p6
                  obtain ⟨x55_2, rfl, HA, HK2, HO_7, HB⟩ := hrel
                  cases gk with
                  | zero => exact absurd HA.out (by simp [bollardlaw05_BitsTurns.l0])
                  | succ k2 =>
                    have H := HA.out
                    clear HA
                    simp only [bollardlaw05_BitsTurns.l0] at H
                    (try simp only [HM8.out] at H)
                    by_cases c21 : x55_2 < (8 * (lt.length : Int))
                    · rw [if_pos c21] at H
                      have c21b0 : decide (x55_2 < (8 * (lt.length : Int))) = true := decide_eq_true c21
                      clear c21
                      by_cases c22 : x55_2 = (wrap64 (Int.tmod (IntKind.u64.wrap (a1)) (8 * (lt.length : Int))))
                      · rw [if_pos c22] at H
                        have c22b0 : (x55_2 == (wrap64 (Int.tmod (IntKind.u64.wrap (a1)) (8 * (lt.length : Int))))) = true := beq_iff_eq.mpr c22
                        have c22b1 : (x55_2 != (wrap64 (Int.tmod (IntKind.u64.wrap (a1)) (8 * (lt.length : Int))))) = false := bne_eq_false_iff_eq.mpr c22
                        clear c22
                        have H' := Aside0.mk H
                        clear H
                        go_wp2
                        go_roundg k2
                        case measure => have := HJ11.out; have := HK2.out; omega
                        case rel => exact ⟨(wrap64 (x55_2 + 1)), (by first | rfl | (simp; done) | (simp [*]; done)), H', ⟨by have := HJ11.out; have := HK2.out; omega⟩, ⟨by (with_reducible repeat (first | apply Kd.R_alloc | apply Kd.R_drewN | apply Kd.R_drew)); exact HO_7.out⟩, ⟨by repeat (first | (with_reducible first | exact HB.out | apply below_alloc | apply pw_below_drewN | apply below_drew1) | exact HB.out)⟩⟩
                      · rw [if_neg c22] at H
                        have c22b0 : (x55_2 == (wrap64 (Int.tmod (IntKind.u64.wrap (a1)) (8 * (lt.length : Int))))) = false := beq_eq_false_iff_ne.mpr c22
                        have c22b1 : (x55_2 != (wrap64 (Int.tmod (IntKind.u64.wrap (a1)) (8 * (lt.length : Int))))) = true := bne_iff_ne.mpr c22
                        replace H := Option.bind_eq_some_iff.mp H
                        obtain ⟨t127, A230, H⟩ := H
                        replace H : ((bits_Has.f lt x55_2).bind fun t128 => (if (t127 != t128) = true then (some false) else (bollardlaw05_BitsTurns.l0 k2 lt (wrap64 (Int.tmod (IntKind.u64.wrap (a1)) (8 * (lt.length : Int)))) t119 (8 * (lt.length : Int)) (wrap64 (x55_2 + 1))))) = some r := H
                        have A23 := Aside0.mk A230
                        clear A230
                        replace H := Option.bind_eq_some_iff.mp H
                        obtain ⟨t128, A240, H⟩ := H
                        replace H : (if (t127 != t128) = true then (some false) else (bollardlaw05_BitsTurns.l0 k2 lt (wrap64 (Int.tmod (IntKind.u64.wrap (a1)) (8 * (lt.length : Int)))) t119 (8 * (lt.length : Int)) (wrap64 (x55_2 + 1)))) = some r := H
                        have A24 := Aside0.mk A240
                        clear A240
                        by_cases c25 : (t127 != t128) = true
                        · rw [if_pos c25] at H
                          have c25b0 : (t127 != t128) = true := c25
                          (try (have c25b1 : decide (t127 = t128) = false := by simpa using c25))
                          (try (have c25b2 : (t127 == t128) = false := by simpa using c25))
                          (try (have c25b3 : ¬ (t127 = t128) := by simpa using c25))
                          clear c25
                          obtain rfl := Option.some.inj H
                          obtain ⟨Ao26, co26, eo26⟩ := Kd.R_slice HO_7.out
                          subst eo26
                          go_wp2_with (first | (go_at_call 12; (with_reducible refine (bits_Has.calls _ _ t119 x55_2 t127 _ ?side1 ?side2 A23.out).mono ?_); (case side1 => repeat (first | exact (Kd.R_reads' HO_7.out).2.2 | (with_reducible refine Kd.C_alloc ?_ _) | (with_reducible refine Kd.C_drewN ?_ _) | (with_reducible refine Kd.C_drew ?_))); (case side2 => exact (Kd.R_reads' HO_7.out).2.1); rintro e w' ⟨rfl, ⟨nd, rfl⟩⟩) | (go_at_call 12; (with_reducible refine (bits_Has.calls _ _ lt x55_2 t128 _ ?side1 ?side2 A24.out).mono ?_); (case side1 => repeat (first | exact (Kd.C_below HR118.out (by repeat (first | (with_reducible first | exact HB.out | apply below_alloc | apply pw_below_drewN | apply below_drew1) | exact HB.out))) | (with_reducible refine Kd.C_alloc ?_ _) | (with_reducible refine Kd.C_drewN ?_ _) | (with_reducible refine Kd.C_drew ?_))); (case side2 => exact HC118.out); rintro e w' ⟨rfl, ⟨nd, rfl⟩⟩))
                          go_ret
                          exact ⟨by first | rfl | (simp [errW_none, errW_some] <;> rfl) | (simp only [← hji7]; first | rfl | (simp [errW_none, errW_some] <;> rfl)) | (simp [*, errW_none, errW_some] <;> rfl), by repeat (first | (with_reducible first | exact HB.out | apply below_alloc | apply pw_below_drewN | apply below_drew1) | exact HB.out)⟩
                        · rw [if_neg c25] at H
                          have c25b0 : (t127 != t128) = false := by simpa using c25
                          (try (have c25b1 : decide (t127 = t128) = true := by simpa using c25))
                          (try (have c25b2 : (t127 == t128) = true := by simpa using c25))
                          clear c25
                          have H' := Aside0.mk H
                          clear H
                          obtain ⟨Ao27, co27, eo27⟩ := Kd.R_slice HO_7.out
                          subst eo27
                          go_wp2_with (first | (go_at_call 12; (with_reducible refine (bits_Has.calls _ _ t119 x55_2 t127 _ ?side1 ?side2 A23.out).mono ?_); (case side1 => repeat (first | exact (Kd.R_reads' HO_7.out).2.2 | (with_reducible refine Kd.C_alloc ?_ _) | (with_reducible refine Kd.C_drewN ?_ _) | (with_reducible refine Kd.C_drew ?_))); (case side2 => exact (Kd.R_reads' HO_7.out).2.1); rintro e w' ⟨rfl, ⟨nd, rfl⟩⟩) | (go_at_call 12; (with_reducible refine (bits_Has.calls _ _ lt x55_2 t128 _ ?side1 ?side2 A24.out).mono ?_); (case side1 => repeat (first | exact (Kd.C_below HR118.out (by repeat (first | (with_reducible first | exact HB.out | apply below_alloc | apply pw_below_drewN | apply below_drew1) | exact HB.out))) | (with_reducible refine Kd.C_alloc ?_ _) | (with_reducible refine Kd.C_drewN ?_ _) | (with_reducible refine Kd.C_drew ?_))); (case side2 => exact HC118.out); rintro e w' ⟨rfl, ⟨nd, rfl⟩⟩))
                          go_roundg k2
                          case measure => have := HJ11.out; have := HK2.out; omega
                          case rel => exact ⟨(wrap64 (x55_2 + 1)), (by first | rfl | (simp; done) | (simp [*]; done)), H', ⟨by have := HJ11.out; have := HK2.out; omega⟩, ⟨by (with_reducible repeat (first | apply Kd.R_alloc | apply Kd.R_drewN | apply Kd.R_drew)); exact HO_7.out⟩, ⟨by repeat (first | (with_reducible first | exact HB.out | apply below_alloc | apply pw_below_drewN | apply below_drew1) | exact HB.out)⟩⟩
                    · rw [if_neg c21] at H
                      have c21b0 : decide (x55_2 < (8 * (lt.length : Int))) = false := decide_eq_false c21
                      clear c21
                      replace H := Option.bind_eq_some_iff.mp H
                      obtain ⟨t124, A280, H⟩ := H
                      replace H : (some (decide ((t124.length : Int) ≤ 1))) = some r := H
                      have A28 := Aside0.mk A280
                      clear A280
                      obtain rfl := Option.some.inj H
                      obtain ⟨Ao29, co29, eo29⟩ := Kd.R_slice HO_7.out
                      subst eo29
                      go_wp2_with (first | ((with_reducible refine gate_callee (f := 15) rfl ?_); refine goesL_ (some 76) rfl rfl Try.func15 (by kernel_rfl) rfl #[.slice Ao29 t119.length co29, .slice A0 lt.length c0, .int .i64 (8 * (lt.length : Int))] rfl (by (try simp only [List.map_toArray, List.map_cons, List.map_nil]); first | done | (rw [show lt.length = (ji7).toNat from (by rw [List.length_take]; have h_ : ((ji7) : Int) ≤ (l0.length : Int) := of_decide_eq_true (by first | (with_reducible assumption) | assumption); omega)] <;> rfl) | (simp only [hji7]; rfl) | rfl | (simp only [List.length_drop, List.length_take]; rfl)) ?_; (with_reducible refine (bits_Apart.calls k2 _ _ t119 _ _ lt (8 * (lt.length : Int)) t124 _ ?side1 ?side2 ?side3 ?side4 A28.out).mono ?_); (case side1 => repeat (first | exact (Kd.R_reads' HO_7.out).2.2 | (with_reducible refine Kd.C_alloc ?_ _) | (with_reducible refine Kd.C_drewN ?_ _) | (with_reducible refine Kd.C_drew ?_))); (case side2 => exact (Kd.R_reads' HO_7.out).2.1); (case side3 => repeat (first | exact (Kd.C_below HR118.out HB.out) | (with_reducible refine Kd.C_alloc ?_ _) | (with_reducible refine Kd.C_drewN ?_ _) | (with_reducible refine Kd.C_drew ?_))); (case side4 => exact HC118.out); rintro e w30 ⟨v125, rfl, ho0, hb⟩; refine ⟨_, rfl, ?_⟩; have n0_ := Aside0.mk (Kd.R_below (by (with_reducible repeat (first | apply Kd.R_alloc | apply Kd.R_drewN | apply Kd.R_drew)); exact HO_7.out) hb); have n1_ := Aside0.mk (Kd.R_lower ho0 (below_size (by repeat (first | (with_reducible first | exact HB.out | apply below_alloc | apply pw_below_drewN | apply below_drew1) | exact HB.out)))); have n2_ := Aside0.mk (below_step (by repeat (first | (with_reducible first | exact HB.out | apply below_alloc | apply pw_below_drewN | apply below_drew1) | exact HB.out)) hb); clear HO_7; clear HB; have HO_7 := n0_; have HO126 := n1_; have HB := n2_; clear n0_ n1_ n2_; (try clear hb); (try clear hb2); (try clear hk); (try clear hi); (try clear ho0); obtain ⟨Ao31, co31, eo31⟩ := Kd.R_slice HO126.out; subst eo31))
                      go_ret
                      exact ⟨by first | rfl | (simp [errW_none, errW_some] <;> rfl) | (simp only [← hji7]; first | rfl | (simp [errW_none, errW_some] <;> rfl)) | (simp [*, errW_none, errW_some] <;> rfl), by repeat (first | (with_reducible first | exact HB.out | apply below_alloc | apply pw_below_drewN | apply below_drew1) | exact HB.out)⟩
      · rw [if_neg c9] at H
        exact absurd H (by simp)
    · rw [if_neg c8] at H
      exact absurd H (by simp)

/-- THE ONE PURE STATEMENT of bollardlaw05_BitsTurns: yours. -/
def bollardlaw05_BitsTurns.Pure : Prop := ∀ (l0 : List Int) (a1 : Int) (a2 : Bool), l0.length ≤ maxLen → l0.length * 1 ≤ 140737488351232 → (∀ x ∈ l0, (Lit.int .u8 x).wf = true) → (Lit.int .i64 a1).wf = true → ∃ k, bollardlaw05_BitsTurns.f k l0 a1 a2 = some true
theorem bollardlaw05_BitsTurns.walk (P : bollardlaw05_BitsTurns.Pure) (a0 : Option Addr) (len0 cap0 : Nat) (z0 : List Int) (a1 : Int) (a2 : Bool) (w : World) (w0 : (a0 = none ∧ len0 = 0 ∧ cap0 = 0 ∧ z0 = []) ∨ ∃ x, a0 = some x ∧ len0 ≤ cap0 ∧ cap0 ≤ maxLen ∧ z0.length = cap0 ∧ (∀ i, i < z0.length → w.cell? (x.add i) = some (.int .u8 (z0.getD i 0))) ∧ ∀ n ∈ z0, (Lit.int .u8 n).wf = true) (y0 : len0 * 1 ≤ 140737488351232) (w1 : (Lit.int .i64 a1).wf = true) :
    Calls Try.prog 6 #[.slice a0 len0 cap0, .int .i64 a1, .bool a2] w fun e w' => e = .returned (.bool true) ∧ Below w.heap.size w w' := by
  obtain ⟨l0, rfl, hr0, hm0, hw0, hc0⟩ := ReadsInt.ofRowC w0
  obtain ⟨k, h⟩ := P l0 a1 a2 hm0 y0 hw0 w1
  refine (bollardlaw05_BitsTurns.calls k _ _ l0 a1 a2 true w (Kd.C_of_reads (d := (0 : Int)) (h1 := fun _ => rfl) hr0) hc0 h).mono ?_
  rintro e w' ⟨rfl, hd⟩
  exact ⟨rfl, hd⟩

end Go.Proofs.Ytpfiladhmcdjlaa.XBitsTurns
