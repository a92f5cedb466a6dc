-- Written by a program of this session (wip/tools)
import Derived.Test.YtnbkbmhiajfbpaaXDirsBackx0
import Derived.Test.YtnbkbmhiajfbpaaXDirsBackx1
namespace Go.Proofs.Ytnbkbmhiajfbpaa.XDirsBack
open Go.RowKit Go.Proofs.YtnbkbmhiajfbpaaW.PrintWords Go.Proofs.YtnbkbmhiajfbpaaW.PrintLast Go.Proofs.YtnbkbmhiajfbpaaW.PrintMore
attribute [local go_sem] max2_int min2_int max_two min_two max_three min_three max_four min_four   -- for this text's walks alone
set_option linter.unusedVariables false
set_option linter.unusedSimpArgs false

attribute [local go_sem high] eqA27
-- NOT PRINTED: function 26 (slices_Chunk_byte_byte)

/-! ### layout_spelt: function 45 -/
def layout_spelt.l0 : Nat → ByteArray → Int → Int → Option (Bool)
  | 0, _, _, _ => none
  | k + 1, x0, x5, x6 => if x6 < x5 then (if 0 ≤ x6 then (if x6 < (x0.size : Int) then (if (bt x0 x6) < 33 then (some false) else (if (bt x0 x6) > 126 then (some false) else (if (bt x0 x6) = 47 then (some false) else (layout_spelt.l0 k x0 x5 (wrap64 (x6 + 1)))))) else (none)) else (none)) else (if x0.toList = ([] : List UInt8) then (some false) else (some (decide ((x0.size : Int) ≤ 13))))
def layout_spelt.f (k : Nat) (a0 : ByteArray) : Option (Bool) := layout_spelt.l0 k a0 (a0.size : Int) 0
theorem layout_spelt.mono_l : ∀ k, (∀ y0 y1 y2, LeO (layout_spelt.l0 k y0 y1 y2) (layout_spelt.l0 (k + 1) y0 y1 y2))
  | 0 => fun _ _ _ r h => by simp [layout_spelt.l0] at h
  | k + 1 => by
    have ih0 := layout_spelt.mono_l k
    · intro y0 y1 y2
      unfold layout_spelt.l0
      repeat' first
      | (with_reducible exact ih0 _ _ _)
      | (with_reducible exact LeO.refl _)
      | (with_reducible exact LeO.none _)
      | (with_reducible refine LeO.ite ?_ ?_)
      | (with_reducible refine LeO.bind ?_ (fun _ => ?_))
      | exact ih0 _ _ _
      | exact LeO.none _
      | refine LeO.ite ?_ ?_
      | refine LeO.bind ?_ (fun _ => ?_)
theorem layout_spelt.mono : ∀ a0 k, LeO (layout_spelt.f k a0) (layout_spelt.f (k + 1) a0) := by
  intro a0 k
  have ih0 := layout_spelt.mono_l k
  unfold layout_spelt.f
  repeat' first
      | (with_reducible exact ih0 _ _ _)
      | (with_reducible exact LeO.refl _)
      | (with_reducible exact LeO.none _)
      | (with_reducible refine LeO.ite ?_ ?_)
      | (with_reducible refine LeO.bind ?_ (fun _ => ?_))
      | exact ih0 _ _ _
      | exact LeO.none _
      | refine LeO.ite ?_ ?_
      | refine LeO.bind ?_ (fun _ => ?_)
set_option maxHeartbeats 8000000 in
set_option maxRecDepth 100000 in
theorem layout_spelt.calls (k : Nat) (a0 : ByteArray) (r : Bool) (w : World) (h : layout_spelt.f k a0 = some r) :
    Calls Try.prog 45 #[.string a0] w fun e w' => e = .returned (.bool r) ∧ Drawn0 w w' := by
  have H : (layout_spelt.l0 k a0 (a0.size : Int) 0) = some r := h
  clear h
  have H' := Aside0.mk H
  clear H
  go_enter Try.func45, Try.ntmps45
  go_wp2
  go_loopg [6] k (fun kq v6 w' => ∃ (x6_1 : Int), v6 = .int .i64 x6_1 ∧ Aside0 (layout_spelt.l0 kq a0 (a0.size : Int) x6_1 = some r) ∧ Aside0 (kq ≤ k) ∧ Drawn0 w w')
  case atStart => exact ⟨(0), (by first | rfl | (simp; done) | (simp [*]; done)), H', ⟨Nat.le_refl _⟩, by repeat (first | exact Drawn0.refl _ | apply Drawn0.step)⟩
  case round =>
    clear H'
    obtain ⟨x6_1, rfl, HA, HK1, ⟨m1, rfl⟩⟩ := hrel
    cases gk with
    | zero => exact absurd HA.out (by simp [layout_spelt.l0])
    | succ k1 =>
      have H := HA.out
      clear HA
      simp only [layout_spelt.l0] at H
      by_cases c2 : x6_1 < (a0.size : Int)
      · rw [if_pos c2] at H
        have c2b0 : decide (x6_1 < (a0.size : Int)) = true := decide_eq_true c2
        clear c2
        by_cases c3 : 0 ≤ x6_1
        · rw [if_pos c3] at H
          have c3b0 : decide (0 ≤ x6_1) = true := decide_eq_true c3
          clear c3
          by_cases c4 : x6_1 < (a0.size : Int)
          · rw [if_pos c4] at H
            have c4b0 : decide (x6_1 < (a0.size : Int)) = true := decide_eq_true c4
            clear c4
            by_cases c6 : (bt a0 x6_1) < 33
            · rw [if_pos c6] at H
              have c6b0 : decide ((bt a0 x6_1) < 33) = true := decide_eq_true c6
              clear c6
              obtain rfl := Option.some.inj H
              have p5 : 0 ≤ (x6_1 : Int) := of_decide_eq_true (by first | (with_reducible assumption) | assumption)
              have q5 : x6_1 < (a0.size : Int) := of_decide_eq_true (by first | (with_reducible assumption) | assumption)
              have hx5 := bt_at a0 x6_1
              replace p5 := eq_true p5
              replace q5 := eq_true q5
              go_wp2
              go_ret
              exact ⟨by first | rfl | (simp; done) | (simp [*]; done), by repeat (first | exact Drawn0.refl _ | apply Drawn0.step)⟩
            · rw [if_neg c6] at H
              have c6b0 : decide ((bt a0 x6_1) < 33) = false := decide_eq_false c6
              clear c6
              by_cases c8 : (bt a0 x6_1) > 126
              · rw [if_pos c8] at H
                have c8b0 : decide (126 < (bt a0 x6_1)) = true := decide_eq_true c8
                clear c8
                obtain rfl := Option.some.inj H
                have p5 : 0 ≤ (x6_1 : Int) := of_decide_eq_true (by first | (with_reducible assumption) | assumption)
                have q5 : x6_1 < (a0.size : Int) := of_decide_eq_true (by first | (with_reducible assumption) | assumption)
                have hx5 := bt_at a0 x6_1
                replace p5 := eq_true p5
                replace q5 := eq_true q5
                have p7 : 0 ≤ (x6_1 : Int) := of_decide_eq_true (by first | (with_reducible assumption) | assumption)
                have q7 : x6_1 < (a0.size : Int) := of_decide_eq_true (by first | (with_reducible assumption) | assumption)
                have hx7 := bt_at a0 x6_1
                replace p7 := eq_true p7
                replace q7 := eq_true q7
                go_wp2
                go_ret
                exact ⟨by first | rfl | (simp; done) | (simp [*]; done), by repeat (first | exact Drawn0.refl _ | apply Drawn0.step)⟩
              · rw [if_neg c8] at H
                have c8b0 : decide (126 < (bt a0 x6_1)) = false := decide_eq_false c8
                clear c8
                by_cases c10 : (bt a0 x6_1) = 47
                · rw [if_pos c10] at H
                  have c10b0 : ((bt a0 x6_1) == 47) = true := beq_iff_eq.mpr c10
                  have c10b1 : ((bt a0 x6_1) != 47) = false := bne_eq_false_iff_eq.mpr c10
                  clear c10
                  obtain rfl := Option.some.inj H
                  have p5 : 0 ≤ (x6_1 : Int) := of_decide_eq_true (by first | (with_reducible assumption) | assumption)
                  have q5 : x6_1 < (a0.size : Int) := of_decide_eq_true (by first | (with_reducible assumption) | assumption)
                  have hx5 := bt_at a0 x6_1
                  replace p5 := eq_true p5
                  replace q5 := eq_true q5
                  have p7 : 0 ≤ (x6_1 : Int) := of_decide_eq_true (by first | (with_reducible assumption) | assumption)
                  have q7 : x6_1 < (a0.size : Int) := of_decide_eq_true (by first | (with_reducible assumption) | assumption)
                  have hx7 := bt_at a0 x6_1
                  replace p7 := eq_true p7
                  replace q7 := eq_true q7
                  have p9 : 0 ≤ (x6_1 : Int) := of_decide_eq_true (by first | (with_reducible assumption) | assumption)
                  have q9 : x6_1 < (a0.size : Int) := of_decide_eq_true (by first | (with_reducible assumption) | assumption)
                  have hx9 := bt_at a0 x6_1
                  replace p9 := eq_true p9
                  replace q9 := eq_true q9
                  go_wp2
                  go_ret
                  exact ⟨by first | rfl | (simp; done) | (simp [*]; done), by repeat (first | exact Drawn0.refl _ | apply Drawn0.step)⟩
                · rw [if_neg c10] at H
                  have c10b0 : ((bt a0 x6_1) == 47) = false := beq_eq_false_iff_ne.mpr c10
                  have c10b1 : ((bt a0 x6_1) != 47) = true := bne_iff_ne.mpr c10
                  have H' := Aside0.mk H
                  clear H
                  have p5 : 0 ≤ (x6_1 : Int) := of_decide_eq_true (by first | (with_reducible assumption) | assumption)
                  have q5 : x6_1 < (a0.size : Int) := of_decide_eq_true (by first | (with_reducible assumption) | assumption)
                  have hx5 := bt_at a0 x6_1
                  replace p5 := eq_true p5
                  replace q5 := eq_true q5
                  have p7 : 0 ≤ (x6_1 : Int) := of_decide_eq_true (by first | (with_reducible assumption) | assumption)
                  have q7 : x6_1 < (a0.size : Int) := of_decide_eq_true (by first | (with_reducible assumption) | assumption)
                  have hx7 := bt_at a0 x6_1
                  replace p7 := eq_true p7
                  replace q7 := eq_true q7
                  have p9 : 0 ≤ (x6_1 : Int) := of_decide_eq_true (by first | (with_reducible assumption) | assumption)
                  have q9 : x6_1 < (a0.size : Int) := of_decide_eq_true (by first | (with_reducible assumption) | assumption)
                  have hx9 := bt_at a0 x6_1
                  replace p9 := eq_true p9
                  replace q9 := eq_true q9
                  go_wp2
                  go_roundg k1
                  case measure => have := HK1.out; omega
                  case rel => exact ⟨(wrap64 (x6_1 + 1)), (by first | rfl | (simp; done) | (simp [*]; done)), H', ⟨by have := HK1.out; omega⟩, by repeat (first | exact Drawn0.refl _ | apply Drawn0.step)⟩
          · rw [if_neg c4] at H
            exact absurd H (by simp)
        · rw [if_neg c3] at H
          exact absurd H (by simp)
      · rw [if_neg c2] at H
        have c2b0 : decide (x6_1 < (a0.size : Int)) = false := decide_eq_false c2
        clear c2
        by_cases c11 : a0.toList = ([] : List UInt8)
        · rw [if_pos c11] at H
          have c11b0 : (a0.toList == ([] : List UInt8)) = true := beq_iff_eq.mpr c11
          have c11b1 : (a0.toList != ([] : List UInt8)) = false := bne_eq_false_iff_eq.mpr c11
          clear c11
          obtain rfl := Option.some.inj H
          go_wp2
          go_ret
          exact ⟨by first | rfl | (simp; done) | (simp [*]; done), by repeat (first | exact Drawn0.refl _ | apply Drawn0.step)⟩
        · rw [if_neg c11] at H
          have c11b0 : (a0.toList == ([] : List UInt8)) = false := beq_eq_false_iff_ne.mpr c11
          have c11b1 : (a0.toList != ([] : List UInt8)) = true := bne_iff_ne.mpr c11
          obtain rfl := Option.some.inj H
          go_wp2
          go_ret
          exact ⟨by first | rfl | (simp; done) | (simp [*]; done), by repeat (first | exact Drawn0.refl _ | apply Drawn0.step)⟩

/-! ### layout_fields: function 46 -/
mutual
def layout_fields.l0 : Nat → List Int → List (S73) → Int → Int → Option (List Int)
  | 0, _, _, _, _ => none
  | k + 1, x0, x8, x9, x10 => if x10 < x9 then (if 0 ≤ x10 then (if x10 < (x8.length : Int) then (layout_fields.l1 k x0 x8 x9 x10 ((rd_T73 x8 x10).f0) 0 ((rd_T73 x8 x10).f0) ((rd_T73 x8 x10).f1) ((rd_T73 x8 x10).f2)) else (none)) else (none)) else (some x0)
def layout_fields.l1 : Nat → List Int → List (S73) → Int → Int → Int → Int → Int → Int → Int → Option (List Int)
  | 0, _, _, _, _, _, _, _, _, _ => none
  | k + 1, x0, x8, x9, x10, x15, x16, x103000, x103001, x103002 => if x16 < x15 then (if 0 ≤ (wrap64 (8 * x16)) then (if x0.length < 140737488355328 then (layout_fields.l1 k (x0 ++ [(shr .i64 x103002 (wrap64 (8 * x16))) % 256]) x8 x9 x10 x15 (wrap64 (x16 + 1)) x103000 x103001 x103002) else (none)) else (none)) else (layout_fields.l0 k x0 x8 x9 (wrap64 (x10 + 1)))
end
def layout_fields.f (k : Nat) (l0 : List Int) (l1 : List (S73)) : Option (List Int) := layout_fields.l0 k l0 l1 (l1.length : Int) 0
theorem layout_fields.mono_l : ∀ k, (∀ y0 y1 y2 y3, LeO (layout_fields.l0 k y0 y1 y2 y3) (layout_fields.l0 (k + 1) y0 y1 y2 y3)) ∧ (∀ y0 y1 y2 y3 y4 y5 y6 y7 y8, LeO (layout_fields.l1 k y0 y1 y2 y3 y4 y5 y6 y7 y8) (layout_fields.l1 (k + 1) y0 y1 y2 y3 y4 y5 y6 y7 y8))
  | 0 => ⟨fun _ _ _ _ r h => by simp [layout_fields.l0] at h, fun _ _ _ _ _ _ _ _ _ r h => by simp [layout_fields.l1] at h⟩
  | k + 1 => by
    obtain ⟨ih0, ih1⟩ := layout_fields.mono_l k
    refine ⟨?_, ?_⟩
    · intro y0 y1 y2 y3
      unfold layout_fields.l0
      repeat' first
      | (with_reducible exact ih0 _ _ _ _)
      | (with_reducible exact ih1 _ _ _ _ _ _ _ _ _)
      | (with_reducible exact LeO.refl _)
      | (with_reducible exact LeO.none _)
      | (with_reducible refine LeO.ite ?_ ?_)
      | (with_reducible refine LeO.bind ?_ (fun _ => ?_))
      | exact ih0 _ _ _ _
      | exact ih1 _ _ _ _ _ _ _ _ _
      | exact LeO.none _
      | refine LeO.ite ?_ ?_
      | refine LeO.bind ?_ (fun _ => ?_)
    · intro y0 y1 y2 y3 y4 y5 y6 y7 y8
      unfold layout_fields.l1
      repeat' first
      | (with_reducible exact ih0 _ _ _ _)
      | (with_reducible exact ih1 _ _ _ _ _ _ _ _ _)
      | (with_reducible exact LeO.refl _)
      | (with_reducible exact LeO.none _)
      | (with_reducible refine LeO.ite ?_ ?_)
      | (with_reducible refine LeO.bind ?_ (fun _ => ?_))
      | exact ih0 _ _ _ _
      | exact ih1 _ _ _ _ _ _ _ _ _
      | exact LeO.none _
      | refine LeO.ite ?_ ?_
      | refine LeO.bind ?_ (fun _ => ?_)
theorem layout_fields.mono : ∀ a0 a1 k, LeO (layout_fields.f k a0 a1) (layout_fields.f (k + 1) a0 a1) := by
  intro a0 a1 k
  obtain ⟨ih0, ih1⟩ := layout_fields.mono_l k
  unfold layout_fields.f
  repeat' first
      | (with_reducible exact ih0 _ _ _ _)
      | (with_reducible exact ih1 _ _ _ _ _ _ _ _ _)
      | (with_reducible exact LeO.refl _)
      | (with_reducible exact LeO.none _)
      | (with_reducible refine LeO.ite ?_ ?_)
      | (with_reducible refine LeO.bind ?_ (fun _ => ?_))
      | exact ih0 _ _ _ _
      | exact ih1 _ _ _ _ _ _ _ _ _
      | exact LeO.none _
      | refine LeO.ite ?_ ?_
      | refine LeO.bind ?_ (fun _ => ?_)
set_option maxHeartbeats 8000000 in
set_option maxRecDepth 100000 in
theorem layout_fields.calls (k : Nat) (P0_ : Nat → Prop) (u9000_ : Value) (l0 : List Int) (A1 : Option Addr) (c1 : Nat) (l1 : List (S73)) (r : List Int) (w0 w : World) (hB : Below w0.heap.size w0 w) (ho0 : Kd.R (Kd.int .u8) 5 w w0.heap.size P0_ u9000_ l0) (hr1 : ∀ W_, Kept w W_ (fun k_ => P0_ k_) → Kd.C k73 W_ A1 l1.length l1) (hc1 : l1.length ≤ c1) (h : layout_fields.f k l0 l1 = some r) :
    Calls Try.prog 46 #[u9000_, .slice A1 l1.length c1] w fun e w' => ∃ v0_ : Value, e = .returned (v0_) ∧ Kd.R (Kd.int .u8) 5 w' w0.heap.size (fun k_ => (P0_ k_ ∨ w.heap.size ≤ k_)) v0_ r ∧ Below w0.heap.size w0 w' ∧ Kept w w' (fun k_ => P0_ k_) := by
  have hu73 := Try.underlying73
  have HO0 := Aside0.mk (show Kd.R (Kd.int .u8) 5 w w0.heap.size (fun k_ => (P0_ k_ ∨ w.heap.size ≤ k_)) u9000_ l0 from Kd.R_mono ho0 (fun k_ hk => (.inl hk)))
  have HR1 := Aside0.mk hr1
  have HC1 := Aside0.mk hc1
  clear hr1 hc1
  have HK := Aside0.mk (Kept.refl w (fun k_ => P0_ k_))
  have HW0 := Aside0.mk hB.size
  have HB := Aside0.mk hB
  clear hB
  have H : (layout_fields.l0 k l0 l1 (l1.length : Int) 0) = some r := h
  clear h
  have H' := Aside0.mk H
  clear H
  go_enter Try.func46, Try.ntmps46
  go_wp2
  go_loopg [0, 10] k (fun kq v0 v10 w' => ∃ (x0_1 : List Int) (x10_1 : Int), v10 = .int .i64 x10_1 ∧ Aside0 (layout_fields.l0 kq x0_1 l1 (l1.length : Int) x10_1 = some r) ∧ Aside0 (kq ≤ k) ∧ Aside0 (Kd.R (Kd.int .u8) 5 w' w0.heap.size (fun k_ => (P0_ k_ ∨ w.heap.size ≤ k_)) v0 x0_1) ∧ Aside0 (Kept w w' (fun k_ => P0_ k_)) ∧ Aside0 (Below w0.heap.size w0 w'))
  case atStart => exact ⟨(l0), (0), (by first | rfl | (simp; done) | (simp [*]; done)), H', ⟨Nat.le_refl _⟩, ⟨by (with_reducible repeat (first | apply Kd.R_alloc | apply Kd.R_drewN | apply Kd.R_drew)); exact HO0.out⟩, ⟨by repeat (first | (with_reducible first | exact HK.out | apply Kept.alloc | apply Kept.drewN | apply Kept.drew) | exact HK.out)⟩, ⟨by repeat (first | (with_reducible first | exact HB.out | apply below_alloc | apply pw_below_drewN | apply below_drew1) | exact HB.out)⟩⟩
  case round =>
    clear H'
    try clear c1
    try clear p2
    obtain ⟨x0_1, x10_1, rfl, HA, HK1, HO_0, HK, HB⟩ := hrel
    cases gk with
    | zero => exact absurd HA.out (by simp [layout_fields.l0])
    | succ k1 =>
      have H := HA.out
      clear HA
      simp only [layout_fields.l0] at H
      by_cases c3 : x10_1 < (l1.length : Int)
      · rw [if_pos c3] at H
        have c3b0 : decide (x10_1 < (l1.length : Int)) = true := decide_eq_true c3
        clear c3
        by_cases c4 : 0 ≤ x10_1
        · rw [if_pos c4] at H
          have c4b0 : decide (0 ≤ x10_1) = true := decide_eq_true c4
          clear c4
          by_cases c5 : x10_1 < (l1.length : Int)
          · rw [if_pos c5] at H
            have c5b0 : decide (x10_1 < (l1.length : Int)) = true := decide_eq_true c5
            clear c5
            have H' := Aside0.mk H
            clear H
            have p101 : 0 ≤ (x10_1 : Int) := of_decide_eq_true (by first | (with_reducible assumption) | assumption)
            have q101 : x10_1 < (l1.length : Int) := of_decide_eq_true (by first | (with_reducible assumption) | assumption)
            obtain ⟨ad101, e101, hx101_0, hx101_1, hx101_2⟩ := at_T73 (Kd.C_kept_now HR1.out HK.out) x10_1 p101 q101
            cases e101
            replace p101 := eq_true p101
            replace q101 := eq_true q101
            go_wp2_with (first | ((with_reducible refine gate_dst (N := 6) rfl ?_); refine box_event ?hg (N := 6) ?hd (cs := #[.int .i64 0, .int .i64 0, .int .i64 0]) (t := 73) ?hr ?_; (case hd => rfl); (case hg => rfl); (case hr => first | (go_simp; done) | (go_simp; rfl)); intro gb102 hg w6 hbox hb; have n0_ := Aside0.mk (Kd.R_below (by (with_reducible repeat (first | apply Kd.R_alloc | apply Kd.R_drewN | apply Kd.R_drew)); exact HO_0.out) hb); have n1_ := Aside0.mk (Kept.below (S := (fun k_ => P0_ k_)) (by repeat (first | (with_reducible first | exact HK.out | apply Kept.alloc | apply Kept.drewN | apply Kept.drew) | exact HK.out)) hb); have n2_ := Aside0.mk (below_step (by repeat (first | (with_reducible first | exact HB.out | apply below_alloc | apply pw_below_drewN | apply below_drew1) | exact HB.out)) hb); have n3_ := Aside0.mk (hbox); have n4_ := Aside0.mk ((by rw [hg]; exact (by first | exact HK.out.1 | exact (show Kept w _ (fun k_ => P0_ k_) from by repeat (first | (with_reducible first | exact HK.out | apply Kept.alloc | apply Kept.drewN | apply Kept.drew) | exact HK.out)).1) : w.heap.size ≤ gb102)); have n5_ := Aside0.mk ((by rw [hg]; exact (below_size (by repeat (first | (with_reducible first | exact HB.out | apply below_alloc | apply pw_below_drewN | apply below_drew1) | exact HB.out))) : w0.heap.size ≤ gb102)); clear HO_0; clear HK; clear HB; have HO_0 := n0_; have HK := n1_; have HB := n2_; have BK102 := n3_; have GW102 := n4_; have GE102 := n5_; clear n0_ n1_ n2_ n3_ n4_ n5_; clear hb hbox hg; have hcz7_0 : w6.cell? ⟨gb102, 0, none⟩ = some (.int .i64 0) := (blk_cell BK102.out 0).trans rfl; have hcz7_1 : w6.cell? ⟨gb102, 1, none⟩ = some (.int .i64 0) := (blk_cell BK102.out 1).trans rfl; have hcz7_2 : w6.cell? ⟨gb102, 2, none⟩ = some (.int .i64 0) := (blk_cell BK102.out 2).trans rfl; have hfz7_0 := blk_frozen BK102.out 0; have hfz7_1 := blk_frozen BK102.out 1; have hfz7_2 := blk_frozen BK102.out 2))
            go_loopg [0, 16] k1 (fun kq v0 v16 w' => ∃ (x0_2 : List Int) (x16_2 : Int), v16 = .int .i64 x16_2 ∧ Aside0 (layout_fields.l1 kq x0_2 l1 (l1.length : Int) x10_1 ((rd_T73 l1 x10_1).f0) x16_2 ((rd_T73 l1 x10_1).f0) ((rd_T73 l1 x10_1).f1) ((rd_T73 l1 x10_1).f2) = some r) ∧ Aside0 (kq ≤ k1) ∧ Aside0 (Kd.R (Kd.int .u8) 5 w' w0.heap.size (fun k_ => (P0_ k_ ∨ w.heap.size ≤ k_)) v0 x0_2) ∧ Aside0 (w'.heap[gb102]? = some (.cells #[.int .i64 ((rd_T73 l1 x10_1).f0), .int .i64 ((rd_T73 l1 x10_1).f1), .int .i64 ((rd_T73 l1 x10_1).f2)] 73 (0, 0))) ∧ Aside0 (Kept w w' (fun k_ => P0_ k_)) ∧ Aside0 (Below w0.heap.size w0 w'))
            case atStart => exact ⟨(x0_1), (0), (by first | rfl | (simp; done) | (simp [*]; done)), H', ⟨Nat.le_refl _⟩, ⟨by (with_reducible repeat (first | apply Kd.R_alloc | apply Kd.R_drewN | apply Kd.R_drew)); exact Kd.R_mono (Kd.R_far (p := ⟨gb102, 2, none⟩) (Kd.R_far (p := ⟨gb102, 1, none⟩) (Kd.R_far (p := ⟨gb102, 0, none⟩) (Kd.R_types HO_0.out BK102.out (by decide)) (fun _ hk => hk.2) (.int .i64 ((rd_T73 l1 x10_1).f0))) (fun _ hk => hk.2) (.int .i64 ((rd_T73 l1 x10_1).f1))) (fun _ hk => hk.2) (.int .i64 ((rd_T73 l1 x10_1).f2))) (fun _ hk => hk.1)⟩, ⟨by (with_reducible repeat (first | refine blk_drewN ?_ _ | refine blk_drew ?_ | refine blk_alloc ?_ _)); refine blk_put (cs := #[.int .i64 ((rd_T73 l1 x10_1).f0), .int .i64 ((rd_T73 l1 x10_1).f1), .int .i64 0]) ?_ 2 _ rfl; (with_reducible repeat (first | refine blk_drewN ?_ _ | refine blk_drew ?_ | refine blk_alloc ?_ _)); refine blk_put (cs := #[.int .i64 ((rd_T73 l1 x10_1).f0), .int .i64 0, .int .i64 0]) ?_ 1 _ rfl; (with_reducible repeat (first | refine blk_drewN ?_ _ | refine blk_drew ?_ | refine blk_alloc ?_ _)); refine blk_put (cs := #[.int .i64 0, .int .i64 0, .int .i64 0]) ?_ 0 _ rfl; (with_reducible repeat (first | refine blk_drewN ?_ _ | refine blk_drew ?_ | refine blk_alloc ?_ _)); exact BK102.out⟩, ⟨by repeat (first | (with_reducible first | exact HK.out | apply Kept.alloc | apply Kept.drewN | apply Kept.drew | refine Kept.setCell ?_ (.inr GW102.out) _) | exact HK.out)⟩, ⟨by repeat (first | (with_reducible first | exact HB.out | apply below_alloc | apply pw_below_drewN | apply below_drew1 | refine below_set ?_ GE102.out) | exact HB.out)⟩⟩
            case round =>
              clear H'
              try clear c1
              try clear p1
              try clear q1
              try clear hx1
              try clear p2
              try clear c3
              try clear c3b0
              try clear c4
              try clear c4b0
              try clear c5
              try clear c5b0
              try clear hcz7_0
              try clear hcz7_1
              try clear hcz7_2
              try clear hfz7_0
              try clear hfz7_1
              try clear hfz7_2
              try clear hx101_0
              try clear hx101_1
              try clear hx101_2
              try clear p101
              try clear p2
              try clear q101
              obtain ⟨x0_2, x16_2, rfl, HA, HK2, HO_0, BK102, HK, HB⟩ := hrel
              cases gk with
              | zero => exact absurd HA.out (by simp [layout_fields.l1])
              | succ k2 =>
                have H := HA.out
                clear HA
                simp only [layout_fields.l1] at H
                by_cases c8 : x16_2 < ((rd_T73 l1 x10_1).f0)
                · rw [if_pos c8] at H
                  have c8b0 : decide (x16_2 < ((rd_T73 l1 x10_1).f0)) = true := decide_eq_true c8
                  clear c8
                  obtain ⟨ji9, hji9⟩ : ∃ j_ : Int, (wrap64 (8 * x16_2)) = j_ := ⟨_, rfl⟩
                  replace H : (if 0 ≤ (ji9) then (if x0_2.length < 140737488355328 then (layout_fields.l1 k2 (x0_2 ++ [(shr .i64 ((rd_T73 l1 x10_1).f2) (ji9)) % 256]) l1 (l1.length : Int) x10_1 ((rd_T73 l1 x10_1).f0) (wrap64 (x16_2 + 1)) ((rd_T73 l1 x10_1).f0) ((rd_T73 l1 x10_1).f1) ((rd_T73 l1 x10_1).f2)) else (none)) else (none)) = some r := by first | (rw [hji9] at H; exact H) | (simp only [hji9] at H ⊢; exact H)
                  have hji9w : (IntKind.i64.wrap (8 * x16_2)) = ji9 := (i64_w _).trans hji9
                  by_cases c10 : 0 ≤ (ji9)
                  · rw [if_pos c10] at H
                    have c10b0 := eq_true c10
                    have c10b1 : decide (0 ≤ (ji9)) = true := decide_eq_true c10
                    clear c10
                    obtain ⟨ji11, hji11⟩ : ∃ j_ : Int, (shr .i64 ((rd_T73 l1 x10_1).f2) (ji9)) = j_ := ⟨_, rfl⟩
                    replace H : (if x0_2.length < 140737488355328 then (layout_fields.l1 k2 (x0_2 ++ [(ji11) % 256]) l1 (l1.length : Int) x10_1 ((rd_T73 l1 x10_1).f0) (wrap64 (x16_2 + 1)) ((rd_T73 l1 x10_1).f0) ((rd_T73 l1 x10_1).f1) ((rd_T73 l1 x10_1).f2)) else (none)) = some r := by first | (rw [hji11] at H; exact H) | (simp only [hji11] at H ⊢; exact H)
                    have hji11_ : (((rd_T73 l1 x10_1).f2) / 2 ^ min (ji9).toNat 64) = ji11 := hji11
                    have hji11z : (ji9) ≤ 64 → (((rd_T73 l1 x10_1).f2) / 2 ^ (ji9).toNat) = ji11 := shr_small hji11
                    by_cases c12 : x0_2.length < 140737488355328
                    · rw [if_pos c12] at H
                      have LMc12 := Aside0.mk c12
                      clear c12
                      obtain ⟨y103, hy103⟩ : ∃ y_ : List Int, y_ = (x0_2 ++ [(ji11) % 256]) := ⟨_, rfl⟩
                      replace H : (layout_fields.l1 k2 y103 l1 (l1.length : Int) x10_1 ((rd_T73 l1 x10_1).f0) (wrap64 (x16_2 + 1)) ((rd_T73 l1 x10_1).f0) ((rd_T73 l1 x10_1).f1) ((rd_T73 l1 x10_1).f2)) = some r := by first | (rw [hy103]; with_reducible exact H) | (have H2_ := (Option.bind_some _ _).symm.trans H; rw [hy103]; with_reducible exact H2_) | (have H2_ := (Option.bind_some _ _).symm.trans H; with_reducible exact H2_) | with_reducible exact H | (rw [hy103]; exact H) | exact H
                      have Ny103 := Aside0.mk hy103
                      clear hy103
                      have H' := Aside0.mk H
                      clear H
                      have hcz13_0 : wr.cell? ⟨gb102, 0, none⟩ = some (.int .i64 ((rd_T73 l1 x10_1).f0)) := (blk_cell BK102.out 0).trans rfl
                      have hcz13_1 : wr.cell? ⟨gb102, 1, none⟩ = some (.int .i64 ((rd_T73 l1 x10_1).f1)) := (blk_cell BK102.out 1).trans rfl
                      have hcz13_2 : wr.cell? ⟨gb102, 2, none⟩ = some (.int .i64 ((rd_T73 l1 x10_1).f2)) := (blk_cell BK102.out 2).trans rfl
                      have hfz13_0 := blk_frozen BK102.out 0
                      have hfz13_1 := blk_frozen BK102.out 1
                      have hfz13_2 := blk_frozen BK102.out 2
                      go_wp2_with (first | ((with_reducible refine gate_builtin (b := .append) (xs := #[.tmp 19, .tmp 26]) rfl ?_); at_builtin; refine Kd.R_append (Kd.int .u8) (w0 := w0) w0.heap.size rfl (.tmp 19) (.tmp 26) 22 5 (.int .u8 0) 1 rfl Try.underlying22 info5 rfl (by decide) (by omega) u0 x0_2 ((ji11) % 256) [.int .u8 ((ji11) % 256)] (fun k_ => (P0_ k_ ∨ w.heap.size ≤ k_)) (fun _ => False) rfl rfl ?aP (fun _ hk => hk.elim) ?aF ?aO ?aB ?aS ?aL ?_; (case aP => exact rfl); (case aB => exact (by repeat (first | (with_reducible first | exact HB.out | apply below_alloc | apply pw_below_drewN | apply below_drew1 | refine below_set ?_ GE102.out) | exact HB.out))); (case aF => exact (fun k_ hk => (.inr (Nat.le_trans (by first | exact HK.out.1 | exact (show Kept w _ (fun k_ => P0_ k_) from by repeat (first | (with_reducible first | exact HK.out | apply Kept.alloc | apply Kept.drewN | apply Kept.drew | refine Kept.setCell ?_ (.inr GW102.out) _) | exact HK.out)).1) hk)))); (case aO => exact (by (with_reducible repeat (first | apply Kd.R_alloc | apply Kd.R_drewN | apply Kd.R_drew)); exact HO_0.out)); (case aS => exact (below_size (by repeat (first | (with_reducible first | exact HB.out | apply below_alloc | apply pw_below_drewN | apply below_drew1 | refine below_set ?_ GE102.out) | exact HB.out)))); (case aL => have := LMc12.out; omega); intro v104 w14 ho hb hg hat; rw [← Ny103.out] at ho; have n0_ := Aside0.mk (blk_grown (g := gb102) (o := .cells #[.int .i64 ((rd_T73 l1 x10_1).f0), .int .i64 ((rd_T73 l1 x10_1).f1), .int .i64 ((rd_T73 l1 x10_1).f2)] 73 (0, 0)) (by (with_reducible repeat (first | refine blk_drewN ?_ _ | refine blk_drew ?_ | refine blk_alloc ?_ _)); exact BK102.out) hg (Kd.R_ne HO_0.out BK102.out (by decide))); have n1_ := Aside0.mk (hb); have n2_ := Aside0.mk (Kept.of_grown (S := (fun k_ => P0_ k_)) hg (by repeat (first | (with_reducible first | exact HK.out | apply Kept.alloc | apply Kept.drewN | apply Kept.drew | refine Kept.setCell ?_ (.inr GW102.out) _) | exact HK.out)) (fun k_ e_ => (HO_0.out.1 k_ e_))); have n3_ := Aside0.mk (ho); clear BK102; clear HB; clear HK; clear HO_0; have BK102 := n0_; have HB := n1_; have HK := n2_; have HO105 := n3_; clear n0_ n1_ n2_ n3_; clear ho hb hg hat))
                      go_roundg k2
                      case measure => have := HK1.out; have := HK2.out; omega
                      case rel => exact ⟨(y103), (wrap64 (x16_2 + 1)), (by first | rfl | (simp; done) | (simp [*]; done)), H', ⟨by have := HK1.out; have := HK2.out; omega⟩, ⟨by (with_reducible repeat (first | apply Kd.R_alloc | apply Kd.R_drewN | apply Kd.R_drew)); exact HO105.out⟩, ⟨by (with_reducible repeat (first | refine blk_drewN ?_ _ | refine blk_drew ?_ | refine blk_alloc ?_ _)); exact BK102.out⟩, ⟨by repeat (first | (with_reducible first | exact HK.out | apply Kept.alloc | apply Kept.drewN | apply Kept.drew | refine Kept.setCell ?_ (.inr GW102.out) _) | exact HK.out)⟩, ⟨by repeat (first | (with_reducible first | exact HB.out | apply below_alloc | apply pw_below_drewN | apply below_drew1 | refine below_set ?_ GE102.out) | exact HB.out)⟩⟩
                    · rw [if_neg c12] at H
                      exact absurd H (by simp)
                  · rw [if_neg c10] at H
                    exact absurd H (by simp)
                · rw [if_neg c8] at H
                  have c8b0 : decide (x16_2 < ((rd_T73 l1 x10_1).f0)) = false := decide_eq_false c8
                  clear c8
                  have H' := Aside0.mk H
                  clear H
                  go_wp2
                  go_roundg k2
                  case measure => have := HK1.out; have := HK2.out; omega
                  case rel => exact ⟨(x0_2), (wrap64 (x10_1 + 1)), (by first | rfl | (simp; done) | (simp [*]; done)), H', ⟨by have := HK1.out; have := HK2.out; omega⟩, ⟨by (with_reducible repeat (first | apply Kd.R_alloc | apply Kd.R_drewN | apply Kd.R_drew)); exact HO_0.out⟩, ⟨by repeat (first | (with_reducible first | exact HK.out | apply Kept.alloc | apply Kept.drewN | apply Kept.drew | refine Kept.setCell ?_ (.inr GW102.out) _) | exact HK.out)⟩, ⟨by repeat (first | (with_reducible first | exact HB.out | apply below_alloc | apply pw_below_drewN | apply below_drew1 | refine below_set ?_ GE102.out) | exact HB.out)⟩⟩
          · rw [if_neg c5] at H
            exact absurd H (by simp)
        · rw [if_neg c4] at H
          exact absurd H (by simp)
      · rw [if_neg c3] at H
        have c3b0 : decide (x10_1 < (l1.length : Int)) = false := decide_eq_false c3
        clear c3
        obtain rfl := Option.some.inj H
        go_wp2
        go_ret
        exact ⟨_, by first | rfl | (simp [errW_none, errW_some] <;> rfl) | (simp [*, errW_none, errW_some] <;> rfl), by (with_reducible repeat (first | apply Kd.R_alloc | apply Kd.R_drewN | apply Kd.R_drew)); exact HO_0.out, by repeat (first | (with_reducible first | exact HB.out | apply below_alloc | apply pw_below_drewN | apply below_drew1) | exact HB.out), by repeat (first | (with_reducible first | exact HK.out | apply Kept.alloc | apply Kept.drewN | apply Kept.drew) | exact HK.out)⟩


/-! ### layout_full: function 47 -/
def layout_full.f (l0 : List Int) (a1 : Int) : Option (List Int) := if 0 ≤ a1 ∧ a1 ≤ 1000 then some (Rd.fullL l0 a1.toNat) else none
set_option maxHeartbeats 8000000 in
set_option maxRecDepth 100000 in
theorem layout_full.calls (A0 : Option Addr) (c0 : Nat) (l0 : List Int) (a1 : Int) (r : List Int) (w : World) (hr0 : Kd.C (Kd.int .u8) w A0 l0.length l0) (hc0 : l0.length ≤ c0) (h : layout_full.f l0 a1 = some r) :
    Calls Try.prog 47 #[.slice A0 l0.length c0, .int .i64 a1] w fun e w' => ∃ v0_ : Value, e = .returned (v0_) ∧ Kd.R (Kd.int .u8) 5 w' w.heap.size (fun _ => True) v0_ r ∧ Below w.heap.size w w' := by
  unfold layout_full.f at h
  by_cases hn : 0 ≤ a1 ∧ a1 ≤ 1000
  · rw [if_pos hn] at h
    obtain rfl := Option.some.inj h
    obtain ⟨n, rfl⟩ := Int.eq_ofNat_of_zero_le hn.1
    have hn2 : n ≤ 1000 := by omega
    obtain ⟨i0, hi, hz0, hz1, hz2⟩ := info_parts info5
    have HR0 := Aside0.mk hr0
    clear h hn hr0 hc0
    go_enter Try.func47, Try.ntmps47
    go_wp2_with (first
      | ((with_reducible refine gate_dst (N := 7) rfl ?_); refine wpList_make_full _ rfl (.tmp 6) (.tmp 6) 22 rfl w.heap.size 5 i0 (.int .u8 0) 1 Try.underlying22 hi hz0 hz1 .i64 .i64 (n : Int) (n : Int) n rfl rfl rfl rfl (by rw [hz2]; omega) (by simp only [maxLen]; omega) (Nat.le_refl _) ?_; intro w1 hown hg1; have HH := Aside0.mk (Rd.made_block hown); have HB1 := Aside0.mk ((Below.refl w.heap.size w).grown hg1 (Nat.le_refl _) (fun k hk => by cases hk)); clear hown hg1)
      | ((with_reducible refine gate_builtin (b := .copy) (xs := #[.tmp 8, .tmp 9]) rfl ?_); refine wpList_copy_splice rfl (.tmp 8) (.tmp 9) 22 22 rfl 5 Try.underlying22 (by rw [hi, Option.map_some, hz1]) (some ⟨w.heap.size, 0, none⟩) A0 n n l0.length c0 rfl rfl w.heap.size 0 _ 5 HH.out ((l0.take n).map (Value.int .u8)) (by rw [List.length_map, List.length_take]; exact Nat.min_comm _ _) (fun hp => ⟨rfl, Rd.src_cells (Kd.C_below HR0.out HB1.out) n hp⟩) (by rw [List.length_map, List.length_take, List.length_map, List.length_replicate]; omega) (by intro v hv; obtain ⟨x, _, rfl⟩ := List.mem_map.1 hv; rfl) w.heap.size w HB1.out (Nat.le_refl _) ?_; intro w2 hg2 hb2; have HG2 := Aside0.mk hg2.out; have HB2 := Aside0.mk hb2; clear hg2 hb2))
    go_ret
    have hg := HG2.out
    rw [Rd.splice_full] at hg
    have hR := Rd.R_bytes (base := w.heap.size) (ok := fun _ => True) _ hg (Nat.le_refl _) (by rw [Rd.fullL_len]; simp only [maxLen]; omega) trivial
    rw [Rd.fullL_len] at hR
    exact ⟨_, rfl, hR, HB2.out⟩
  · rw [if_neg hn] at h
    cases h

/-! ### layout_EncodeEntry: function 31 -/
def layout_EncodeEntry.f (k : Nat) (a0_0 : Int) (a0_1 : ByteArray) : Option (List Int × Int) := if ((a0_0 == 0 && (a0_1.toList == ([] : List UInt8))) = true) then ((layout_fields.f k ([] : List Int) (([(⟨2, 511, a0_0⟩ : S73), (⟨1, 13, (a0_1.size : Int)⟩ : S73)] : List (S73)))).bind fun t110 => (if t110.length + a0_1.size < 140737488355328 then ((layout_full.f (t110 ++ bytesOf a0_1) 16).bind fun t116 => (some (t116, 0))) else (none))) else (if a0_0 < 1 then (some (([] : List Int), 1)) else (if a0_0 > 511 then (some (([] : List Int), 1)) else ((layout_spelt.f k a0_1).bind fun t119 => (if t119 = true then ((layout_fields.f k ([] : List Int) (([(⟨2, 511, a0_0⟩ : S73), (⟨1, 13, (a0_1.size : Int)⟩ : S73)] : List (S73)))).bind fun t123 => (if t123.length + a0_1.size < 140737488355328 then ((layout_full.f (t123 ++ bytesOf a0_1) 16).bind fun t129 => (some (t129, 0))) else (none))) else (some (([] : List Int), 1))))))
theorem layout_EncodeEntry.mono : ∀ a0 a1 k, LeO (layout_EncodeEntry.f k a0 a1) (layout_EncodeEntry.f (k + 1) a0 a1) := by
  intro a0 a1 k
  unfold layout_EncodeEntry.f
  repeat' first
      | (with_reducible exact layout_fields.mono _ _ _)
      | (with_reducible exact layout_spelt.mono _ _)
      | (with_reducible exact LeO.refl _)
      | (with_reducible exact LeO.none _)
      | (with_reducible refine LeO.ite ?_ ?_)
      | (with_reducible refine LeO.bind ?_ (fun _ => ?_))
      | exact layout_fields.mono _ _ _
      | exact layout_spelt.mono _ _
      | exact LeO.none _
      | refine LeO.ite ?_ ?_
      | refine LeO.bind ?_ (fun _ => ?_)
set_option maxHeartbeats 8000000 in
set_option maxRecDepth 100000 in
theorem layout_EncodeEntry.calls (k : Nat) (a0_0 : Int) (a0_1 : ByteArray) (r1 : List Int) (r2 : Int) (w : World) (h : layout_EncodeEntry.f k a0_0 a0_1 = some (r1, r2)) :
    Calls Try.prog 31 #[.agg #[.int .i64 a0_0, .string a0_1]] w fun e w' => ∃ v0_ : Value, e = .returned (.tuple #[v0_, .int .i64 r2]) ∧ Kd.R (Kd.int .u8) 5 w' w.heap.size (fun _ => True) v0_ r1 ∧ Below w.heap.size w w' := by
  have hu27 := Try.underlying27
  have hu73 := Try.underlying73
  have HB := Aside0.mk (Below.refl w.heap.size w)
  have H : (if ((a0_0 == 0 && (a0_1.toList == ([] : List UInt8))) = true) then ((layout_fields.f k ([] : List Int) (([(⟨2, 511, a0_0⟩ : S73), (⟨1, 13, (a0_1.size : Int)⟩ : S73)] : List (S73)))).bind fun t110 => (if t110.length + a0_1.size < 140737488355328 then ((layout_full.f (t110 ++ bytesOf a0_1) 16).bind fun t116 => (some (t116, 0))) else (none))) else (if a0_0 < 1 then (some (([] : List Int), 1)) else (if a0_0 > 511 then (some (([] : List Int), 1)) else ((layout_spelt.f k a0_1).bind fun t119 => (if t119 = true then ((layout_fields.f k ([] : List Int) (([(⟨2, 511, a0_0⟩ : S73), (⟨1, 13, (a0_1.size : Int)⟩ : S73)] : List (S73)))).bind fun t123 => (if t123.length + a0_1.size < 140737488355328 then ((layout_full.f (t123 ++ bytesOf a0_1) 16).bind fun t129 => (some (t129, 0))) else (none))) else (some (([] : List Int), 1))))))) = some (r1, r2) := h
  clear h
  by_cases c2 : ((a0_0 == 0 && (a0_1.toList == ([] : List UInt8))) = true)
  · rw [if_pos c2] at H
    have c2b0 : (a0_0 == 0 && (a0_1.toList == ([] : List UInt8))) = true := c2
    have c2b8 : (a0_0 == 0 && a0_1.toList.isEmpty) = true := by simpa using c2b0
    have c2b9 : (!a0_0 == 0 || !a0_1.toList.isEmpty) = false := by have h8_ := c2b8; revert h8_; cases (a0_0 == 0) <;> cases a0_1.toList.isEmpty <;> simp
    (try (have c2b1 : decide (a0_0 = 0 && (a0_1.toList == ([] : List UInt8))) = true := by simpa using c2))
    (try (have c2b2 : (a0_0 == 0 && (a0_1.toList == ([] : List UInt8))) = true := by simpa using c2))
    clear c2
    obtain ⟨y107, hy107⟩ : ∃ y_ : List (S73), y_ = (([(⟨2, 511, a0_0⟩ : S73), (⟨1, 13, (a0_1.size : Int)⟩ : S73)] : List (S73))) := ⟨_, rfl⟩
    replace H : ((layout_fields.f k ([] : List Int) y107).bind fun t110 => (if t110.length + a0_1.size < 140737488355328 then ((layout_full.f (t110 ++ bytesOf a0_1) 16).bind fun t116 => (some (t116, 0))) else (none))) = some (r1, r2) := by first | (rw [hy107]; with_reducible exact H) | (have H2_ := (Option.bind_some _ _).symm.trans H; rw [hy107]; with_reducible exact H2_) | (have H2_ := (Option.bind_some _ _).symm.trans H; with_reducible exact H2_) | with_reducible exact H | (rw [hy107]; exact H) | exact H
    have Ny107 := Aside0.mk hy107
    clear hy107
    replace H := Option.bind_eq_some_iff.mp H
    obtain ⟨t110, A30, H⟩ := H
    replace H : (if t110.length + a0_1.size < 140737488355328 then ((layout_full.f (t110 ++ bytesOf a0_1) 16).bind fun t116 => (some (t116, 0))) else (none)) = some (r1, r2) := H
    have A3 := Aside0.mk A30
    clear A30
    by_cases c4 : t110.length + a0_1.size < 140737488355328
    · rw [if_pos c4] at H
      have LMc4 := Aside0.mk c4
      clear c4
      obtain ⟨y113, hy113⟩ : ∃ y_ : List Int, y_ = (t110 ++ bytesOf a0_1) := ⟨_, rfl⟩
      replace H : ((layout_full.f y113 16).bind fun t116 => (some (t116, 0))) = some (r1, r2) := by first | (rw [hy113]; with_reducible exact H) | (have H2_ := (Option.bind_some _ _).symm.trans H; rw [hy113]; with_reducible exact H2_) | (have H2_ := (Option.bind_some _ _).symm.trans H; with_reducible exact H2_) | with_reducible exact H | (rw [hy113]; exact H) | exact H
      have Ny113 := Aside0.mk hy113
      clear hy113
      replace H := Option.bind_eq_some_iff.mp H
      obtain ⟨t116, A50, H⟩ := H
      replace H : (some (t116, 0)) = some (r1, r2) := H
      have A5 := Aside0.mk A50
      clear A50
      simp only [Option.some.injEq, Prod.mk.injEq] at H
      obtain ⟨rfl, rfl⟩ := H
      go_enter Try.func31, Try.ntmps31
      go_wp2_with (first | ((with_reducible refine gate_dst (N := 1) rfl ?_); refine box_event ?hg (N := 1) ?hd (cs := #[.int .i64 a0_0, .string a0_1]) (t := 27) ?hr ?_; (case hd => rfl); (case hg => rfl); (case hr => first | (go_simp; done) | (go_simp; rfl)); intro gb106 hg w6 hbox hb; have n0_ := Aside0.mk (below_step (by repeat (first | (with_reducible first | exact HB.out | apply below_alloc | apply pw_below_drewN | apply below_drew1) | exact HB.out)) hb); have n1_ := Aside0.mk (hbox); have n2_ := Aside0.mk ((by rw [hg]; exact (below_size (by repeat (first | (with_reducible first | exact HB.out | apply below_alloc | apply pw_below_drewN | apply below_drew1) | exact HB.out))) : w.heap.size ≤ gb106)); have n3_ := Aside0.mk ((by rw [hg]; exact (below_size (by repeat (first | (with_reducible first | exact HB.out | apply below_alloc | apply pw_below_drewN | apply below_drew1) | exact HB.out))) : w.heap.size ≤ gb106)); clear HB; have HB := n0_; have BK106 := n1_; have GW106 := n2_; have GE106 := n3_; clear n0_ n1_ n2_ n3_; clear hb hbox hg; have hcz7_0 : w6.cell? ⟨gb106, 0, none⟩ = some (.int .i64 a0_0) := (blk_cell BK106.out 0).trans rfl; have hcz7_1 : w6.cell? ⟨gb106, 1, none⟩ = some (.string a0_1) := (blk_cell BK106.out 1).trans rfl; have hfz7_0 := blk_frozen BK106.out 0; have hfz7_1 := blk_frozen BK106.out 1) | ((with_reducible refine gate_dst (N := 34) rfl ?_); refine Kd.R_lit k73 _ 73 ?hg (N := 34) ?hd (xs := ([(⟨2, 511, a0_0⟩ : S73), (⟨1, 13, (a0_1.size : Int)⟩ : S73)] : List (S73))) (inner := [.int .i64 2, .int .i64 511, .int .i64 a0_0, .int .i64 1, .int .i64 13, .int .i64 (a0_1.size : Int)]) (ok := fun _ => True) (okp := fun _ => True) ?hr ?hp (fun _ hk => hk) trivial (Below.refl _ _) (Nat.le_refl _) (by simp) ?_; (case hd => rfl); (case hg => rfl); (case hr => first | (go_simp; done) | (go_simp; rfl)); (case hp => exact (Reps.c3 (show Kd.M k73 _ _ _ (⟨2, 511, a0_0⟩ : S73) [.int .i64 2, .int .i64 511, .int .i64 a0_0] from (k73_mkM _ _ _ (⟨2, 511, a0_0⟩ : S73) )) (Reps.c3 (show Kd.M k73 _ _ _ (⟨1, 13, (a0_1.size : Int)⟩ : S73) [.int .i64 1, .int .i64 13, .int .i64 (a0_1.size : Int)] from (k73_mkM _ _ _ (⟨1, 13, (a0_1.size : Int)⟩ : S73) )) (Reps.none _ _)))); intro v108 w8 ho9 hb hg_ hnew_; clear hg_ hnew_; (first | rw [← Ny107.out] at ho9 | (simp only [Int.reduceToNat] at ho9; rw [← Ny107.out] at ho9)); have n0_ := Aside0.mk (Kd.R_lower ho9 (below_size (by repeat (first | (with_reducible first | exact HB.out | apply below_alloc | apply pw_below_drewN | apply below_drew1 | refine below_set ?_ GE106.out) | exact HB.out)))); have n1_ := Aside0.mk (blk_below (g := gb106) (o := .cells #[.int .i64 a0_0, .string a0_1] 27 (0, 0)) (by (with_reducible repeat (first | refine blk_drewN ?_ _ | refine blk_drew ?_ | refine blk_alloc ?_ _)); exact BK106.out) hb); have n2_ := Aside0.mk (below_step (by repeat (first | (with_reducible first | exact HB.out | apply below_alloc | apply pw_below_drewN | apply below_drew1 | refine below_set ?_ GE106.out) | exact HB.out)) hb); clear BK106; clear HB; have HO109 := n0_; have BK106 := n1_; have HB := n2_; clear n0_ n1_ n2_; clear hb ho9; obtain ⟨Ao10, co10, eo10⟩ := Kd.R_slice HO109.out; subst eo10) | ((with_reducible refine gate_callee (f := 46) rfl ?_); refine goesL_ (some 35) rfl rfl Try.func46 (by kernel_rfl) rfl #[.slice none 0 0, .slice Ao10 y107.length co10] rfl (by (try simp only [List.map_toArray, List.map_cons, List.map_nil]); first | done | rfl | (simp only [List.length_drop, List.length_take]; rfl)) ?_; (refine (layout_fields.calls k (fun k_ => some k_ = (.slice none 0 0 : Value).ownBlock) (.slice none 0 0) ([] : List Int) _ _ y107 t110 w _ ?side1 ?side2 ?side3 ?side4 A3.out).mono ?_); (case side1 => repeat (first | (with_reducible first | exact HB.out | apply below_alloc | apply pw_below_drewN | apply below_drew1 | refine below_set ?_ GE106.out) | exact HB.out)); (case side2 => exact Kd.R_nil _ _ _ _ _); (case side3 => exact Kd.C_kept_own (HO109.out) (fun k_ hk_ hs_ => (fun e_ => by simp [Value.ownBlock] at e_) hs_)); (case side4 => exact (Kd.R_reads' HO109.out).2.1); rintro e w11 ⟨v111, rfl, ho0, hb, hkp⟩; refine ⟨_, rfl, ?_⟩; have n0_ := Aside0.mk (blk_kept (by (with_reducible repeat (first | refine blk_drewN ?_ _ | refine blk_drew ?_ | refine blk_alloc ?_ _)); exact BK106.out) hkp (fun hs_ => (fun e_ => by simp [Value.ownBlock] at e_) hs_)); have n1_ := Aside0.mk (Kd.R_mono (ok' := fun k_ => True) (Kd.R_keptB (HO109.out) hkp (fun k_ hk_ hs_ => (fun e_ => by simp [Value.ownBlock] at e_) hs_)) (fun k_ hk_ => trivial)); have n2_ := Aside0.mk (Kd.R_mono (ok' := fun k_ => True) ho0 (fun k_ hk_ => trivial)); have n3_ := Aside0.mk (hb); clear BK106; clear HO109; clear HB; have BK106 := n0_; have HO109 := n1_; have HO112 := n2_; have HB := n3_; clear n0_ n1_ n2_ n3_; (try clear hb); (try clear hkp); (try clear ho0); have hcz12_0 : w11.cell? ⟨gb106, 0, none⟩ = some (.int .i64 a0_0) := (blk_cell BK106.out 0).trans rfl; have hcz12_1 : w11.cell? ⟨gb106, 1, none⟩ = some (.string a0_1) := (blk_cell BK106.out 1).trans rfl; have hfz12_0 := blk_frozen BK106.out 0; have hfz12_1 := blk_frozen BK106.out 1) | (at_builtin; refine print_append_str (w0 := w) w.heap.size rfl (.tmp 36) _ 22 9 5 rfl Try.underlying22 Try.underlying9 info5 v111 t110 a0_1 rfl rfl ?aO ?aB ?aS ?aL ?_; (case aB => exact (by repeat (first | (with_reducible first | exact HB.out | apply below_alloc | apply pw_below_drewN | apply below_drew1 | refine below_set ?_ GE106.out) | exact HB.out))); (case aO => exact (Kd.own_of_R (by (with_reducible repeat (first | apply Kd.R_alloc | apply Kd.R_drewN | apply Kd.R_drew)); exact HO112.out))); (case aS => exact (below_size (by repeat (first | (with_reducible first | exact HB.out | apply below_alloc | apply pw_below_drewN | apply below_drew1 | refine below_set ?_ GE106.out) | exact HB.out)))); (case aL => have := LMc4.out; omega); intro v114 w13 ho0 hb hg; have ho := Kd.R_of_own (h1 := fun _ => rfl) (ok := fun _ => True) ho0 (fun _ _ => trivial); clear ho0; have hat := True.intro; rw [← Ny113.out] at ho; change Kd.R (Kd.int .u8) 5 w13 w.heap.size (fun _ => True) v114 y113 at ho; have n0_ := Aside0.mk (blk_grown (g := gb106) (o := .cells #[.int .i64 a0_0, .string a0_1] 27 (0, 0)) (by (with_reducible repeat (first | refine blk_drewN ?_ _ | refine blk_drew ?_ | refine blk_alloc ?_ _)); exact BK106.out) hg (Kd.R_ne HO112.out BK106.out (by decide))); have n1_ := Aside0.mk (Kd.R_over' (by (with_reducible repeat (first | apply Kd.R_alloc | apply Kd.R_drewN | apply Kd.R_drew)); exact HO109.out) (Kd.R_typed (by (with_reducible repeat (first | apply Kd.R_alloc | apply Kd.R_drewN | apply Kd.R_drew)); exact HO112.out)) (by decide) hg); have n2_ := Aside0.mk (hb); have n3_ := Aside0.mk (ho); clear BK106; clear HO109; clear HB; clear HO112; have BK106 := n0_; have HO109 := n1_; have HB := n2_; have HO115 := n3_; clear n0_ n1_ n2_ n3_; clear ho hb hg hat; obtain ⟨Ao14, co14, eo14⟩ := Kd.R_slice HO115.out; subst eo14) | ((with_reducible refine gate_callee (f := 47) rfl ?_); refine goesL_ (some 40) rfl rfl Try.func47 (by kernel_rfl) rfl #[.slice Ao14 y113.length co14, .int .i64 16] rfl (by (try simp only [List.map_toArray, List.map_cons, List.map_nil]); first | done | rfl | (simp only [List.length_drop, List.length_take]; rfl)) ?_; (with_reducible refine (layout_full.calls _ _ y113 16 t116 _ ?side1 ?side2 A5.out).mono ?_); (case side1 => repeat (first | exact (Kd.R_reads' HO115.out).2.2 | (with_reducible refine Kd.C_alloc ?_ _) | (with_reducible refine Kd.C_drewN ?_ _) | (with_reducible refine Kd.C_drew ?_))); (case side2 => exact (Kd.R_reads' HO115.out).2.1); rintro e w15 ⟨v117, rfl, ho0, hb⟩; refine ⟨_, rfl, ?_⟩; have n0_ := Aside0.mk (Kd.R_below (by (with_reducible repeat (first | apply Kd.R_alloc | apply Kd.R_drewN | apply Kd.R_drew)); exact HO109.out) hb); have n1_ := Aside0.mk (Kd.R_elder' (by (with_reducible repeat (first | apply Kd.R_alloc | apply Kd.R_drewN | apply Kd.R_drew)); exact HO115.out) (Kd.R_base ho0) hb); have n2_ := Aside0.mk (Kd.R_lower (Kd.R_new' ho0 (Kd.R_lt (by (with_reducible repeat (first | apply Kd.R_alloc | apply Kd.R_drewN | apply Kd.R_drew)); exact HO115.out))) (below_size (by repeat (first | (with_reducible first | exact HB.out | apply below_alloc | apply pw_below_drewN | apply below_drew1 | refine below_set ?_ GE106.out) | exact HB.out)))); have n3_ := Aside0.mk (blk_below (g := gb106) (o := .cells #[.int .i64 a0_0, .string a0_1] 27 (0, 0)) (by (with_reducible repeat (first | refine blk_drewN ?_ _ | refine blk_drew ?_ | refine blk_alloc ?_ _)); exact BK106.out) hb); have n4_ := Aside0.mk (below_step (by repeat (first | (with_reducible first | exact HB.out | apply below_alloc | apply pw_below_drewN | apply below_drew1 | refine below_set ?_ GE106.out) | exact HB.out)) hb); clear HO109; clear HO115; clear BK106; clear HB; have HO109 := n0_; have HO115 := n1_; have HO118 := n2_; have BK106 := n3_; have HB := n4_; clear n0_ n1_ n2_ n3_ n4_; (try clear hb); (try clear hb2); (try clear hk); (try clear hi); (try clear ho0)))
      go_ret2
      exact ⟨_, by first | rfl | (simp [errW_none, errW_some] <;> rfl) | (simp [*, errW_none, errW_some] <;> rfl), by (with_reducible repeat (first | apply Kd.R_alloc | apply Kd.R_drewN | apply Kd.R_drew)); exact Kd.R_mono HO118.out (fun _ hk => trivial), by repeat (first | (with_reducible first | exact HB.out | apply below_alloc | apply pw_below_drewN | apply below_drew1 | refine below_set ?_ GE106.out) | exact HB.out)⟩
    · rw [if_neg c4] at H
      exact absurd H (by simp)
  · rw [if_neg c2] at H
    have c2b0 : (a0_0 == 0 && (a0_1.toList == ([] : List UInt8))) = false := by simpa using c2
    have c2b8 : (a0_0 == 0 && a0_1.toList.isEmpty) = false := by simpa using c2b0
    have c2b9 : (!a0_0 == 0 || !a0_1.toList.isEmpty) = true := by have h8_ := c2b8; revert h8_; cases (a0_0 == 0) <;> cases a0_1.toList.isEmpty <;> simp
    (try (have c2b1 : decide (a0_0 = 0 && (a0_1.toList == ([] : List UInt8))) = false := by simpa using c2))
    (try (have c2b2 : (a0_0 == 0 && (a0_1.toList == ([] : List UInt8))) = false := by simpa using c2))
    (try (have c2b3 : ¬ (a0_0 = 0 && (a0_1.toList == ([] : List UInt8))) := by simpa using c2))
    clear c2
    by_cases c16 : a0_0 < 1
    · rw [if_pos c16] at H
      have c16b0 : decide (a0_0 < 1) = true := decide_eq_true c16
      clear c16
      simp only [Option.some.injEq, Prod.mk.injEq] at H
      obtain ⟨rfl, rfl⟩ := H
      go_enter Try.func31, Try.ntmps31
      go_wp2_with (first | ((with_reducible refine gate_dst (N := 1) rfl ?_); refine box_event ?hg (N := 1) ?hd (cs := #[.int .i64 a0_0, .string a0_1]) (t := 27) ?hr ?_; (case hd => rfl); (case hg => rfl); (case hr => first | (go_simp; done) | (go_simp; rfl)); intro gb106 hg w17 hbox hb; have n0_ := Aside0.mk (below_step (by repeat (first | (with_reducible first | exact HB.out | apply below_alloc | apply pw_below_drewN | apply below_drew1) | exact HB.out)) hb); have n1_ := Aside0.mk (hbox); have n2_ := Aside0.mk ((by rw [hg]; exact (below_size (by repeat (first | (with_reducible first | exact HB.out | apply below_alloc | apply pw_below_drewN | apply below_drew1) | exact HB.out))) : w.heap.size ≤ gb106)); have n3_ := Aside0.mk ((by rw [hg]; exact (below_size (by repeat (first | (with_reducible first | exact HB.out | apply below_alloc | apply pw_below_drewN | apply below_drew1) | exact HB.out))) : w.heap.size ≤ gb106)); clear HB; have HB := n0_; have BK106 := n1_; have GW106 := n2_; have GE106 := n3_; clear n0_ n1_ n2_ n3_; clear hb hbox hg; have hcz18_0 : w17.cell? ⟨gb106, 0, none⟩ = some (.int .i64 a0_0) := (blk_cell BK106.out 0).trans rfl; have hcz18_1 : w17.cell? ⟨gb106, 1, none⟩ = some (.string a0_1) := (blk_cell BK106.out 1).trans rfl; have hfz18_0 := blk_frozen BK106.out 0; have hfz18_1 := blk_frozen BK106.out 1))
      go_ret2
      exact ⟨_, by first | rfl | (simp [errW_none, errW_some] <;> rfl) | (simp [*, errW_none, errW_some] <;> rfl), by first | exact Kd.R_nil _ _ _ _ _ | exact Kd.N_nil _ _ _ _ _ | exact Kd.V_nil _ _ _ _ _ | exact Kd.Q_nil _ _ _ _ _ | exact Kd.S_nil _ _ _ _ _, by repeat (first | (with_reducible first | exact HB.out | apply below_alloc | apply pw_below_drewN | apply below_drew1 | refine below_set ?_ GE106.out) | exact HB.out)⟩
    · rw [if_neg c16] at H
      have c16b0 : decide (a0_0 < 1) = false := decide_eq_false c16
      clear c16
      by_cases c19 : a0_0 > 511
      · rw [if_pos c19] at H
        have c19b0 : decide (511 < a0_0) = true := decide_eq_true c19
        clear c19
        simp only [Option.some.injEq, Prod.mk.injEq] at H
        obtain ⟨rfl, rfl⟩ := H
        go_enter Try.func31, Try.ntmps31
        go_wp2_with (first | ((with_reducible refine gate_dst (N := 1) rfl ?_); refine box_event ?hg (N := 1) ?hd (cs := #[.int .i64 a0_0, .string a0_1]) (t := 27) ?hr ?_; (case hd => rfl); (case hg => rfl); (case hr => first | (go_simp; done) | (go_simp; rfl)); intro gb106 hg w20 hbox hb; have n0_ := Aside0.mk (below_step (by repeat (first | (with_reducible first | exact HB.out | apply below_alloc | apply pw_below_drewN | apply below_drew1) | exact HB.out)) hb); have n1_ := Aside0.mk (hbox); have n2_ := Aside0.mk ((by rw [hg]; exact (below_size (by repeat (first | (with_reducible first | exact HB.out | apply below_alloc | apply pw_below_drewN | apply below_drew1) | exact HB.out))) : w.heap.size ≤ gb106)); have n3_ := Aside0.mk ((by rw [hg]; exact (below_size (by repeat (first | (with_reducible first | exact HB.out | apply below_alloc | apply pw_below_drewN | apply below_drew1) | exact HB.out))) : w.heap.size ≤ gb106)); clear HB; have HB := n0_; have BK106 := n1_; have GW106 := n2_; have GE106 := n3_; clear n0_ n1_ n2_ n3_; clear hb hbox hg; have hcz21_0 : w20.cell? ⟨gb106, 0, none⟩ = some (.int .i64 a0_0) := (blk_cell BK106.out 0).trans rfl; have hcz21_1 : w20.cell? ⟨gb106, 1, none⟩ = some (.string a0_1) := (blk_cell BK106.out 1).trans rfl; have hfz21_0 := blk_frozen BK106.out 0; have hfz21_1 := blk_frozen BK106.out 1))
        go_ret2
        exact ⟨_, by first | rfl | (simp [errW_none, errW_some] <;> rfl) | (simp [*, errW_none, errW_some] <;> rfl), by first | exact Kd.R_nil _ _ _ _ _ | exact Kd.N_nil _ _ _ _ _ | exact Kd.V_nil _ _ _ _ _ | exact Kd.Q_nil _ _ _ _ _ | exact Kd.S_nil _ _ _ _ _, by repeat (first | (with_reducible first | exact HB.out | apply below_alloc | apply pw_below_drewN | apply below_drew1 | refine below_set ?_ GE106.out) | exact HB.out)⟩
      · rw [if_neg c19] at H
        have c19b0 : decide (511 < a0_0) = false := decide_eq_false c19
        clear c19
        replace H := Option.bind_eq_some_iff.mp H
        obtain ⟨t119, A220, H⟩ := H
        replace H : (if t119 = true then ((layout_fields.f k ([] : List Int) (([(⟨2, 511, a0_0⟩ : S73), (⟨1, 13, (a0_1.size : Int)⟩ : S73)] : List (S73)))).bind fun t123 => (if t123.length + a0_1.size < 140737488355328 then ((layout_full.f (t123 ++ bytesOf a0_1) 16).bind fun t129 => (some (t129, 0))) else (none))) else (some (([] : List Int), 1))) = some (r1, r2) := H
        have A22 := Aside0.mk A220
        clear A220
        by_cases c23 : t119 = true
        · subst c23
          have H1 : ((layout_fields.f k ([] : List Int) (([(⟨2, 511, a0_0⟩ : S73), (⟨1, 13, (a0_1.size : Int)⟩ : S73)] : List (S73)))).bind fun t123 => (if t123.length + a0_1.size < 140737488355328 then ((layout_full.f (t123 ++ bytesOf a0_1) 16).bind fun t129 => (some (t129, 0))) else (none))) = some (r1, r2) := by rw [if_pos rfl] at H; exact H
          clear H
          have H := H1
          clear H1
          obtain ⟨y120, hy120⟩ : ∃ y_ : List (S73), y_ = (([(⟨2, 511, a0_0⟩ : S73), (⟨1, 13, (a0_1.size : Int)⟩ : S73)] : List (S73))) := ⟨_, rfl⟩
          replace H : ((layout_fields.f k ([] : List Int) y120).bind fun t123 => (if t123.length + a0_1.size < 140737488355328 then ((layout_full.f (t123 ++ bytesOf a0_1) 16).bind fun t129 => (some (t129, 0))) else (none))) = some (r1, r2) := by first | (rw [hy120]; with_reducible exact H) | (have H2_ := (Option.bind_some _ _).symm.trans H; rw [hy120]; with_reducible exact H2_) | (have H2_ := (Option.bind_some _ _).symm.trans H; with_reducible exact H2_) | with_reducible exact H | (rw [hy120]; exact H) | exact H
          have Ny120 := Aside0.mk hy120
          clear hy120
          replace H := Option.bind_eq_some_iff.mp H
          obtain ⟨t123, A240, H⟩ := H
          replace H : (if t123.length + a0_1.size < 140737488355328 then ((layout_full.f (t123 ++ bytesOf a0_1) 16).bind fun t129 => (some (t129, 0))) else (none)) = some (r1, r2) := H
          have A24 := Aside0.mk A240
          clear A240
          by_cases c25 : t123.length + a0_1.size < 140737488355328
          · rw [if_pos c25] at H
            have LMc25 := Aside0.mk c25
            clear c25
            obtain ⟨y126, hy126⟩ : ∃ y_ : List Int, y_ = (t123 ++ bytesOf a0_1) := ⟨_, rfl⟩
            replace H : ((layout_full.f y126 16).bind fun t129 => (some (t129, 0))) = some (r1, r2) := by first | (rw [hy126]; with_reducible exact H) | (have H2_ := (Option.bind_some _ _).symm.trans H; rw [hy126]; with_reducible exact H2_) | (have H2_ := (Option.bind_some _ _).symm.trans H; with_reducible exact H2_) | with_reducible exact H | (rw [hy126]; exact H) | exact H
            have Ny126 := Aside0.mk hy126
            clear hy126
            replace H := Option.bind_eq_some_iff.mp H
            obtain ⟨t129, A260, H⟩ := H
            replace H : (some (t129, 0)) = some (r1, r2) := H
            have A26 := Aside0.mk A260
            clear A260
            simp only [Option.some.injEq, Prod.mk.injEq] at H
            obtain ⟨rfl, rfl⟩ := H
            go_enter Try.func31, Try.ntmps31
            go_wp2_with (first | ((with_reducible refine gate_dst (N := 1) rfl ?_); refine box_event ?hg (N := 1) ?hd (cs := #[.int .i64 a0_0, .string a0_1]) (t := 27) ?hr ?_; (case hd => rfl); (case hg => rfl); (case hr => first | (go_simp; done) | (go_simp; rfl)); intro gb106 hg w27 hbox hb; have n0_ := Aside0.mk (below_step (by repeat (first | (with_reducible first | exact HB.out | apply below_alloc | apply pw_below_drewN | apply below_drew1) | exact HB.out)) hb); have n1_ := Aside0.mk (hbox); have n2_ := Aside0.mk ((by rw [hg]; exact (below_size (by repeat (first | (with_reducible first | exact HB.out | apply below_alloc | apply pw_below_drewN | apply below_drew1) | exact HB.out))) : w.heap.size ≤ gb106)); have n3_ := Aside0.mk ((by rw [hg]; exact (below_size (by repeat (first | (with_reducible first | exact HB.out | apply below_alloc | apply pw_below_drewN | apply below_drew1) | exact HB.out))) : w.heap.size ≤ gb106)); clear HB; have HB := n0_; have BK106 := n1_; have GW106 := n2_; have GE106 := n3_; clear n0_ n1_ n2_ n3_; clear hb hbox hg; have hcz28_0 : w27.cell? ⟨gb106, 0, none⟩ = some (.int .i64 a0_0) := (blk_cell BK106.out 0).trans rfl; have hcz28_1 : w27.cell? ⟨gb106, 1, none⟩ = some (.string a0_1) := (blk_cell BK106.out 1).trans rfl; have hfz28_0 := blk_frozen BK106.out 0; have hfz28_1 := blk_frozen BK106.out 1) | (go_at_call 45; (with_reducible refine (layout_spelt.calls k a0_1 true _ A22.out).mono ?_); rintro e w' ⟨rfl, ⟨nd, rfl⟩⟩) | ((with_reducible refine gate_dst (N := 34) rfl ?_); refine Kd.R_lit k73 _ 73 ?hg (N := 34) ?hd (xs := ([(⟨2, 511, a0_0⟩ : S73), (⟨1, 13, (a0_1.size : Int)⟩ : S73)] : List (S73))) (inner := [.int .i64 2, .int .i64 511, .int .i64 a0_0, .int .i64 1, .int .i64 13, .int .i64 (a0_1.size : Int)]) (ok := fun _ => True) (okp := fun _ => True) ?hr ?hp (fun _ hk => hk) trivial (Below.refl _ _) (Nat.le_refl _) (by simp) ?_; (case hd => rfl); (case hg => rfl); (case hr => first | (go_simp; done) | (go_simp; rfl)); (case hp => exact (Reps.c3 (show Kd.M k73 _ _ _ (⟨2, 511, a0_0⟩ : S73) [.int .i64 2, .int .i64 511, .int .i64 a0_0] from (k73_mkM _ _ _ (⟨2, 511, a0_0⟩ : S73) )) (Reps.c3 (show Kd.M k73 _ _ _ (⟨1, 13, (a0_1.size : Int)⟩ : S73) [.int .i64 1, .int .i64 13, .int .i64 (a0_1.size : Int)] from (k73_mkM _ _ _ (⟨1, 13, (a0_1.size : Int)⟩ : S73) )) (Reps.none _ _)))); intro v121 w29 ho30 hb hg_ hnew_; clear hg_ hnew_; (first | rw [← Ny120.out] at ho30 | (simp only [Int.reduceToNat] at ho30; rw [← Ny120.out] at ho30)); have n0_ := Aside0.mk (Kd.R_lower ho30 (below_size (by repeat (first | (with_reducible first | exact HB.out | apply below_alloc | apply pw_below_drewN | apply below_drew1 | refine below_set ?_ GE106.out) | exact HB.out)))); have n1_ := Aside0.mk (blk_below (g := gb106) (o := .cells #[.int .i64 a0_0, .string a0_1] 27 (0, 0)) (by (with_reducible repeat (first | refine blk_drewN ?_ _ | refine blk_drew ?_ | refine blk_alloc ?_ _)); exact BK106.out) hb); have n2_ := Aside0.mk (below_step (by repeat (first | (with_reducible first | exact HB.out | apply below_alloc | apply pw_below_drewN | apply below_drew1 | refine below_set ?_ GE106.out) | exact HB.out)) hb); clear BK106; clear HB; have HO122 := n0_; have BK106 := n1_; have HB := n2_; clear n0_ n1_ n2_; clear hb ho30; obtain ⟨Ao31, co31, eo31⟩ := Kd.R_slice HO122.out; subst eo31) | ((with_reducible refine gate_callee (f := 46) rfl ?_); refine goesL_ (some 35) rfl rfl Try.func46 (by kernel_rfl) rfl #[.slice none 0 0, .slice Ao31 y120.length co31] rfl (by (try simp only [List.map_toArray, List.map_cons, List.map_nil]); first | done | rfl | (simp only [List.length_drop, List.length_take]; rfl)) ?_; (refine (layout_fields.calls k (fun k_ => some k_ = (.slice none 0 0 : Value).ownBlock) (.slice none 0 0) ([] : List Int) _ _ y120 t123 w _ ?side1 ?side2 ?side3 ?side4 A24.out).mono ?_); (case side1 => repeat (first | (with_reducible first | exact HB.out | apply below_alloc | apply pw_below_drewN | apply below_drew1 | refine below_set ?_ GE106.out) | exact HB.out)); (case side2 => exact Kd.R_nil _ _ _ _ _); (case side3 => exact Kd.C_kept_own (HO122.out) (fun k_ hk_ hs_ => (fun e_ => by simp [Value.ownBlock] at e_) hs_)); (case side4 => exact (Kd.R_reads' HO122.out).2.1); rintro e w32 ⟨v124, rfl, ho0, hb, hkp⟩; refine ⟨_, rfl, ?_⟩; have n0_ := Aside0.mk (blk_kept (by (with_reducible repeat (first | refine blk_drewN ?_ _ | refine blk_drew ?_ | refine blk_alloc ?_ _)); exact BK106.out) hkp (fun hs_ => (fun e_ => by simp [Value.ownBlock] at e_) hs_)); have n1_ := Aside0.mk (Kd.R_mono (ok' := fun k_ => True) (Kd.R_keptB (HO122.out) hkp (fun k_ hk_ hs_ => (fun e_ => by simp [Value.ownBlock] at e_) hs_)) (fun k_ hk_ => trivial)); have n2_ := Aside0.mk (Kd.R_mono (ok' := fun k_ => True) ho0 (fun k_ hk_ => trivial)); have n3_ := Aside0.mk (hb); clear BK106; clear HO122; clear HB; have BK106 := n0_; have HO122 := n1_; have HO125 := n2_; have HB := n3_; clear n0_ n1_ n2_ n3_; (try clear hb); (try clear hkp); (try clear ho0); have hcz33_0 : w32.cell? ⟨gb106, 0, none⟩ = some (.int .i64 a0_0) := (blk_cell BK106.out 0).trans rfl; have hcz33_1 : w32.cell? ⟨gb106, 1, none⟩ = some (.string a0_1) := (blk_cell BK106.out 1).trans rfl; have hfz33_0 := blk_frozen BK106.out 0; have hfz33_1 := blk_frozen BK106.out 1) | (at_builtin; refine print_append_str (w0 := w) w.heap.size rfl (.tmp 36) _ 22 9 5 rfl Try.underlying22 Try.underlying9 info5 v124 t123 a0_1 rfl rfl ?aO ?aB ?aS ?aL ?_; (case aB => exact (by repeat (first | (with_reducible first | exact HB.out | apply below_alloc | apply pw_below_drewN | apply below_drew1 | refine below_set ?_ GE106.out) | exact HB.out))); (case aO => exact (Kd.own_of_R (by (with_reducible repeat (first | apply Kd.R_alloc | apply Kd.R_drewN | apply Kd.R_drew)); exact HO125.out))); (case aS => exact (below_size (by repeat (first | (with_reducible first | exact HB.out | apply below_alloc | apply pw_below_drewN | apply below_drew1 | refine below_set ?_ GE106.out) | exact HB.out)))); (case aL => have := LMc25.out; omega); intro v127 w34 ho0 hb hg; have ho := Kd.R_of_own (h1 := fun _ => rfl) (ok := fun _ => True) ho0 (fun _ _ => trivial); clear ho0; have hat := True.intro; rw [← Ny126.out] at ho; change Kd.R (Kd.int .u8) 5 w34 w.heap.size (fun _ => True) v127 y126 at ho; have n0_ := Aside0.mk (blk_grown (g := gb106) (o := .cells #[.int .i64 a0_0, .string a0_1] 27 (0, 0)) (by (with_reducible repeat (first | refine blk_drewN ?_ _ | refine blk_drew ?_ | refine blk_alloc ?_ _)); exact BK106.out) hg (Kd.R_ne HO125.out BK106.out (by decide))); have n1_ := Aside0.mk (Kd.R_over' (by (with_reducible repeat (first | apply Kd.R_alloc | apply Kd.R_drewN | apply Kd.R_drew)); exact HO122.out) (Kd.R_typed (by (with_reducible repeat (first | apply Kd.R_alloc | apply Kd.R_drewN | apply Kd.R_drew)); exact HO125.out)) (by decide) hg); have n2_ := Aside0.mk (hb); have n3_ := Aside0.mk (ho); clear BK106; clear HO122; clear HB; clear HO125; have BK106 := n0_; have HO122 := n1_; have HB := n2_; have HO128 := n3_; clear n0_ n1_ n2_ n3_; clear ho hb hg hat; obtain ⟨Ao35, co35, eo35⟩ := Kd.R_slice HO128.out; subst eo35) | ((with_reducible refine gate_callee (f := 47) rfl ?_); refine goesL_ (some 40) rfl rfl Try.func47 (by kernel_rfl) rfl #[.slice Ao35 y126.length co35, .int .i64 16] rfl (by (try simp only [List.map_toArray, List.map_cons, List.map_nil]); first | done | rfl | (simp only [List.length_drop, List.length_take]; rfl)) ?_; (with_reducible refine (layout_full.calls _ _ y126 16 t129 _ ?side1 ?side2 A26.out).mono ?_); (case side1 => repeat (first | exact (Kd.R_reads' HO128.out).2.2 | (with_reducible refine Kd.C_alloc ?_ _) | (with_reducible refine Kd.C_drewN ?_ _) | (with_reducible refine Kd.C_drew ?_))); (case side2 => exact (Kd.R_reads' HO128.out).2.1); rintro e w36 ⟨v130, rfl, ho0, hb⟩; refine ⟨_, rfl, ?_⟩; have n0_ := Aside0.mk (Kd.R_below (by (with_reducible repeat (first | apply Kd.R_alloc | apply Kd.R_drewN | apply Kd.R_drew)); exact HO122.out) hb); have n1_ := Aside0.mk (Kd.R_elder' (by (with_reducible repeat (first | apply Kd.R_alloc | apply Kd.R_drewN | apply Kd.R_drew)); exact HO128.out) (Kd.R_base ho0) hb); have n2_ := Aside0.mk (Kd.R_lower (Kd.R_new' ho0 (Kd.R_lt (by (with_reducible repeat (first | apply Kd.R_alloc | apply Kd.R_drewN | apply Kd.R_drew)); exact HO128.out))) (below_size (by repeat (first | (with_reducible first | exact HB.out | apply below_alloc | apply pw_below_drewN | apply below_drew1 | refine below_set ?_ GE106.out) | exact HB.out)))); have n3_ := Aside0.mk (blk_below (g := gb106) (o := .cells #[.int .i64 a0_0, .string a0_1] 27 (0, 0)) (by (with_reducible repeat (first | refine blk_drewN ?_ _ | refine blk_drew ?_ | refine blk_alloc ?_ _)); exact BK106.out) hb); have n4_ := Aside0.mk (below_step (by repeat (first | (with_reducible first | exact HB.out | apply below_alloc | apply pw_below_drewN | apply below_drew1 | refine below_set ?_ GE106.out) | exact HB.out)) hb); clear HO122; clear HO128; clear BK106; clear HB; have HO122 := n0_; have HO128 := n1_; have HO131 := n2_; have BK106 := n3_; have HB := n4_; clear n0_ n1_ n2_ n3_ n4_; (try clear hb); (try clear hb2); (try clear hk); (try clear hi); (try clear ho0)))
            go_ret2
            exact ⟨_, by first | rfl | (simp [errW_none, errW_some] <;> rfl) | (simp [*, errW_none, errW_some] <;> rfl), by (with_reducible repeat (first | apply Kd.R_alloc | apply Kd.R_drewN | apply Kd.R_drew)); exact Kd.R_mono HO131.out (fun _ hk => trivial), by repeat (first | (with_reducible first | exact HB.out | apply below_alloc | apply pw_below_drewN | apply below_drew1 | refine below_set ?_ GE106.out) | exact HB.out)⟩
          · rw [if_neg c25] at H
            exact absurd H (by simp)
        · replace c23 := Bool.eq_false_iff.mpr c23
          subst c23
          have H1 : (some (([] : List Int), 1)) = some (r1, r2) := by rw [if_neg (show ¬ (false = true) by decide)] at H; exact H
          clear H
          have H := H1
          clear H1
          simp only [Option.some.injEq, Prod.mk.injEq] at H
          obtain ⟨rfl, rfl⟩ := H
          go_enter Try.func31, Try.ntmps31
          go_wp2_with (first | ((with_reducible refine gate_dst (N := 1) rfl ?_); refine box_event ?hg (N := 1) ?hd (cs := #[.int .i64 a0_0, .string a0_1]) (t := 27) ?hr ?_; (case hd => rfl); (case hg => rfl); (case hr => first | (go_simp; done) | (go_simp; rfl)); intro gb106 hg w37 hbox hb; have n0_ := Aside0.mk (below_step (by repeat (first | (with_reducible first | exact HB.out | apply below_alloc | apply pw_below_drewN | apply below_drew1) | exact HB.out)) hb); have n1_ := Aside0.mk (hbox); have n2_ := Aside0.mk ((by rw [hg]; exact (below_size (by repeat (first | (with_reducible first | exact HB.out | apply below_alloc | apply pw_below_drewN | apply below_drew1) | exact HB.out))) : w.heap.size ≤ gb106)); have n3_ := Aside0.mk ((by rw [hg]; exact (below_size (by repeat (first | (with_reducible first | exact HB.out | apply below_alloc | apply pw_below_drewN | apply below_drew1) | exact HB.out))) : w.heap.size ≤ gb106)); clear HB; have HB := n0_; have BK106 := n1_; have GW106 := n2_; have GE106 := n3_; clear n0_ n1_ n2_ n3_; clear hb hbox hg; have hcz38_0 : w37.cell? ⟨gb106, 0, none⟩ = some (.int .i64 a0_0) := (blk_cell BK106.out 0).trans rfl; have hcz38_1 : w37.cell? ⟨gb106, 1, none⟩ = some (.string a0_1) := (blk_cell BK106.out 1).trans rfl; have hfz38_0 := blk_frozen BK106.out 0; have hfz38_1 := blk_frozen BK106.out 1) | (go_at_call 45; (with_reducible refine (layout_spelt.calls k a0_1 false _ A22.out).mono ?_); rintro e w' ⟨rfl, ⟨nd, rfl⟩⟩))
          go_ret2
          exact ⟨_, by first | rfl | (simp [errW_none, errW_some] <;> rfl) | (simp [*, errW_none, errW_some] <;> rfl), by first | exact Kd.R_nil _ _ _ _ _ | exact Kd.N_nil _ _ _ _ _ | exact Kd.V_nil _ _ _ _ _ | exact Kd.Q_nil _ _ _ _ _ | exact Kd.S_nil _ _ _ _ _, by repeat (first | (with_reducible first | exact HB.out | apply below_alloc | apply pw_below_drewN | apply below_drew1 | refine below_set ?_ GE106.out) | exact HB.out)⟩

-- NOT PRINTED: function 38 (word_Over)

-- NOT PRINTED: function 52 (word_Reader_do)

-- NOT PRINTED: function 39 (word_Reader_Take)

-- NOT PRINTED: function 40 (word_Reader_Text)

-- NOT PRINTED: function 41 (word_Reader_Err)

/-! ### layout_same: function 42 -/
def layout_same.f (l0 : List Int) (l1 : List Int) : Option (Bool) := some ((strOfNums l0).toList == (strOfNums l1).toList)
set_option maxHeartbeats 8000000 in
set_option maxRecDepth 100000 in
theorem layout_same.calls (A0 : Option Addr) (c0 : Nat) (l0 : List Int) (A1 : Option Addr) (c1 : Nat) (l1 : List Int) (r : Bool) (w : World) (hr0 : Kd.C (Kd.int .u8) w A0 l0.length l0) (hc0 : l0.length ≤ c0) (hr1 : Kd.C (Kd.int .u8) w A1 l1.length l1) (hc1 : l1.length ≤ c1) (h : layout_same.f l0 l1 = some r) :
    Calls Try.prog 42 #[.slice A0 l0.length c0, .slice A1 l1.length c1] w fun e w' => e = .returned (.bool r) ∧ Drawn0 w w' := by
  have HR0 := Aside0.mk hr0
  have HC0 := Aside0.mk hc0
  clear hr0 hc0
  have HR1 := Aside0.mk hr1
  have HC1 := Aside0.mk hc1
  clear hr1 hc1
  have H : (some ((strOfNums l0).toList == (strOfNums l1).toList)) = some r := h
  clear h
  obtain rfl := Option.some.inj H
  have hcv3 := Kd.C_string (P := Try.prog) (A := A0) (c := c0) Try.underlying22 Try.underlying5 Try.underlying9 HR0.out
  have hcv4 := Kd.C_string (P := Try.prog) (A := A1) (c := c1) Try.underlying22 Try.underlying5 Try.underlying9 HR1.out
  go_enter Try.func42, Try.ntmps42
  go_wp2
  go_ret
  exact ⟨by first | rfl | (simp; done) | (simp [*]; done), by repeat (first | exact Drawn0.refl _ | apply Drawn0.step)⟩


/-! ### layout_DecodeEntry: function 27 -/
def layout_DecodeEntry.f (k : Nat) (l0 : List Int) : Option (Int × ByteArray × Int) := if (l0.length : Int) = 16 then (if ∀ x ∈ l0, 0 ≤ x ∧ x ≤ 255 then ((layout_EncodeEntry.f k (Rd.le (Rd.cutL l0 0 2)) (Rd.texV l0 3 0 (Rd.le (Rd.cutL l0 2 1)))).bind fun t => (if (Rd.texE l0 3 0 (Rd.le (Rd.cutL l0 2 1))) = 0 then (if t.2 = 0 then ((layout_same.f t.1 l0).bind fun s => (if s = true then some ((Rd.le (Rd.cutL l0 0 2)), (Rd.texV l0 3 0 (Rd.le (Rd.cutL l0 2 1))), 0) else some (0, ⟨#[]⟩, 6))) else some (0, ⟨#[]⟩, 6)) else some (0, ⟨#[]⟩, 6))) else none) else some (0, ⟨#[]⟩, 6)
theorem layout_DecodeEntry.mono : ∀ a0 k, LeO (layout_DecodeEntry.f k a0) (layout_DecodeEntry.f (k + 1) a0) := by
  intro a0 k
  unfold layout_DecodeEntry.f
  exact LeO.ite (LeO.ite (LeO.bind (layout_EncodeEntry.mono _ _ _) (fun _ => LeO.refl _)) (LeO.refl _)) (LeO.refl _)
set_option maxHeartbeats 8000000 in
set_option maxRecDepth 100000 in
theorem layout_DecodeEntry.calls (k : Nat) (A0 : Option Addr) (c0 : Nat) (l0 : List Int) (r1 : Int) (r2 : ByteArray) (r3 : Int) (w : World) (hr0 : Kd.C (Kd.int .u8) w A0 l0.length l0) (hc0 : l0.length ≤ c0) (h : layout_DecodeEntry.f k l0 = some (r1, r2, r3)) :
    Calls Try.prog 27 #[.slice A0 l0.length c0] w fun e w' => e = .returned (.tuple #[.agg #[.int .i64 r1, .string r2], .int .i64 r3]) ∧ Below w.heap.size w w' := by
  have hu36 := Try.underlying27
  unfold layout_DecodeEntry.f at h
  have HR0 := Aside0.mk hr0
  have HC0 := Aside0.mk hc0
  have HB := Aside0.mk (Below.refl w.heap.size w)
  clear hr0 hc0
  by_cases hlen : (l0.length : Int) = 16
  · rw [if_pos hlen] at h
    by_cases hwf : ∀ x ∈ l0, 0 ≤ x ∧ x ≤ 255
    · rw [if_pos hwf] at h
      obtain ⟨⟨t1, t2⟩, ht, h2⟩ := Option.bind_eq_some_iff.mp h
      have hb0 : ((l0.length : Int) != 16) = false := bne_eq_false_iff_eq.mpr hlen
      have HLEN := Aside0.mk (show l0.length = 16 by omega)
      have HWF := Aside0.mk hwf
      have HT := Aside0.mk ht
      have HN1 := Aside0.mk (show (0 : Int) + 2 = 2 by rfl)
      clear h ht hwf hlen
      by_cases he : (Rd.texE l0 3 0 (Rd.le (Rd.cutL l0 2 1))) = 0
      · rw [if_pos he] at h2
        have heb : ((Rd.texE l0 3 0 (Rd.le (Rd.cutL l0 2 1))) != 0) = false := bne_eq_false_iff_eq.mpr he
        clear he
        by_cases hq : t2 = 0
        · rw [if_pos hq] at h2
          have hqb : (t2 != 0) = false := bne_eq_false_iff_eq.mpr hq
          clear hq
          obtain ⟨s, hs, h3⟩ := Option.bind_eq_some_iff.mp h2
          have HS := Aside0.mk hs
          clear h2 hs
          by_cases hst : s = true
          · subst hst
            rw [if_pos rfl] at h3
            simp only [Option.some.injEq, Prod.mk.injEq] at h3
            obtain ⟨rfl, rfl, rfl⟩ := h3
            go_enter Try.func27, Try.ntmps27
            go_wp2_with (first
              | ((with_reducible refine gate_dst (N := 2) rfl ?_); refine box_event ?hg (N := 2) ?hd (cs := #[.int .i64 0, .string ⟨#[]⟩]) (t := 27) ?hr ?_; (case hd => rfl); (case hg => rfl); (case hr => first | (go_simp; done) | (go_simp; rfl)); intro gb hg w1 hbox hb; have n0_ := Aside0.mk (below_step (w2 := w1) (by repeat (first | (with_reducible first | exact HB.out | apply below_alloc | apply pw_below_drewN | apply below_drew1) | exact HB.out)) hb); have BKb := Aside0.mk hbox; have GE := Aside0.mk (show w.heap.size ≤ gb by rw [hg]; exact Nat.le_refl _); clear HB; have HB := n0_; clear n0_ hb hbox hg; have hcb0 : w1.cell? ⟨gb, 0, none⟩ = some (.int .i64 0) := (blk_cell BKb.out 0).trans rfl; have hcb1 : w1.cell? ⟨gb, 1, none⟩ = some (.string ⟨#[]⟩) := (blk_cell BKb.out 1).trans rfl; have hfb0 := blk_frozen BKb.out 0; have hfb1 := blk_frozen BKb.out 1)
              | (go_at_call 38; clear hcb0 hcb1 hfb0 hfb1; refine (Rd.Over_call A0 c0 l0 _ (Kd.C_below HR0.out (by repeat (first | exact HB.out | apply pw_below_drewN | apply below_drew1))) (by have := HLEN.out; omega)).mono ?_; rintro e w2 ⟨wi, g, rfl, hI, hb1, hs1, hg, _⟩; have HI2 := Aside0.mk hI; have n0_ := Aside0.mk (below_then (w2 := wi) (by repeat (first | exact HB.out | apply pw_below_drewN | apply below_drew1)) (Nat.le_trans GE.out (Nat.le_of_lt (blk_lt BKb.out))) hb1); have n1_ := Aside0.mk (blk_below (w1 := wi) (by (with_reducible repeat (first | refine blk_drewN ?_ _ | refine blk_drew ?_)); exact BKb.out) hb1); clear HB BKb; have HB := n0_; have BKi := n1_; clear hI hb1 hs1 hg n0_ n1_)
              | (have n_ := HN1.out; clear n_; go_at_call 39; refine (Rd.Take_ok wi g l0 0 2 _ (by repeat (first | (with_reducible exact HI2.out) | (with_reducible refine Rd.IsRd.drewN_ ?_ _) | (with_reducible refine Rd.IsRd.drew_ ?_) | refine Rd.IsRd.set_ ?_ _ _ _ (Nat.le_trans HI2.out.le_ (Nat.le_of_lt GG.out)) (Nat.ne_of_gt GG.out))) (by have := HLEN.out; omega) HWF.out (by omega) (by omega) (by omega) (by have := HLEN.out; omega)).mono ?_; rintro e w3 ⟨rfl, hI, _⟩; rw [HN1.out] at hI; clear HN1; have HI3 := Aside0.mk hI; clear hI)
              | ((with_reducible refine gate_dst (N := 5) rfl ?_); refine box_event ?hg (N := 5) ?hd (cs := #[.int .i64 0, .string ⟨#[]⟩]) (t := 27) ?hr ?_; (case hd => rfl); (case hg => rfl); (case hr => first | (go_simp; done) | (go_simp; rfl)); intro ge hge w4 hbox hb; have GG := Aside0.mk (show g < ge by rw [hge]; exact HI3.out.lt); have HI4 := Aside0.mk (Rd.IsRd.below (W1 := w4) (by repeat (first | exact HI3.out | refine Rd.IsRd.drewN_ ?_ _ | refine Rd.IsRd.drew_ ?_)) hb); have BKe := Aside0.mk hbox; clear hb hbox hge; have hce0 : w4.cell? ⟨ge, 0, none⟩ = some (.int .i64 0) := (blk_cell BKe.out 0).trans rfl; have hce1 : w4.cell? ⟨ge, 1, none⟩ = some (.string ⟨#[]⟩) := (blk_cell BKe.out 1).trans rfl; have hfe0 := blk_frozen BKe.out 0; have hfe1 := blk_frozen BKe.out 1)
              | (go_at_call 39; clear hce0 hce1 hfe0 hfe1; refine (Rd.Take_blk wi g l0 2 1 _ ge (.cells #[.int .i64 (Rd.le (Rd.cutL l0 0 2)), .string ⟨#[]⟩] 27 (0, 0)) (by repeat (first | (with_reducible exact HI4.out) | (with_reducible refine Rd.IsRd.drewN_ ?_ _) | (with_reducible refine Rd.IsRd.drew_ ?_) | refine Rd.IsRd.set_ ?_ _ _ _ (Nat.le_trans HI2.out.le_ (Nat.le_of_lt GG.out)) (Nat.ne_of_gt GG.out))) (by have := HLEN.out; omega) HWF.out (by omega) (by omega) (by omega) (by have := HLEN.out; omega) (by (with_reducible repeat (first | refine blk_drewN ?_ _ | refine blk_drew ?_ | refine blk_alloc ?_ _)); refine blk_put (cs := #[.int .i64 (Rd.le (Rd.cutL l0 0 2)), .string ⟨#[]⟩]) ?_ 1 _ rfl; (with_reducible repeat (first | refine blk_drewN ?_ _ | refine blk_drew ?_ | refine blk_alloc ?_ _)); refine blk_put (cs := #[.int .i64 0, .string ⟨#[]⟩]) ?_ 0 _ rfl; (with_reducible repeat (first | refine blk_drewN ?_ _ | refine blk_drew ?_ | refine blk_alloc ?_ _)); exact BKe.out) (Nat.ne_of_gt GG.out)).mono ?_; rintro e w5 ⟨rfl, hI, hb⟩; have HI5 := Aside0.mk (show Rd.IsRd wi w5 g l0 3 0 from hI); clear BKe; have BKe := Aside0.mk hb; clear hI hb)
              | (go_at_call 40; refine (Rd.Text_blk wi g l0 3 0 (Rd.le (Rd.cutL l0 2 1)) _ ge (.cells #[.int .i64 (Rd.le (Rd.cutL l0 0 2)), .string ⟨#[]⟩] 27 (0, 0)) (by repeat (first | (with_reducible exact HI5.out) | (with_reducible refine Rd.IsRd.drewN_ ?_ _) | (with_reducible refine Rd.IsRd.drew_ ?_) | refine Rd.IsRd.set_ ?_ _ _ _ (Nat.le_trans HI2.out.le_ (Nat.le_of_lt GG.out)) (Nat.ne_of_gt GG.out))) (by have := HLEN.out; omega) (by omega) (by have := HLEN.out; omega) (by (with_reducible repeat (first | refine blk_drewN ?_ _ | refine blk_drew ?_ | refine blk_alloc ?_ _)); exact BKe.out) (Nat.ne_of_gt GG.out)).mono ?_; rintro e w6 ⟨rfl, hI, hb⟩; have HI6 := Aside0.mk hI; clear BKe; have BKe := Aside0.mk hb; clear hI hb; have hce0 : w6.cell? ⟨ge, 0, none⟩ = some (.int .i64 (Rd.le (Rd.cutL l0 0 2))) := (blk_cell BKe.out 0).trans rfl; have hce1 : w6.cell? ⟨ge, 1, none⟩ = some (.string ⟨#[]⟩) := (blk_cell BKe.out 1).trans rfl; have hfe0 := blk_frozen BKe.out 0; have hfe1 := blk_frozen BKe.out 1)
              | (go_at_call 31; clear hce0 hce1 hfe0 hfe1; refine (layout_EncodeEntry.calls k (Rd.le (Rd.cutL l0 0 2)) (Rd.texV l0 3 0 (Rd.le (Rd.cutL l0 2 1))) t1 t2 _ HT.out).mono ?_; rintro e w7 ⟨v0, rfl, hr7, hb7⟩; have HR7 := Aside0.mk hr7; have HI7 := Aside0.mk (Rd.IsRd.below (w0 := wi) (g := g) (l := l0) (p := Rd.nxP 3 (Rd.le (Rd.cutL l0 2 1)) (Rd.texE l0 3 0 (Rd.le (Rd.cutL l0 2 1)))) (e := (Rd.texE l0 3 0 (Rd.le (Rd.cutL l0 2 1)))) (W1 := w7) (by repeat (first | (with_reducible exact HI6.out) | (with_reducible refine Rd.IsRd.drewN_ ?_ _) | (with_reducible refine Rd.IsRd.drew_ ?_) | refine Rd.IsRd.set_ ?_ _ _ _ (Nat.le_trans HI2.out.le_ (Nat.le_of_lt GG.out)) (Nat.ne_of_gt GG.out))) hb7); have n0_ := Aside0.mk (blk_below (w1 := w7) (o := .cells #[.int .i64 (Rd.le (Rd.cutL l0 0 2)), .string (Rd.texV l0 3 0 (Rd.le (Rd.cutL l0 2 1)))] 27 (0, 0)) (by (with_reducible repeat (first | refine blk_drewN ?_ _ | refine blk_drew ?_ | refine blk_alloc ?_ _)); refine blk_put (cs := #[.int .i64 (Rd.le (Rd.cutL l0 0 2)), .string ⟨#[]⟩]) ?_ 1 _ rfl; (with_reducible repeat (first | refine blk_drewN ?_ _ | refine blk_drew ?_ | refine blk_alloc ?_ _)); exact BKe.out) hb7); clear BKe hr7 hb7; have BKe := n0_; clear n0_; obtain ⟨A7, c7, e7⟩ := Kd.R_slice HR7.out; subst e7; have hce0 : w7.cell? ⟨ge, 0, none⟩ = some (.int .i64 (Rd.le (Rd.cutL l0 0 2))) := (blk_cell BKe.out 0).trans rfl; have hce1 : w7.cell? ⟨ge, 1, none⟩ = some (.string (Rd.texV l0 3 0 (Rd.le (Rd.cutL l0 2 1)))) := (blk_cell BKe.out 1).trans rfl; have hfe0 := blk_frozen BKe.out 0; have hfe1 := blk_frozen BKe.out 1)
              | (go_at_call 41; refine (Rd.Err_call wi g l0 _ (Rd.texE l0 3 0 (Rd.le (Rd.cutL l0 2 1))) _ (by repeat (first | (with_reducible exact HI7.out) | (with_reducible refine Rd.IsRd.drewN_ ?_ _) | (with_reducible refine Rd.IsRd.drew_ ?_) | refine Rd.IsRd.set_ ?_ _ _ _ (Nat.le_trans HI2.out.le_ (Nat.le_of_lt GG.out)) (Nat.ne_of_gt GG.out)))).mono ?_; rintro e w8 ⟨rfl, m, rfl⟩; have n0_ := Aside0.mk (below_then (w2 := w7) HB.out (Nat.le_trans GE.out (Nat.le_of_lt (blk_lt BKi.out))) HI7.out.bel); have BKb := Aside0.mk (HI7.out.old BKi.out); clear HB; have HB := n0_; clear n0_; have hcb0 : w7.cell? ⟨gb, 0, none⟩ = some (.int .i64 0) := (blk_cell BKb.out 0).trans rfl; have hcb1 : w7.cell? ⟨gb, 1, none⟩ = some (.string ⟨#[]⟩) := (blk_cell BKb.out 1).trans rfl; have hfb0 := blk_frozen BKb.out 0; have hfb1 := blk_frozen BKb.out 1)
              | (go_at_call 42; refine (layout_same.calls A7 c7 t1 A0 c0 l0 true _ (by repeat (first | exact (Kd.R_reads' HR7.out).2.2 | refine Kd.C_drewN ?_ _ | refine Kd.C_drew ?_)) (Kd.R_reads' HR7.out).2.1 (by repeat (first | exact Kd.C_below HR0.out HB.out | refine Kd.C_drewN ?_ _ | refine Kd.C_drew ?_)) HC0.out HS.out).mono ?_; rintro e w9 ⟨rfl, m9, rfl⟩))
            refine bodyPost_ret (results_ct rfl _ _ gb 27 #[.int .i64 (Rd.le (Rd.cutL l0 0 2)), .string (Rd.texV l0 3 0 (Rd.le (Rd.cutL l0 2 1)))] (0, 0) _ rfl (by (with_reducible repeat (first | refine blk_drewN ?_ _ | refine blk_drew ?_ | refine blk_alloc ?_ _)); refine blk_put (cs := #[.int .i64 (Rd.le (Rd.cutL l0 0 2)), .string ⟨#[]⟩]) ?_ 1 _ rfl; (with_reducible repeat (first | refine blk_drewN ?_ _ | refine blk_drew ?_ | refine blk_alloc ?_ _)); refine blk_put (cs := #[.int .i64 0, .string ⟨#[]⟩]) ?_ 0 _ rfl; (with_reducible repeat (first | refine blk_drewN ?_ _ | refine blk_drew ?_ | refine blk_alloc ?_ _)); exact BKb.out) hu36 rfl (by kernel_rfl)) rfl ?_
            exact ⟨rfl, by repeat (first | (with_reducible first | exact HB.out | apply below_alloc | apply pw_below_drewN | apply below_drew1 | refine below_set ?_ GE.out) | exact HB.out)⟩
          · obtain rfl : s = false := by cases s; rfl; exact absurd rfl hst
            rw [if_neg (by decide)] at h3
            simp only [Option.some.injEq, Prod.mk.injEq] at h3
            obtain ⟨rfl, rfl, rfl⟩ := h3
            go_enter Try.func27, Try.ntmps27
            go_wp2_with (first
              | ((with_reducible refine gate_dst (N := 2) rfl ?_); refine box_event ?hg (N := 2) ?hd (cs := #[.int .i64 0, .string ⟨#[]⟩]) (t := 27) ?hr ?_; (case hd => rfl); (case hg => rfl); (case hr => first | (go_simp; done) | (go_simp; rfl)); intro gb hg w1 hbox hb; have n0_ := Aside0.mk (below_step (w2 := w1) (by repeat (first | (with_reducible first | exact HB.out | apply below_alloc | apply pw_below_drewN | apply below_drew1) | exact HB.out)) hb); have BKb := Aside0.mk hbox; have GE := Aside0.mk (show w.heap.size ≤ gb by rw [hg]; exact Nat.le_refl _); clear HB; have HB := n0_; clear n0_ hb hbox hg; have hcb0 : w1.cell? ⟨gb, 0, none⟩ = some (.int .i64 0) := (blk_cell BKb.out 0).trans rfl; have hcb1 : w1.cell? ⟨gb, 1, none⟩ = some (.string ⟨#[]⟩) := (blk_cell BKb.out 1).trans rfl; have hfb0 := blk_frozen BKb.out 0; have hfb1 := blk_frozen BKb.out 1)
              | (go_at_call 38; clear hcb0 hcb1 hfb0 hfb1; refine (Rd.Over_call A0 c0 l0 _ (Kd.C_below HR0.out (by repeat (first | exact HB.out | apply pw_below_drewN | apply below_drew1))) (by have := HLEN.out; omega)).mono ?_; rintro e w2 ⟨wi, g, rfl, hI, hb1, hs1, hg, _⟩; have HI2 := Aside0.mk hI; have n0_ := Aside0.mk (below_then (w2 := wi) (by repeat (first | exact HB.out | apply pw_below_drewN | apply below_drew1)) (Nat.le_trans GE.out (Nat.le_of_lt (blk_lt BKb.out))) hb1); have n1_ := Aside0.mk (blk_below (w1 := wi) (by (with_reducible repeat (first | refine blk_drewN ?_ _ | refine blk_drew ?_)); exact BKb.out) hb1); clear HB BKb; have HB := n0_; have BKi := n1_; clear hI hb1 hs1 hg n0_ n1_)
              | (have n_ := HN1.out; clear n_; go_at_call 39; refine (Rd.Take_ok wi g l0 0 2 _ (by repeat (first | (with_reducible exact HI2.out) | (with_reducible refine Rd.IsRd.drewN_ ?_ _) | (with_reducible refine Rd.IsRd.drew_ ?_) | refine Rd.IsRd.set_ ?_ _ _ _ (Nat.le_trans HI2.out.le_ (Nat.le_of_lt GG.out)) (Nat.ne_of_gt GG.out))) (by have := HLEN.out; omega) HWF.out (by omega) (by omega) (by omega) (by have := HLEN.out; omega)).mono ?_; rintro e w3 ⟨rfl, hI, _⟩; rw [HN1.out] at hI; clear HN1; have HI3 := Aside0.mk hI; clear hI)
              | ((with_reducible refine gate_dst (N := 5) rfl ?_); refine box_event ?hg (N := 5) ?hd (cs := #[.int .i64 0, .string ⟨#[]⟩]) (t := 27) ?hr ?_; (case hd => rfl); (case hg => rfl); (case hr => first | (go_simp; done) | (go_simp; rfl)); intro ge hge w4 hbox hb; have GG := Aside0.mk (show g < ge by rw [hge]; exact HI3.out.lt); have HI4 := Aside0.mk (Rd.IsRd.below (W1 := w4) (by repeat (first | exact HI3.out | refine Rd.IsRd.drewN_ ?_ _ | refine Rd.IsRd.drew_ ?_)) hb); have BKe := Aside0.mk hbox; clear hb hbox hge; have hce0 : w4.cell? ⟨ge, 0, none⟩ = some (.int .i64 0) := (blk_cell BKe.out 0).trans rfl; have hce1 : w4.cell? ⟨ge, 1, none⟩ = some (.string ⟨#[]⟩) := (blk_cell BKe.out 1).trans rfl; have hfe0 := blk_frozen BKe.out 0; have hfe1 := blk_frozen BKe.out 1)
              | (go_at_call 39; clear hce0 hce1 hfe0 hfe1; refine (Rd.Take_blk wi g l0 2 1 _ ge (.cells #[.int .i64 (Rd.le (Rd.cutL l0 0 2)), .string ⟨#[]⟩] 27 (0, 0)) (by repeat (first | (with_reducible exact HI4.out) | (with_reducible refine Rd.IsRd.drewN_ ?_ _) | (with_reducible refine Rd.IsRd.drew_ ?_) | refine Rd.IsRd.set_ ?_ _ _ _ (Nat.le_trans HI2.out.le_ (Nat.le_of_lt GG.out)) (Nat.ne_of_gt GG.out))) (by have := HLEN.out; omega) HWF.out (by omega) (by omega) (by omega) (by have := HLEN.out; omega) (by (with_reducible repeat (first | refine blk_drewN ?_ _ | refine blk_drew ?_ | refine blk_alloc ?_ _)); refine blk_put (cs := #[.int .i64 (Rd.le (Rd.cutL l0 0 2)), .string ⟨#[]⟩]) ?_ 1 _ rfl; (with_reducible repeat (first | refine blk_drewN ?_ _ | refine blk_drew ?_ | refine blk_alloc ?_ _)); refine blk_put (cs := #[.int .i64 0, .string ⟨#[]⟩]) ?_ 0 _ rfl; (with_reducible repeat (first | refine blk_drewN ?_ _ | refine blk_drew ?_ | refine blk_alloc ?_ _)); exact BKe.out) (Nat.ne_of_gt GG.out)).mono ?_; rintro e w5 ⟨rfl, hI, hb⟩; have HI5 := Aside0.mk (show Rd.IsRd wi w5 g l0 3 0 from hI); clear BKe; have BKe := Aside0.mk hb; clear hI hb)
              | (go_at_call 40; refine (Rd.Text_blk wi g l0 3 0 (Rd.le (Rd.cutL l0 2 1)) _ ge (.cells #[.int .i64 (Rd.le (Rd.cutL l0 0 2)), .string ⟨#[]⟩] 27 (0, 0)) (by repeat (first | (with_reducible exact HI5.out) | (with_reducible refine Rd.IsRd.drewN_ ?_ _) | (with_reducible refine Rd.IsRd.drew_ ?_) | refine Rd.IsRd.set_ ?_ _ _ _ (Nat.le_trans HI2.out.le_ (Nat.le_of_lt GG.out)) (Nat.ne_of_gt GG.out))) (by have := HLEN.out; omega) (by omega) (by have := HLEN.out; omega) (by (with_reducible repeat (first | refine blk_drewN ?_ _ | refine blk_drew ?_ | refine blk_alloc ?_ _)); exact BKe.out) (Nat.ne_of_gt GG.out)).mono ?_; rintro e w6 ⟨rfl, hI, hb⟩; have HI6 := Aside0.mk hI; clear BKe; have BKe := Aside0.mk hb; clear hI hb; have hce0 : w6.cell? ⟨ge, 0, none⟩ = some (.int .i64 (Rd.le (Rd.cutL l0 0 2))) := (blk_cell BKe.out 0).trans rfl; have hce1 : w6.cell? ⟨ge, 1, none⟩ = some (.string ⟨#[]⟩) := (blk_cell BKe.out 1).trans rfl; have hfe0 := blk_frozen BKe.out 0; have hfe1 := blk_frozen BKe.out 1)
              | (go_at_call 31; clear hce0 hce1 hfe0 hfe1; refine (layout_EncodeEntry.calls k (Rd.le (Rd.cutL l0 0 2)) (Rd.texV l0 3 0 (Rd.le (Rd.cutL l0 2 1))) t1 t2 _ HT.out).mono ?_; rintro e w7 ⟨v0, rfl, hr7, hb7⟩; have HR7 := Aside0.mk hr7; have HI7 := Aside0.mk (Rd.IsRd.below (w0 := wi) (g := g) (l := l0) (p := Rd.nxP 3 (Rd.le (Rd.cutL l0 2 1)) (Rd.texE l0 3 0 (Rd.le (Rd.cutL l0 2 1)))) (e := (Rd.texE l0 3 0 (Rd.le (Rd.cutL l0 2 1)))) (W1 := w7) (by repeat (first | (with_reducible exact HI6.out) | (with_reducible refine Rd.IsRd.drewN_ ?_ _) | (with_reducible refine Rd.IsRd.drew_ ?_) | refine Rd.IsRd.set_ ?_ _ _ _ (Nat.le_trans HI2.out.le_ (Nat.le_of_lt GG.out)) (Nat.ne_of_gt GG.out))) hb7); have n0_ := Aside0.mk (blk_below (w1 := w7) (o := .cells #[.int .i64 (Rd.le (Rd.cutL l0 0 2)), .string (Rd.texV l0 3 0 (Rd.le (Rd.cutL l0 2 1)))] 27 (0, 0)) (by (with_reducible repeat (first | refine blk_drewN ?_ _ | refine blk_drew ?_ | refine blk_alloc ?_ _)); refine blk_put (cs := #[.int .i64 (Rd.le (Rd.cutL l0 0 2)), .string ⟨#[]⟩]) ?_ 1 _ rfl; (with_reducible repeat (first | refine blk_drewN ?_ _ | refine blk_drew ?_ | refine blk_alloc ?_ _)); exact BKe.out) hb7); clear BKe hr7 hb7; have BKe := n0_; clear n0_; obtain ⟨A7, c7, e7⟩ := Kd.R_slice HR7.out; subst e7; have hce0 : w7.cell? ⟨ge, 0, none⟩ = some (.int .i64 (Rd.le (Rd.cutL l0 0 2))) := (blk_cell BKe.out 0).trans rfl; have hce1 : w7.cell? ⟨ge, 1, none⟩ = some (.string (Rd.texV l0 3 0 (Rd.le (Rd.cutL l0 2 1)))) := (blk_cell BKe.out 1).trans rfl; have hfe0 := blk_frozen BKe.out 0; have hfe1 := blk_frozen BKe.out 1)
              | (go_at_call 41; refine (Rd.Err_call wi g l0 _ (Rd.texE l0 3 0 (Rd.le (Rd.cutL l0 2 1))) _ (by repeat (first | (with_reducible exact HI7.out) | (with_reducible refine Rd.IsRd.drewN_ ?_ _) | (with_reducible refine Rd.IsRd.drew_ ?_) | refine Rd.IsRd.set_ ?_ _ _ _ (Nat.le_trans HI2.out.le_ (Nat.le_of_lt GG.out)) (Nat.ne_of_gt GG.out)))).mono ?_; rintro e w8 ⟨rfl, m, rfl⟩; have n0_ := Aside0.mk (below_then (w2 := w7) HB.out (Nat.le_trans GE.out (Nat.le_of_lt (blk_lt BKi.out))) HI7.out.bel); have BKb := Aside0.mk (HI7.out.old BKi.out); clear HB; have HB := n0_; clear n0_; have hcb0 : w7.cell? ⟨gb, 0, none⟩ = some (.int .i64 0) := (blk_cell BKb.out 0).trans rfl; have hcb1 : w7.cell? ⟨gb, 1, none⟩ = some (.string ⟨#[]⟩) := (blk_cell BKb.out 1).trans rfl; have hfb0 := blk_frozen BKb.out 0; have hfb1 := blk_frozen BKb.out 1)
              | (go_at_call 42; refine (layout_same.calls A7 c7 t1 A0 c0 l0 false _ (by repeat (first | exact (Kd.R_reads' HR7.out).2.2 | refine Kd.C_drewN ?_ _ | refine Kd.C_drew ?_)) (Kd.R_reads' HR7.out).2.1 (by repeat (first | exact Kd.C_below HR0.out HB.out | refine Kd.C_drewN ?_ _ | refine Kd.C_drew ?_)) HC0.out HS.out).mono ?_; rintro e w9 ⟨rfl, m9, rfl⟩))
            refine bodyPost_ret (results_ct rfl _ _ gb 27 #[.int .i64 0, .string ⟨#[]⟩] (0, 0) _ rfl (by (with_reducible repeat (first | refine blk_drewN ?_ _ | refine blk_drew ?_ | refine blk_alloc ?_ _)); refine blk_put (cs := #[.int .i64 0, .string ⟨#[]⟩]) ?_ 1 _ rfl; (with_reducible repeat (first | refine blk_drewN ?_ _ | refine blk_drew ?_ | refine blk_alloc ?_ _)); refine blk_put (cs := #[.int .i64 0, .string ⟨#[]⟩]) ?_ 0 _ rfl; (with_reducible repeat (first | refine blk_drewN ?_ _ | refine blk_drew ?_ | refine blk_alloc ?_ _)); exact BKb.out) hu36 rfl (by kernel_rfl)) rfl ?_
            exact ⟨rfl, by repeat (first | (with_reducible first | exact HB.out | apply below_alloc | apply pw_below_drewN | apply below_drew1 | refine below_set ?_ GE.out) | exact HB.out)⟩
        · rw [if_neg hq] at h2
          have hqb : (t2 != 0) = true := bne_iff_ne.mpr hq
          simp only [Option.some.injEq, Prod.mk.injEq] at h2
          obtain ⟨rfl, rfl, rfl⟩ := h2
          clear hq
          go_enter Try.func27, Try.ntmps27
          go_wp2_with (first
            | ((with_reducible refine gate_dst (N := 2) rfl ?_); refine box_event ?hg (N := 2) ?hd (cs := #[.int .i64 0, .string ⟨#[]⟩]) (t := 27) ?hr ?_; (case hd => rfl); (case hg => rfl); (case hr => first | (go_simp; done) | (go_simp; rfl)); intro gb hg w1 hbox hb; have n0_ := Aside0.mk (below_step (w2 := w1) (by repeat (first | (with_reducible first | exact HB.out | apply below_alloc | apply pw_below_drewN | apply below_drew1) | exact HB.out)) hb); have BKb := Aside0.mk hbox; have GE := Aside0.mk (show w.heap.size ≤ gb by rw [hg]; exact Nat.le_refl _); clear HB; have HB := n0_; clear n0_ hb hbox hg; have hcb0 : w1.cell? ⟨gb, 0, none⟩ = some (.int .i64 0) := (blk_cell BKb.out 0).trans rfl; have hcb1 : w1.cell? ⟨gb, 1, none⟩ = some (.string ⟨#[]⟩) := (blk_cell BKb.out 1).trans rfl; have hfb0 := blk_frozen BKb.out 0; have hfb1 := blk_frozen BKb.out 1)
            | (go_at_call 38; clear hcb0 hcb1 hfb0 hfb1; refine (Rd.Over_call A0 c0 l0 _ (Kd.C_below HR0.out (by repeat (first | exact HB.out | apply pw_below_drewN | apply below_drew1))) (by have := HLEN.out; omega)).mono ?_; rintro e w2 ⟨wi, g, rfl, hI, hb1, hs1, hg, _⟩; have HI2 := Aside0.mk hI; have n0_ := Aside0.mk (below_then (w2 := wi) (by repeat (first | exact HB.out | apply pw_below_drewN | apply below_drew1)) (Nat.le_trans GE.out (Nat.le_of_lt (blk_lt BKb.out))) hb1); have n1_ := Aside0.mk (blk_below (w1 := wi) (by (with_reducible repeat (first | refine blk_drewN ?_ _ | refine blk_drew ?_)); exact BKb.out) hb1); clear HB BKb; have HB := n0_; have BKi := n1_; clear hI hb1 hs1 hg n0_ n1_)
            | (have n_ := HN1.out; clear n_; go_at_call 39; refine (Rd.Take_ok wi g l0 0 2 _ (by repeat (first | (with_reducible exact HI2.out) | (with_reducible refine Rd.IsRd.drewN_ ?_ _) | (with_reducible refine Rd.IsRd.drew_ ?_) | refine Rd.IsRd.set_ ?_ _ _ _ (Nat.le_trans HI2.out.le_ (Nat.le_of_lt GG.out)) (Nat.ne_of_gt GG.out))) (by have := HLEN.out; omega) HWF.out (by omega) (by omega) (by omega) (by have := HLEN.out; omega)).mono ?_; rintro e w3 ⟨rfl, hI, _⟩; rw [HN1.out] at hI; clear HN1; have HI3 := Aside0.mk hI; clear hI)
            | ((with_reducible refine gate_dst (N := 5) rfl ?_); refine box_event ?hg (N := 5) ?hd (cs := #[.int .i64 0, .string ⟨#[]⟩]) (t := 27) ?hr ?_; (case hd => rfl); (case hg => rfl); (case hr => first | (go_simp; done) | (go_simp; rfl)); intro ge hge w4 hbox hb; have GG := Aside0.mk (show g < ge by rw [hge]; exact HI3.out.lt); have HI4 := Aside0.mk (Rd.IsRd.below (W1 := w4) (by repeat (first | exact HI3.out | refine Rd.IsRd.drewN_ ?_ _ | refine Rd.IsRd.drew_ ?_)) hb); have BKe := Aside0.mk hbox; clear hb hbox hge; have hce0 : w4.cell? ⟨ge, 0, none⟩ = some (.int .i64 0) := (blk_cell BKe.out 0).trans rfl; have hce1 : w4.cell? ⟨ge, 1, none⟩ = some (.string ⟨#[]⟩) := (blk_cell BKe.out 1).trans rfl; have hfe0 := blk_frozen BKe.out 0; have hfe1 := blk_frozen BKe.out 1)
            | (go_at_call 39; clear hce0 hce1 hfe0 hfe1; refine (Rd.Take_blk wi g l0 2 1 _ ge (.cells #[.int .i64 (Rd.le (Rd.cutL l0 0 2)), .string ⟨#[]⟩] 27 (0, 0)) (by repeat (first | (with_reducible exact HI4.out) | (with_reducible refine Rd.IsRd.drewN_ ?_ _) | (with_reducible refine Rd.IsRd.drew_ ?_) | refine Rd.IsRd.set_ ?_ _ _ _ (Nat.le_trans HI2.out.le_ (Nat.le_of_lt GG.out)) (Nat.ne_of_gt GG.out))) (by have := HLEN.out; omega) HWF.out (by omega) (by omega) (by omega) (by have := HLEN.out; omega) (by (with_reducible repeat (first | refine blk_drewN ?_ _ | refine blk_drew ?_ | refine blk_alloc ?_ _)); refine blk_put (cs := #[.int .i64 (Rd.le (Rd.cutL l0 0 2)), .string ⟨#[]⟩]) ?_ 1 _ rfl; (with_reducible repeat (first | refine blk_drewN ?_ _ | refine blk_drew ?_ | refine blk_alloc ?_ _)); refine blk_put (cs := #[.int .i64 0, .string ⟨#[]⟩]) ?_ 0 _ rfl; (with_reducible repeat (first | refine blk_drewN ?_ _ | refine blk_drew ?_ | refine blk_alloc ?_ _)); exact BKe.out) (Nat.ne_of_gt GG.out)).mono ?_; rintro e w5 ⟨rfl, hI, hb⟩; have HI5 := Aside0.mk (show Rd.IsRd wi w5 g l0 3 0 from hI); clear BKe; have BKe := Aside0.mk hb; clear hI hb)
            | (go_at_call 40; refine (Rd.Text_blk wi g l0 3 0 (Rd.le (Rd.cutL l0 2 1)) _ ge (.cells #[.int .i64 (Rd.le (Rd.cutL l0 0 2)), .string ⟨#[]⟩] 27 (0, 0)) (by repeat (first | (with_reducible exact HI5.out) | (with_reducible refine Rd.IsRd.drewN_ ?_ _) | (with_reducible refine Rd.IsRd.drew_ ?_) | refine Rd.IsRd.set_ ?_ _ _ _ (Nat.le_trans HI2.out.le_ (Nat.le_of_lt GG.out)) (Nat.ne_of_gt GG.out))) (by have := HLEN.out; omega) (by omega) (by have := HLEN.out; omega) (by (with_reducible repeat (first | refine blk_drewN ?_ _ | refine blk_drew ?_ | refine blk_alloc ?_ _)); exact BKe.out) (Nat.ne_of_gt GG.out)).mono ?_; rintro e w6 ⟨rfl, hI, hb⟩; have HI6 := Aside0.mk hI; clear BKe; have BKe := Aside0.mk hb; clear hI hb; have hce0 : w6.cell? ⟨ge, 0, none⟩ = some (.int .i64 (Rd.le (Rd.cutL l0 0 2))) := (blk_cell BKe.out 0).trans rfl; have hce1 : w6.cell? ⟨ge, 1, none⟩ = some (.string ⟨#[]⟩) := (blk_cell BKe.out 1).trans rfl; have hfe0 := blk_frozen BKe.out 0; have hfe1 := blk_frozen BKe.out 1)
            | (go_at_call 31; clear hce0 hce1 hfe0 hfe1; refine (layout_EncodeEntry.calls k (Rd.le (Rd.cutL l0 0 2)) (Rd.texV l0 3 0 (Rd.le (Rd.cutL l0 2 1))) t1 t2 _ HT.out).mono ?_; rintro e w7 ⟨v0, rfl, hr7, hb7⟩; have HR7 := Aside0.mk hr7; have HI7 := Aside0.mk (Rd.IsRd.below (w0 := wi) (g := g) (l := l0) (p := Rd.nxP 3 (Rd.le (Rd.cutL l0 2 1)) (Rd.texE l0 3 0 (Rd.le (Rd.cutL l0 2 1)))) (e := (Rd.texE l0 3 0 (Rd.le (Rd.cutL l0 2 1)))) (W1 := w7) (by repeat (first | (with_reducible exact HI6.out) | (with_reducible refine Rd.IsRd.drewN_ ?_ _) | (with_reducible refine Rd.IsRd.drew_ ?_) | refine Rd.IsRd.set_ ?_ _ _ _ (Nat.le_trans HI2.out.le_ (Nat.le_of_lt GG.out)) (Nat.ne_of_gt GG.out))) hb7); have n0_ := Aside0.mk (blk_below (w1 := w7) (o := .cells #[.int .i64 (Rd.le (Rd.cutL l0 0 2)), .string (Rd.texV l0 3 0 (Rd.le (Rd.cutL l0 2 1)))] 27 (0, 0)) (by (with_reducible repeat (first | refine blk_drewN ?_ _ | refine blk_drew ?_ | refine blk_alloc ?_ _)); refine blk_put (cs := #[.int .i64 (Rd.le (Rd.cutL l0 0 2)), .string ⟨#[]⟩]) ?_ 1 _ rfl; (with_reducible repeat (first | refine blk_drewN ?_ _ | refine blk_drew ?_ | refine blk_alloc ?_ _)); exact BKe.out) hb7); clear BKe hr7 hb7; have BKe := n0_; clear n0_; obtain ⟨A7, c7, e7⟩ := Kd.R_slice HR7.out; subst e7; have hce0 : w7.cell? ⟨ge, 0, none⟩ = some (.int .i64 (Rd.le (Rd.cutL l0 0 2))) := (blk_cell BKe.out 0).trans rfl; have hce1 : w7.cell? ⟨ge, 1, none⟩ = some (.string (Rd.texV l0 3 0 (Rd.le (Rd.cutL l0 2 1)))) := (blk_cell BKe.out 1).trans rfl; have hfe0 := blk_frozen BKe.out 0; have hfe1 := blk_frozen BKe.out 1)
            | (go_at_call 41; refine (Rd.Err_call wi g l0 _ (Rd.texE l0 3 0 (Rd.le (Rd.cutL l0 2 1))) _ (by repeat (first | (with_reducible exact HI7.out) | (with_reducible refine Rd.IsRd.drewN_ ?_ _) | (with_reducible refine Rd.IsRd.drew_ ?_) | refine Rd.IsRd.set_ ?_ _ _ _ (Nat.le_trans HI2.out.le_ (Nat.le_of_lt GG.out)) (Nat.ne_of_gt GG.out)))).mono ?_; rintro e w8 ⟨rfl, m, rfl⟩; have n0_ := Aside0.mk (below_then (w2 := w7) HB.out (Nat.le_trans GE.out (Nat.le_of_lt (blk_lt BKi.out))) HI7.out.bel); have BKb := Aside0.mk (HI7.out.old BKi.out); clear HB; have HB := n0_; clear n0_; have hcb0 : w7.cell? ⟨gb, 0, none⟩ = some (.int .i64 0) := (blk_cell BKb.out 0).trans rfl; have hcb1 : w7.cell? ⟨gb, 1, none⟩ = some (.string ⟨#[]⟩) := (blk_cell BKb.out 1).trans rfl; have hfb0 := blk_frozen BKb.out 0; have hfb1 := blk_frozen BKb.out 1))
          refine bodyPost_ret (results_ct rfl _ _ gb 27 #[.int .i64 0, .string ⟨#[]⟩] (0, 0) _ rfl (by (with_reducible repeat (first | refine blk_drewN ?_ _ | refine blk_drew ?_ | refine blk_alloc ?_ _)); refine blk_put (cs := #[.int .i64 0, .string ⟨#[]⟩]) ?_ 1 _ rfl; (with_reducible repeat (first | refine blk_drewN ?_ _ | refine blk_drew ?_ | refine blk_alloc ?_ _)); refine blk_put (cs := #[.int .i64 0, .string ⟨#[]⟩]) ?_ 0 _ rfl; (with_reducible repeat (first | refine blk_drewN ?_ _ | refine blk_drew ?_ | refine blk_alloc ?_ _)); exact BKb.out) hu36 rfl (by kernel_rfl)) rfl ?_
          exact ⟨rfl, by repeat (first | (with_reducible first | exact HB.out | apply below_alloc | apply pw_below_drewN | apply below_drew1 | refine below_set ?_ GE.out) | exact HB.out)⟩
      · rw [if_neg he] at h2
        have heb : ((Rd.texE l0 3 0 (Rd.le (Rd.cutL l0 2 1))) != 0) = true := bne_iff_ne.mpr he
        simp only [Option.some.injEq, Prod.mk.injEq] at h2
        obtain ⟨rfl, rfl, rfl⟩ := h2
        clear he
        go_enter Try.func27, Try.ntmps27
        go_wp2_with (first
          | ((with_reducible refine gate_dst (N := 2) rfl ?_); refine box_event ?hg (N := 2) ?hd (cs := #[.int .i64 0, .string ⟨#[]⟩]) (t := 27) ?hr ?_; (case hd => rfl); (case hg => rfl); (case hr => first | (go_simp; done) | (go_simp; rfl)); intro gb hg w1 hbox hb; have n0_ := Aside0.mk (below_step (w2 := w1) (by repeat (first | (with_reducible first | exact HB.out | apply below_alloc | apply pw_below_drewN | apply below_drew1) | exact HB.out)) hb); have BKb := Aside0.mk hbox; have GE := Aside0.mk (show w.heap.size ≤ gb by rw [hg]; exact Nat.le_refl _); clear HB; have HB := n0_; clear n0_ hb hbox hg; have hcb0 : w1.cell? ⟨gb, 0, none⟩ = some (.int .i64 0) := (blk_cell BKb.out 0).trans rfl; have hcb1 : w1.cell? ⟨gb, 1, none⟩ = some (.string ⟨#[]⟩) := (blk_cell BKb.out 1).trans rfl; have hfb0 := blk_frozen BKb.out 0; have hfb1 := blk_frozen BKb.out 1)
          | (go_at_call 38; clear hcb0 hcb1 hfb0 hfb1; refine (Rd.Over_call A0 c0 l0 _ (Kd.C_below HR0.out (by repeat (first | exact HB.out | apply pw_below_drewN | apply below_drew1))) (by have := HLEN.out; omega)).mono ?_; rintro e w2 ⟨wi, g, rfl, hI, hb1, hs1, hg, _⟩; have HI2 := Aside0.mk hI; have n0_ := Aside0.mk (below_then (w2 := wi) (by repeat (first | exact HB.out | apply pw_below_drewN | apply below_drew1)) (Nat.le_trans GE.out (Nat.le_of_lt (blk_lt BKb.out))) hb1); have n1_ := Aside0.mk (blk_below (w1 := wi) (by (with_reducible repeat (first | refine blk_drewN ?_ _ | refine blk_drew ?_)); exact BKb.out) hb1); clear HB BKb; have HB := n0_; have BKi := n1_; clear hI hb1 hs1 hg n0_ n1_)
          | (have n_ := HN1.out; clear n_; go_at_call 39; refine (Rd.Take_ok wi g l0 0 2 _ (by repeat (first | (with_reducible exact HI2.out) | (with_reducible refine Rd.IsRd.drewN_ ?_ _) | (with_reducible refine Rd.IsRd.drew_ ?_) | refine Rd.IsRd.set_ ?_ _ _ _ (Nat.le_trans HI2.out.le_ (Nat.le_of_lt GG.out)) (Nat.ne_of_gt GG.out))) (by have := HLEN.out; omega) HWF.out (by omega) (by omega) (by omega) (by have := HLEN.out; omega)).mono ?_; rintro e w3 ⟨rfl, hI, _⟩; rw [HN1.out] at hI; clear HN1; have HI3 := Aside0.mk hI; clear hI)
          | ((with_reducible refine gate_dst (N := 5) rfl ?_); refine box_event ?hg (N := 5) ?hd (cs := #[.int .i64 0, .string ⟨#[]⟩]) (t := 27) ?hr ?_; (case hd => rfl); (case hg => rfl); (case hr => first | (go_simp; done) | (go_simp; rfl)); intro ge hge w4 hbox hb; have GG := Aside0.mk (show g < ge by rw [hge]; exact HI3.out.lt); have HI4 := Aside0.mk (Rd.IsRd.below (W1 := w4) (by repeat (first | exact HI3.out | refine Rd.IsRd.drewN_ ?_ _ | refine Rd.IsRd.drew_ ?_)) hb); have BKe := Aside0.mk hbox; clear hb hbox hge; have hce0 : w4.cell? ⟨ge, 0, none⟩ = some (.int .i64 0) := (blk_cell BKe.out 0).trans rfl; have hce1 : w4.cell? ⟨ge, 1, none⟩ = some (.string ⟨#[]⟩) := (blk_cell BKe.out 1).trans rfl; have hfe0 := blk_frozen BKe.out 0; have hfe1 := blk_frozen BKe.out 1)
          | (go_at_call 39; clear hce0 hce1 hfe0 hfe1; refine (Rd.Take_blk wi g l0 2 1 _ ge (.cells #[.int .i64 (Rd.le (Rd.cutL l0 0 2)), .string ⟨#[]⟩] 27 (0, 0)) (by repeat (first | (with_reducible exact HI4.out) | (with_reducible refine Rd.IsRd.drewN_ ?_ _) | (with_reducible refine Rd.IsRd.drew_ ?_) | refine Rd.IsRd.set_ ?_ _ _ _ (Nat.le_trans HI2.out.le_ (Nat.le_of_lt GG.out)) (Nat.ne_of_gt GG.out))) (by have := HLEN.out; omega) HWF.out (by omega) (by omega) (by omega) (by have := HLEN.out; omega) (by (with_reducible repeat (first | refine blk_drewN ?_ _ | refine blk_drew ?_ | refine blk_alloc ?_ _)); refine blk_put (cs := #[.int .i64 (Rd.le (Rd.cutL l0 0 2)), .string ⟨#[]⟩]) ?_ 1 _ rfl; (with_reducible repeat (first | refine blk_drewN ?_ _ | refine blk_drew ?_ | refine blk_alloc ?_ _)); refine blk_put (cs := #[.int .i64 0, .string ⟨#[]⟩]) ?_ 0 _ rfl; (with_reducible repeat (first | refine blk_drewN ?_ _ | refine blk_drew ?_ | refine blk_alloc ?_ _)); exact BKe.out) (Nat.ne_of_gt GG.out)).mono ?_; rintro e w5 ⟨rfl, hI, hb⟩; have HI5 := Aside0.mk (show Rd.IsRd wi w5 g l0 3 0 from hI); clear BKe; have BKe := Aside0.mk hb; clear hI hb)
          | (go_at_call 40; refine (Rd.Text_blk wi g l0 3 0 (Rd.le (Rd.cutL l0 2 1)) _ ge (.cells #[.int .i64 (Rd.le (Rd.cutL l0 0 2)), .string ⟨#[]⟩] 27 (0, 0)) (by repeat (first | (with_reducible exact HI5.out) | (with_reducible refine Rd.IsRd.drewN_ ?_ _) | (with_reducible refine Rd.IsRd.drew_ ?_) | refine Rd.IsRd.set_ ?_ _ _ _ (Nat.le_trans HI2.out.le_ (Nat.le_of_lt GG.out)) (Nat.ne_of_gt GG.out))) (by have := HLEN.out; omega) (by omega) (by have := HLEN.out; omega) (by (with_reducible repeat (first | refine blk_drewN ?_ _ | refine blk_drew ?_ | refine blk_alloc ?_ _)); exact BKe.out) (Nat.ne_of_gt GG.out)).mono ?_; rintro e w6 ⟨rfl, hI, hb⟩; have HI6 := Aside0.mk hI; clear BKe; have BKe := Aside0.mk hb; clear hI hb; have hce0 : w6.cell? ⟨ge, 0, none⟩ = some (.int .i64 (Rd.le (Rd.cutL l0 0 2))) := (blk_cell BKe.out 0).trans rfl; have hce1 : w6.cell? ⟨ge, 1, none⟩ = some (.string ⟨#[]⟩) := (blk_cell BKe.out 1).trans rfl; have hfe0 := blk_frozen BKe.out 0; have hfe1 := blk_frozen BKe.out 1)
          | (go_at_call 31; clear hce0 hce1 hfe0 hfe1; refine (layout_EncodeEntry.calls k (Rd.le (Rd.cutL l0 0 2)) (Rd.texV l0 3 0 (Rd.le (Rd.cutL l0 2 1))) t1 t2 _ HT.out).mono ?_; rintro e w7 ⟨v0, rfl, hr7, hb7⟩; have HR7 := Aside0.mk hr7; have HI7 := Aside0.mk (Rd.IsRd.below (w0 := wi) (g := g) (l := l0) (p := Rd.nxP 3 (Rd.le (Rd.cutL l0 2 1)) (Rd.texE l0 3 0 (Rd.le (Rd.cutL l0 2 1)))) (e := (Rd.texE l0 3 0 (Rd.le (Rd.cutL l0 2 1)))) (W1 := w7) (by repeat (first | (with_reducible exact HI6.out) | (with_reducible refine Rd.IsRd.drewN_ ?_ _) | (with_reducible refine Rd.IsRd.drew_ ?_) | refine Rd.IsRd.set_ ?_ _ _ _ (Nat.le_trans HI2.out.le_ (Nat.le_of_lt GG.out)) (Nat.ne_of_gt GG.out))) hb7); have n0_ := Aside0.mk (blk_below (w1 := w7) (o := .cells #[.int .i64 (Rd.le (Rd.cutL l0 0 2)), .string (Rd.texV l0 3 0 (Rd.le (Rd.cutL l0 2 1)))] 27 (0, 0)) (by (with_reducible repeat (first | refine blk_drewN ?_ _ | refine blk_drew ?_ | refine blk_alloc ?_ _)); refine blk_put (cs := #[.int .i64 (Rd.le (Rd.cutL l0 0 2)), .string ⟨#[]⟩]) ?_ 1 _ rfl; (with_reducible repeat (first | refine blk_drewN ?_ _ | refine blk_drew ?_ | refine blk_alloc ?_ _)); exact BKe.out) hb7); clear BKe hr7 hb7; have BKe := n0_; clear n0_; obtain ⟨A7, c7, e7⟩ := Kd.R_slice HR7.out; subst e7; have hce0 : w7.cell? ⟨ge, 0, none⟩ = some (.int .i64 (Rd.le (Rd.cutL l0 0 2))) := (blk_cell BKe.out 0).trans rfl; have hce1 : w7.cell? ⟨ge, 1, none⟩ = some (.string (Rd.texV l0 3 0 (Rd.le (Rd.cutL l0 2 1)))) := (blk_cell BKe.out 1).trans rfl; have hfe0 := blk_frozen BKe.out 0; have hfe1 := blk_frozen BKe.out 1)
          | (go_at_call 41; refine (Rd.Err_call wi g l0 _ (Rd.texE l0 3 0 (Rd.le (Rd.cutL l0 2 1))) _ (by repeat (first | (with_reducible exact HI7.out) | (with_reducible refine Rd.IsRd.drewN_ ?_ _) | (with_reducible refine Rd.IsRd.drew_ ?_) | refine Rd.IsRd.set_ ?_ _ _ _ (Nat.le_trans HI2.out.le_ (Nat.le_of_lt GG.out)) (Nat.ne_of_gt GG.out)))).mono ?_; rintro e w8 ⟨rfl, m, rfl⟩; have n0_ := Aside0.mk (below_then (w2 := w7) HB.out (Nat.le_trans GE.out (Nat.le_of_lt (blk_lt BKi.out))) HI7.out.bel); have BKb := Aside0.mk (HI7.out.old BKi.out); clear HB; have HB := n0_; clear n0_; have hcb0 : w7.cell? ⟨gb, 0, none⟩ = some (.int .i64 0) := (blk_cell BKb.out 0).trans rfl; have hcb1 : w7.cell? ⟨gb, 1, none⟩ = some (.string ⟨#[]⟩) := (blk_cell BKb.out 1).trans rfl; have hfb0 := blk_frozen BKb.out 0; have hfb1 := blk_frozen BKb.out 1))
        refine bodyPost_ret (results_ct rfl _ _ gb 27 #[.int .i64 0, .string ⟨#[]⟩] (0, 0) _ rfl (by (with_reducible repeat (first | refine blk_drewN ?_ _ | refine blk_drew ?_ | refine blk_alloc ?_ _)); refine blk_put (cs := #[.int .i64 0, .string ⟨#[]⟩]) ?_ 1 _ rfl; (with_reducible repeat (first | refine blk_drewN ?_ _ | refine blk_drew ?_ | refine blk_alloc ?_ _)); refine blk_put (cs := #[.int .i64 0, .string ⟨#[]⟩]) ?_ 0 _ rfl; (with_reducible repeat (first | refine blk_drewN ?_ _ | refine blk_drew ?_ | refine blk_alloc ?_ _)); exact BKb.out) hu36 rfl (by kernel_rfl)) rfl ?_
        exact ⟨rfl, by repeat (first | (with_reducible first | exact HB.out | apply below_alloc | apply pw_below_drewN | apply below_drew1 | refine below_set ?_ GE.out) | exact HB.out)⟩
    · rw [if_neg hwf] at h
      cases h
  · rw [if_neg hlen] at h
    have hb0 : ((l0.length : Int) != 16) = true := bne_iff_ne.mpr hlen
    simp only [Option.some.injEq, Prod.mk.injEq] at h
    obtain ⟨rfl, rfl, rfl⟩ := h
    clear hlen
    go_enter Try.func27, Try.ntmps27
    go_wp2_with (first | ((with_reducible refine gate_dst (N := 2) rfl ?_); refine box_event ?hg (N := 2) ?hd (cs := #[.int .i64 0, .string ⟨#[]⟩]) (t := 27) ?hr ?_; (case hd => rfl); (case hg => rfl); (case hr => first | (go_simp; done) | (go_simp; rfl)); intro gb hg w1 hbox hb; have n0_ := Aside0.mk (below_step (w2 := w1) (by repeat (first | (with_reducible first | exact HB.out | apply below_alloc | apply pw_below_drewN | apply below_drew1) | exact HB.out)) hb); have BKb := Aside0.mk hbox; have GE := Aside0.mk (show w.heap.size ≤ gb by rw [hg]; exact Nat.le_refl _); clear HB; have HB := n0_; clear n0_ hb hbox hg; have hcb0 : w1.cell? ⟨gb, 0, none⟩ = some (.int .i64 0) := (blk_cell BKb.out 0).trans rfl; have hcb1 : w1.cell? ⟨gb, 1, none⟩ = some (.string ⟨#[]⟩) := (blk_cell BKb.out 1).trans rfl; have hfb0 := blk_frozen BKb.out 0; have hfb1 := blk_frozen BKb.out 1))
    refine bodyPost_ret (results_ct rfl _ _ gb 27 #[.int .i64 0, .string ⟨#[]⟩] (0, 0) _ rfl (by (with_reducible repeat (first | refine blk_drewN ?_ _ | refine blk_drew ?_ | refine blk_alloc ?_ _)); refine blk_put (cs := #[.int .i64 0, .string ⟨#[]⟩]) ?_ 1 _ rfl; (with_reducible repeat (first | refine blk_drewN ?_ _ | refine blk_drew ?_ | refine blk_alloc ?_ _)); refine blk_put (cs := #[.int .i64 0, .string ⟨#[]⟩]) ?_ 0 _ rfl; (with_reducible repeat (first | refine blk_drewN ?_ _ | refine blk_drew ?_ | refine blk_alloc ?_ _)); exact BKb.out) hu36 rfl (by kernel_rfl)) rfl ?_
    exact ⟨rfl, by repeat (first | (with_reducible first | exact HB.out | apply below_alloc | apply pw_below_drewN | apply below_drew1 | refine below_set ?_ GE.out) | exact HB.out)⟩


/-! ### dirs_twice: function 28 -/
def twL : List (List UInt8) → List S27 → Bool
  | _, [] => false
  | met, e :: r => if e.f0 = 0 then twL met r else if e.f1.data.toList ∈ met then true else twL (e.f1.data.toList :: met) r
def dirs_twice.f (l0 : List S27) : Option Bool := if (∀ e ∈ l0, e.f1.size ≤ maxLen) ∧ l0.length < 1000000000000 then some (twL [] l0) else none
def tw_D (H : Type) : List (List UInt8) → DataW H
  | [] => .map []
  | s :: r => (tw_D H r).put (.string s) (.agg [])
theorem tw_D_map (H : Type) : ∀ met, Maps.IsMap (tw_D H met)
  | [] => ⟨[], rfl⟩
  | s :: r => (tw_D_map H r).put _ _
theorem tw_has (H : Type) (s : List UInt8) : ∀ met : List (List UInt8), Maps.has (tw_D H met) (.string s) = decide (s ∈ met)
  | [] => rfl
  | x :: r => by
    by_cases e : s = x
    · subst e
      rw [tw_D, Maps.has_put_same (tw_D_map H r) (by unfold WideAt.IsKeyLit; trivial)]
      simp
    · rw [tw_D, Maps.has_put_other (by intro h; injection h with h; exact e h), tw_has H s r]
      simp [e]
set_option maxHeartbeats 8000000 in
set_option maxRecDepth 100000 in
theorem dirs_twice.calls (A0 : Option Addr) (c0 : Nat) (l0 : List (S27)) (r : Bool) (w : World) (hr0 : Kd.C k27 w A0 l0.length l0) (hc0 : l0.length ≤ c0) (h : dirs_twice.f l0 = some r) :
    Calls Try.prog 28 #[.slice A0 l0.length c0] w fun e w' => e = .returned (.bool r) ∧ Below w.heap.size w w' := by
  unfold dirs_twice.f at h
  split at h
  next hsz =>
    obtain ⟨hsz, hlen⟩ := hsz
    have hr := Option.some.inj h
    clear h
    have HC := Aside0.mk hr0
    clear hr0
    have hmm : ∀ W : World, (Instr.makeMap 66 none).run Try.prog W = .ok (.map (some W.heap.size)) (W.alloc (.map #[] 0)) := fun _ => rfl
    have hzu : ∀ W : World, (zeroValue 67).run Try.prog W = .ok (.agg #[]) W := fun _ => rfl
    refine (callsIn_wide (n := 1)).1 ?_
    refine callsIn_of_wp Try.func28 rfl trivial ?_ rfl
    simp only [Try.ntmps28, List.size_toArray, List.length_cons, List.length_nil, Nat.reduceAdd, Nat.reduceSub, Array.replicate_succ, Array.replicate_zero, List.push_toArray, List.append_toArray, List.nil_append, List.cons_append]
    gi_wp2
    gi_loopw [11] (fun v11 w' => ∃ (i : Nat) (met : List (List UInt8)) (n : Nat), v11 = .int .i64 (i : Int) ∧ i ≤ l0.length ∧ n ≤ i ∧ twL met (l0.drop i) = r ∧ Aside0 (w'.ownsMap Try.prog 9 (unitElem (H := Unit)) w.heap.size n (tw_D Unit met)) ∧ Aside0 (Below w.heap.size w w'))
      (fun v11 _ => l0.length - (intOf v11).toNat)
    case atStart =>
      exact ⟨0, [], 0, rfl, Nat.zero_le _, Nat.le_refl _, hr, ⟨World.ownsMap_made w _ _ _⟩, ⟨below_alloc (Below.refl _ _) _⟩⟩
    case round =>
      obtain ⟨i, met, n, rfl, hi, hn, htw, HM, HB⟩ := hrel
      by_cases hlt : i < l0.length
      · have t1 : decide ((i : Int) < (l0.length : Int)) = true := decide_eq_true (by omega)
        obtain ⟨ad, rfl, hcell, hcell1⟩ := at_T27 (Kd.C_below HC.out HB.out) (i : Int) (by omega) (by omega)
        simp only [Int.toNat_natCast] at hcell hcell1
        have hd : l0.drop i = rd_T27 l0 i :: l0.drop (i + 1) := by
          rw [List.drop_eq_getElem_cons hlt]; simp [rd_T27, List.getD_eq_getElem?_getD, hlt]
        have hs1 : (rd_T27 l0 i).f1.size ≤ maxLen := hsz _ (by have := List.mem_of_mem_drop (hd ▸ List.mem_cons_self : rd_T27 l0 i ∈ l0.drop i); exact this)
        rw [hd] at htw
        generalize rd_T27 l0 i = e at *
        unfold twL at htw
        by_cases hz : e.f0 = 0
        · rw [if_pos hz] at htw
          have t2 : (e.f0 == 0) = true := by simp [hz]
          gi_wp2
          exact ⟨⟨i + 1, met, n, by simp, by omega, by omega, htw, ⟨HM.out.alloc _⟩, ⟨below_alloc HB.out _⟩⟩, by simp [intOf]; omega⟩
        · rw [if_neg hz] at htw
          have t2 : (e.f0 == 0) = false := by simp [hz]
          by_cases hm : e.f1.data.toList ∈ met
          · rw [if_pos hm] at htw
            subst htw
            have t3 : decide (e.f1.data.toList ∈ met) = true := by simp [hm]
            gi_wp2_with (first
              | (gi_at_lookup; refine wpListIn_lookup_own_unit _ rfl _ _ 66 rfl 9 67 (Maps.string_keyed Try.underlying9) Try.underlying66 (hzu _) w.heap.size n (tw_D Unit met) rfl (HM.out.alloc _) _ _ rfl (WideMaps.keyOf_string_mk Try.underlying9 hs1) ?_; rw [tw_has])
              | (gi_at_mapUpdate; refine wpListIn_mapUpdate_own _ rfl _ _ _ 66 rfl 9 67 (Maps.string_keyed Try.underlying9) Try.underlying66 (unitElem (H := Unit)) w.heap.size n (tw_D Unit met) rfl (by repeat (first | exact HM.out | apply World.ownsMap.alloc)) (by simp [maxLen]; omega) _ _ _ rfl rfl (WideMaps.keyOf_string_mk Try.underlying9 hs1) (.agg []) [] unitElem_mk ?_; intro w5 hm5 hg5))
            go_ret
            exact ⟨rfl, by repeat (first | exact HB.out | apply below_alloc)⟩
          · rw [if_neg hm] at htw
            have t3 : decide (e.f1.data.toList ∈ met) = false := by simp [hm]
            gi_wp2_with (first
              | (gi_at_lookup; refine wpListIn_lookup_own_unit _ rfl _ _ 66 rfl 9 67 (Maps.string_keyed Try.underlying9) Try.underlying66 (hzu _) w.heap.size n (tw_D Unit met) rfl (HM.out.alloc _) _ _ rfl (WideMaps.keyOf_string_mk Try.underlying9 hs1) ?_; rw [tw_has])
              | (gi_at_mapUpdate; refine wpListIn_mapUpdate_own _ rfl _ _ _ 66 rfl 9 67 (Maps.string_keyed Try.underlying9) Try.underlying66 (unitElem (H := Unit)) w.heap.size n (tw_D Unit met) rfl (by repeat (first | exact HM.out | apply World.ownsMap.alloc)) (by simp [maxLen]; omega) _ _ _ rfl rfl (WideMaps.keyOf_string_mk Try.underlying9 hs1) (.agg []) [] unitElem_mk ?_; intro w5 hm5 hg5))
            refine ⟨⟨i + 1, e.f1.data.toList :: met, n + 1, by simp, by omega, by omega, htw, ⟨by rw [tw_D]; assumption⟩, ⟨?_⟩⟩, by simp [intOf]; omega⟩
            exact Below.grown (by repeat (first | exact HB.out | apply below_alloc)) hg5 (by simp; have := HB.out.size; omega) (fun k hk => by cases hk; exact Nat.le_refl _)
      · have t1 : decide ((i : Int) < (l0.length : Int)) = false := decide_eq_false (by omega)
        rw [List.drop_eq_nil_of_le (by omega), twL] at htw
        subst htw
        gi_wp2
        go_ret
        exact ⟨rfl, HB.out⟩
  next => cases h

end Go.Proofs.Ytnbkbmhiajfbpaa.XDirsBack
