-- Written by a program of this session (wip/tools)
import Derived.Lib.SlBytesConst
import Derived.Test.YtdaeanodgnmknaaXLayoutBackx0
import Derived.Test.YtdaeanodgnmknaaXLayoutBackx2
import Derived.Test.YtdaeanodgnmknaaXLayoutBackx3
import Derived.Test.YtdaeanodgnmknaaXLayoutBackx4
namespace Go.Proofs.Ytdaeanodgnmknaa.XLayoutBack
open Go.RowKit Go.Proofs.YtdaeanodgnmknaaW.PrintWords Go.Proofs.YtdaeanodgnmknaaW.PrintLast Go.Proofs.YtdaeanodgnmknaaW.PrintMore
attribute [local go_sem] max2_int min2_int max_two min_two max_three min_three max_four min_four   -- for this text's walks alone
set_option linter.unusedVariables false
set_option linter.unusedSimpArgs false

/-! ### bollardref03_EncodeSuper: function 29 -/
def bollardref03_EncodeSuper.j0 : Nat → Bool → Int → Int → Int → Int → Option (List Int × Int)
  | 0, _, _, _, _, _ => none
  | k + 1, x18, x190000, x190001, x190002, x190003 => if x18 = true then (some (([] : List Int), 1)) else ((some (([98, 111, 108, 108] : List Int) : List Int)).bind fun y191 => (if y191.length + 124 < 140737488355328 then ((bollardref03_number.f k (y191 ++ List.replicate 124 0) 4 1 x190000).bind fun t197 => ((bollardref03_number.f k t197 5 1 (wrap64 (x190001 - 1))).bind fun t200 => ((bollardref03_number.f k t200 6 1 x190002).bind fun t203 => ((bollardref03_number.f k t203 8 4 x190003).bind fun t206 => ((bollardref01_Seal.f k t206).bind fun bt209 => (some (bt209.1, bt209.2))))))) else (none)))
def bollardref03_EncodeSuper.f (k : Nat) (a0_0 : Int) (a0_1 : Int) (a0_2 : Int) (a0_3 : Int) : Option (List Int × Int) := (bollardref03_may.f a0_0 a0_1 a0_2).bind fun t190 => (if t190 = true then (if a0_3 < 0 then (bollardref03_EncodeSuper.j0 k true a0_0 a0_1 a0_2 a0_3) else (bollardref03_EncodeSuper.j0 k (decide (a0_3 ≥ 4294967296)) a0_0 a0_1 a0_2 a0_3)) else (bollardref03_EncodeSuper.j0 k true a0_0 a0_1 a0_2 a0_3))
theorem bollardref03_EncodeSuper.mono_l : ∀ k, (∀ y0 y1 y2 y3 y4, LeO (bollardref03_EncodeSuper.j0 k y0 y1 y2 y3 y4) (bollardref03_EncodeSuper.j0 (k + 1) y0 y1 y2 y3 y4))
  | 0 => fun _ _ _ _ _ r h => by simp [bollardref03_EncodeSuper.j0] at h
  | k + 1 => by
    have ih0 := bollardref03_EncodeSuper.mono_l k
    · intro y0 y1 y2 y3 y4
      unfold bollardref03_EncodeSuper.j0
      repeat' first
      | (with_reducible exact ih0 _ _ _ _ _)
      | (with_reducible exact bollardref01_Seal.mono _ _)
      | (with_reducible exact bollardref03_number.mono _ _ _ _ _)
      | (with_reducible exact LeO.refl _)
      | (with_reducible exact LeO.none _)
      | (with_reducible refine LeO.ite ?_ ?_)
      | (with_reducible refine LeO.bind ?_ (fun _ => ?_))
      | exact ih0 _ _ _ _ _
      | exact bollardref01_Seal.mono _ _
      | exact bollardref03_number.mono _ _ _ _ _
      | exact LeO.none _
      | refine LeO.ite ?_ ?_
      | refine LeO.bind ?_ (fun _ => ?_)
theorem bollardref03_EncodeSuper.mono : ∀ a0 a1 a2 a3 k, LeO (bollardref03_EncodeSuper.f k a0 a1 a2 a3) (bollardref03_EncodeSuper.f (k + 1) a0 a1 a2 a3) := by
  intro a0 a1 a2 a3 k
  have ih0 := bollardref03_EncodeSuper.mono_l k
  unfold bollardref03_EncodeSuper.f
  repeat' first
      | (with_reducible exact ih0 _ _ _ _ _)
      | (with_reducible exact bollardref01_Seal.mono _ _)
      | (with_reducible exact bollardref03_number.mono _ _ _ _ _)
      | (with_reducible exact LeO.refl _)
      | (with_reducible exact LeO.none _)
      | (with_reducible refine LeO.ite ?_ ?_)
      | (with_reducible refine LeO.bind ?_ (fun _ => ?_))
      | exact ih0 _ _ _ _ _
      | exact bollardref01_Seal.mono _ _
      | exact bollardref03_number.mono _ _ _ _ _
      | exact LeO.none _
      | refine LeO.ite ?_ ?_
      | refine LeO.bind ?_ (fun _ => ?_)
set_option maxHeartbeats 8000000 in
set_option maxRecDepth 100000 in
theorem bollardref03_EncodeSuper.calls (k : Nat) (a0_0 : Int) (a0_1 : Int) (a0_2 : Int) (a0_3 : Int) (r1 : List Int) (r2 : Int) (w : World) (h : bollardref03_EncodeSuper.f k a0_0 a0_1 a0_2 a0_3 = some (r1, r2)) :
    Calls Try.prog 29 #[.agg #[.int .i64 a0_0, .int .i64 a0_1, .int .i64 a0_2, .int .i64 a0_3]] w fun e w' => ∃ v0_ : Value, e = .returned (.tuple #[v0_, .int .i64 r2]) ∧ Kd.R (Kd.int .u8) 5 w' w.heap.size (fun _ => True) v0_ r1 ∧ Below w.heap.size w w' := by
  have hu52 := Try.underlying52
  have hu50 := Try.underlying50
  have HB := Aside0.mk (Below.refl w.heap.size w)
  have H : ((bollardref03_may.f a0_0 a0_1 a0_2).bind fun t190 => (if t190 = true then (if a0_3 < 0 then (bollardref03_EncodeSuper.j0 k true a0_0 a0_1 a0_2 a0_3) else (bollardref03_EncodeSuper.j0 k (decide (a0_3 ≥ 4294967296)) a0_0 a0_1 a0_2 a0_3)) else (bollardref03_EncodeSuper.j0 k true a0_0 a0_1 a0_2 a0_3))) = some (r1, r2) := h
  clear h
  have HC2 := Aside0.mk H
  clear H
  go_enter Try.func29, Try.ntmps29
  go_upto_region 1 with (first | ((with_reducible refine gate_dst (N := 1) rfl ?_); refine box_event ?hg (N := 1) ?hd (cs := #[.int .i64 a0_0, .int .i64 a0_1, .int .i64 a0_2, .int .i64 a0_3]) (t := 52) ?hr ?_; (case hd => rfl); (case hg => rfl); (case hr => first | (go_simp; done) | (go_simp; rfl)); intro gb189 hg w3 hbox hb; have n0_ := Aside0.mk (below_step (by repeat (first | (with_reducible first | exact HB.out | apply below_alloc | apply pw_below_drewN | apply below_drew1) | exact HB.out)) hb); have n1_ := Aside0.mk (hbox); have n2_ := Aside0.mk ((by rw [hg]; exact (below_size (by repeat (first | (with_reducible first | exact HB.out | apply below_alloc | apply pw_below_drewN | apply below_drew1) | exact HB.out))) : w.heap.size ≤ gb189)); have n3_ := Aside0.mk ((by rw [hg]; exact (below_size (by repeat (first | (with_reducible first | exact HB.out | apply below_alloc | apply pw_below_drewN | apply below_drew1) | exact HB.out))) : w.heap.size ≤ gb189)); clear HB; have HB := n0_; have BK189 := n1_; have GW189 := n2_; have GE189 := n3_; clear n0_ n1_ n2_ n3_; clear hb hbox hg))
  (try simp only [Act.put, List.setIfInBounds_toArray, List.set_cons_zero, List.set_cons_succ])
  go_cut [18] (fun v18 wc => ∃ (kq : Nat) (x18_1 : Bool), v18 = .bool x18_1 ∧ Aside0 (bollardref03_EncodeSuper.j0 kq x18_1 a0_0 a0_1 a0_2 a0_3 = some (r1, r2)) ∧ Aside0 (kq ≤ k) ∧ Aside0 (wc.heap[gb189]? = some (.cells #[.int .i64 a0_0, .int .i64 a0_1, .int .i64 a0_2, .int .i64 a0_3] 52 (0, 0))) ∧ Aside0 (Below w.heap.size w wc))
  case first =>
    have H := HC2.out
    clear HC2
    replace H := Option.bind_eq_some_iff.mp H
    obtain ⟨t190, A40, H⟩ := H
    replace H : (if t190 = true then (if a0_3 < 0 then (bollardref03_EncodeSuper.j0 k true a0_0 a0_1 a0_2 a0_3) else (bollardref03_EncodeSuper.j0 k (decide (a0_3 ≥ 4294967296)) a0_0 a0_1 a0_2 a0_3)) else (bollardref03_EncodeSuper.j0 k true a0_0 a0_1 a0_2 a0_3)) = some (r1, r2) := H
    have A4 := Aside0.mk A40
    clear A40
    by_cases c5 : t190 = true
    · subst c5
      have H1 : (if a0_3 < 0 then (bollardref03_EncodeSuper.j0 k true a0_0 a0_1 a0_2 a0_3) else (bollardref03_EncodeSuper.j0 k (decide (a0_3 ≥ 4294967296)) a0_0 a0_1 a0_2 a0_3)) = some (r1, r2) := by rw [if_pos rfl] at H; exact H
      clear H
      have H := H1
      clear H1
      by_cases c6 : a0_3 < 0
      · rw [if_pos c6] at H
        have c6b0 : decide (a0_3 < 0) = true := decide_eq_true c6
        clear c6
        (first | rw [c6b0] | (simp only [i64_w, i32_w]; rw [c6b0]) | skip)
        have H' := Aside0.mk H
        clear H
        have hcz7_0 : w3.cell? ⟨gb189, 0, none⟩ = some (.int .i64 a0_0) := (blk_cell BK189.out 0).trans rfl
        have hcz7_1 : w3.cell? ⟨gb189, 1, none⟩ = some (.int .i64 a0_1) := (blk_cell BK189.out 1).trans rfl
        have hcz7_2 : w3.cell? ⟨gb189, 2, none⟩ = some (.int .i64 a0_2) := (blk_cell BK189.out 2).trans rfl
        have hcz7_3 : w3.cell? ⟨gb189, 3, none⟩ = some (.int .i64 a0_3) := (blk_cell BK189.out 3).trans rfl
        have hfz7_0 := blk_frozen BK189.out 0
        have hfz7_1 := blk_frozen BK189.out 1
        have hfz7_2 := blk_frozen BK189.out 2
        have hfz7_3 := blk_frozen BK189.out 3
        go_wp2_with (first | ((with_reducible refine gate_callee (f := 52) rfl ?_); refine goesL_ (some 7) rfl rfl Try.func52 (by kernel_rfl) rfl #[.agg #[.int .i64 a0_0, .int .i64 a0_1, .int .i64 a0_2]] rfl (by (try simp only [List.map_toArray, List.map_cons, List.map_nil]); first | done | rfl | (simp only [List.length_drop, List.length_take]; rfl)) ?_; (with_reducible refine (bollardref03_may.calls a0_0 a0_1 a0_2 true _ A4.out).mono ?_); rintro e w8 ⟨rfl, hb⟩; refine ⟨_, rfl, ?_⟩; have n0_ := Aside0.mk (blk_below (g := gb189) (o := .cells #[.int .i64 a0_0, .int .i64 a0_1, .int .i64 a0_2, .int .i64 a0_3] 52 (0, 0)) (by (with_reducible repeat (first | refine blk_drewN ?_ _ | refine blk_drew ?_ | refine blk_alloc ?_ _)); exact BK189.out) hb); have n1_ := Aside0.mk (below_step (by repeat (first | (with_reducible first | exact HB.out | apply below_alloc | apply pw_below_drewN | apply below_drew1 | refine below_set ?_ GE189.out) | exact HB.out)) hb); clear BK189; clear HB; have BK189 := n0_; have HB := n1_; clear n0_ n1_; (try clear hb); (try clear hb2); (try clear hk); (try clear hi); have hcz9_0 : w8.cell? ⟨gb189, 0, none⟩ = some (.int .i64 a0_0) := (blk_cell BK189.out 0).trans rfl; have hcz9_1 : w8.cell? ⟨gb189, 1, none⟩ = some (.int .i64 a0_1) := (blk_cell BK189.out 1).trans rfl; have hcz9_2 : w8.cell? ⟨gb189, 2, none⟩ = some (.int .i64 a0_2) := (blk_cell BK189.out 2).trans rfl; have hcz9_3 : w8.cell? ⟨gb189, 3, none⟩ = some (.int .i64 a0_3) := (blk_cell BK189.out 3).trans rfl; have hfz9_0 := blk_frozen BK189.out 0; have hfz9_1 := blk_frozen BK189.out 1; have hfz9_2 := blk_frozen BK189.out 2; have hfz9_3 := blk_frozen BK189.out 3))
        go_meet
        case rel => exact ⟨_, (true), (by first | rfl | (simp; done) | (simp [*]; done)), H', ⟨by first | omega | exact Nat.le_refl _⟩, ⟨by (with_reducible repeat (first | refine blk_drewN ?_ _ | refine blk_drew ?_ | refine blk_alloc ?_ _)); exact BK189.out⟩, ⟨by repeat (first | (with_reducible first | exact HB.out | apply below_alloc | apply pw_below_drewN | apply below_drew1 | refine below_set ?_ GE189.out) | exact HB.out)⟩⟩
      · rw [if_neg c6] at H
        have c6b0 : decide (a0_3 < 0) = false := decide_eq_false c6
        clear c6
        (first | rw [c6b0] | (simp only [i64_w, i32_w]; rw [c6b0]) | skip)
        have H' := Aside0.mk H
        clear H
        have hcz10_0 : w3.cell? ⟨gb189, 0, none⟩ = some (.int .i64 a0_0) := (blk_cell BK189.out 0).trans rfl
        have hcz10_1 : w3.cell? ⟨gb189, 1, none⟩ = some (.int .i64 a0_1) := (blk_cell BK189.out 1).trans rfl
        have hcz10_2 : w3.cell? ⟨gb189, 2, none⟩ = some (.int .i64 a0_2) := (blk_cell BK189.out 2).trans rfl
        have hcz10_3 : w3.cell? ⟨gb189, 3, none⟩ = some (.int .i64 a0_3) := (blk_cell BK189.out 3).trans rfl
        have hfz10_0 := blk_frozen BK189.out 0
        have hfz10_1 := blk_frozen BK189.out 1
        have hfz10_2 := blk_frozen BK189.out 2
        have hfz10_3 := blk_frozen BK189.out 3
        go_wp2_with (first | ((with_reducible refine gate_callee (f := 52) rfl ?_); refine goesL_ (some 7) rfl rfl Try.func52 (by kernel_rfl) rfl #[.agg #[.int .i64 a0_0, .int .i64 a0_1, .int .i64 a0_2]] rfl (by (try simp only [List.map_toArray, List.map_cons, List.map_nil]); first | done | rfl | (simp only [List.length_drop, List.length_take]; rfl)) ?_; (with_reducible refine (bollardref03_may.calls a0_0 a0_1 a0_2 true _ A4.out).mono ?_); rintro e w11 ⟨rfl, hb⟩; refine ⟨_, rfl, ?_⟩; have n0_ := Aside0.mk (blk_below (g := gb189) (o := .cells #[.int .i64 a0_0, .int .i64 a0_1, .int .i64 a0_2, .int .i64 a0_3] 52 (0, 0)) (by (with_reducible repeat (first | refine blk_drewN ?_ _ | refine blk_drew ?_ | refine blk_alloc ?_ _)); exact BK189.out) hb); have n1_ := Aside0.mk (below_step (by repeat (first | (with_reducible first | exact HB.out | apply below_alloc | apply pw_below_drewN | apply below_drew1 | refine below_set ?_ GE189.out) | exact HB.out)) hb); clear BK189; clear HB; have BK189 := n0_; have HB := n1_; clear n0_ n1_; (try clear hb); (try clear hb2); (try clear hk); (try clear hi); have hcz12_0 : w11.cell? ⟨gb189, 0, none⟩ = some (.int .i64 a0_0) := (blk_cell BK189.out 0).trans rfl; have hcz12_1 : w11.cell? ⟨gb189, 1, none⟩ = some (.int .i64 a0_1) := (blk_cell BK189.out 1).trans rfl; have hcz12_2 : w11.cell? ⟨gb189, 2, none⟩ = some (.int .i64 a0_2) := (blk_cell BK189.out 2).trans rfl; have hcz12_3 : w11.cell? ⟨gb189, 3, none⟩ = some (.int .i64 a0_3) := (blk_cell BK189.out 3).trans rfl; have hfz12_0 := blk_frozen BK189.out 0; have hfz12_1 := blk_frozen BK189.out 1; have hfz12_2 := blk_frozen BK189.out 2; have hfz12_3 := blk_frozen BK189.out 3))
        go_meet
        case rel => exact ⟨_, (decide (a0_3 ≥ 4294967296)), (by first | rfl | (simp; done) | (simp [*]; done)), H', ⟨by first | omega | exact Nat.le_refl _⟩, ⟨by (with_reducible repeat (first | refine blk_drewN ?_ _ | refine blk_drew ?_ | refine blk_alloc ?_ _)); exact BK189.out⟩, ⟨by repeat (first | (with_reducible first | exact HB.out | apply below_alloc | apply pw_below_drewN | apply below_drew1 | refine below_set ?_ GE189.out) | exact HB.out)⟩⟩
    · replace c5 := Bool.eq_false_iff.mpr c5
      subst c5
      have H1 : (bollardref03_EncodeSuper.j0 k true a0_0 a0_1 a0_2 a0_3) = some (r1, r2) := by rw [if_neg (show ¬ (false = true) by decide)] at H; exact H
      clear H
      have H := H1
      clear H1
      have H' := Aside0.mk H
      clear H
      have hcz13_0 : w3.cell? ⟨gb189, 0, none⟩ = some (.int .i64 a0_0) := (blk_cell BK189.out 0).trans rfl
      have hcz13_1 : w3.cell? ⟨gb189, 1, none⟩ = some (.int .i64 a0_1) := (blk_cell BK189.out 1).trans rfl
      have hcz13_2 : w3.cell? ⟨gb189, 2, none⟩ = some (.int .i64 a0_2) := (blk_cell BK189.out 2).trans rfl
      have hcz13_3 : w3.cell? ⟨gb189, 3, none⟩ = some (.int .i64 a0_3) := (blk_cell BK189.out 3).trans rfl
      have hfz13_0 := blk_frozen BK189.out 0
      have hfz13_1 := blk_frozen BK189.out 1
      have hfz13_2 := blk_frozen BK189.out 2
      have hfz13_3 := blk_frozen BK189.out 3
      go_wp2_with (first | ((with_reducible refine gate_callee (f := 52) rfl ?_); refine goesL_ (some 7) rfl rfl Try.func52 (by kernel_rfl) rfl #[.agg #[.int .i64 a0_0, .int .i64 a0_1, .int .i64 a0_2]] rfl (by (try simp only [List.map_toArray, List.map_cons, List.map_nil]); first | done | rfl | (simp only [List.length_drop, List.length_take]; rfl)) ?_; (with_reducible refine (bollardref03_may.calls a0_0 a0_1 a0_2 false _ A4.out).mono ?_); rintro e w14 ⟨rfl, hb⟩; refine ⟨_, rfl, ?_⟩; have n0_ := Aside0.mk (blk_below (g := gb189) (o := .cells #[.int .i64 a0_0, .int .i64 a0_1, .int .i64 a0_2, .int .i64 a0_3] 52 (0, 0)) (by (with_reducible repeat (first | refine blk_drewN ?_ _ | refine blk_drew ?_ | refine blk_alloc ?_ _)); exact BK189.out) hb); have n1_ := Aside0.mk (below_step (by repeat (first | (with_reducible first | exact HB.out | apply below_alloc | apply pw_below_drewN | apply below_drew1 | refine below_set ?_ GE189.out) | exact HB.out)) hb); clear BK189; clear HB; have BK189 := n0_; have HB := n1_; clear n0_ n1_; (try clear hb); (try clear hb2); (try clear hk); (try clear hi)))
      go_meet
      case rel => exact ⟨_, (true), (by first | rfl | (simp; done) | (simp [*]; done)), H', ⟨by first | omega | exact Nat.le_refl _⟩, ⟨by (with_reducible repeat (first | refine blk_drewN ?_ _ | refine blk_drew ?_ | refine blk_alloc ?_ _)); exact BK189.out⟩, ⟨by repeat (first | (with_reducible first | exact HB.out | apply below_alloc | apply pw_below_drewN | apply below_drew1 | refine below_set ?_ GE189.out) | exact HB.out)⟩⟩
  case rest =>
    clear HC2
    try clear c2
    try clear p2
    try clear c5
    try clear c6
    try clear c6b0
    try clear hcz10_0
    try clear hcz10_1
    try clear hcz10_2
    try clear hcz10_3
    try clear hcz12_0
    try clear hcz12_1
    try clear hcz12_2
    try clear hcz12_3
    try clear hcz13_0
    try clear hcz13_1
    try clear hcz13_2
    try clear hcz13_3
    try clear hcz7_0
    try clear hcz7_1
    try clear hcz7_2
    try clear hcz7_3
    try clear hcz9_0
    try clear hcz9_1
    try clear hcz9_2
    try clear hcz9_3
    try clear hfz10_0
    try clear hfz10_1
    try clear hfz10_2
    try clear hfz10_3
    try clear hfz12_0
    try clear hfz12_1
    try clear hfz12_2
    try clear hfz12_3
    try clear hfz13_0
    try clear hfz13_1
    try clear hfz13_2
    try clear hfz13_3
    try clear hfz7_0
    try clear hfz7_1
    try clear hfz7_2
    try clear hfz7_3
    try clear hfz9_0
    try clear hfz9_1
    try clear hfz9_2
    try clear hfz9_3
    obtain ⟨kq, x18_1, rfl, HA, HJ1, BK189, HB⟩ := hcut
    cases kq with
    | zero => exact absurd HA.out (by simp [bollardref03_EncodeSuper.j0])
    | succ kj1 =>
      have H := HA.out
      clear HA
      simp only [bollardref03_EncodeSuper.j0] at H
      by_cases c15 : x18_1 = true
      · subst c15
        have H1 : (some (([] : List Int), 1)) = some (r1, r2) := by rw [if_pos rfl] at H; exact H
        clear H
        have H := H1
        clear H1
        simp only [Option.some.injEq, Prod.mk.injEq] at H
        obtain ⟨rfl, rfl⟩ := H
        go_wp2
        go_ret2
        exact ⟨_, by first | rfl | (simp [errW_none, errW_some] <;> rfl) | (simp [*, errW_none, errW_some] <;> rfl), by first | exact Kd.R_nil _ _ _ _ _ | exact Kd.N_nil _ _ _ _ _ | exact Kd.V_nil _ _ _ _ _ | exact Kd.Q_nil _ _ _ _ _ | exact Kd.S_nil _ _ _ _ _, by repeat (first | (with_reducible first | exact HB.out | apply below_alloc | apply pw_below_drewN | apply below_drew1 | refine below_set ?_ GE189.out) | exact HB.out)⟩
      · replace c15 := Bool.eq_false_iff.mpr c15
        subst c15
        have H1 : ((some (([98, 111, 108, 108] : List Int) : List Int)).bind fun y191 => (if y191.length + 124 < 140737488355328 then ((bollardref03_number.f kj1 (y191 ++ List.replicate 124 0) 4 1 a0_0).bind fun t197 => ((bollardref03_number.f kj1 t197 5 1 (wrap64 (a0_1 - 1))).bind fun t200 => ((bollardref03_number.f kj1 t200 6 1 a0_2).bind fun t203 => ((bollardref03_number.f kj1 t203 8 4 a0_3).bind fun t206 => ((bollardref01_Seal.f kj1 t206).bind fun bt209 => (some (bt209.1, bt209.2))))))) else (none))) = some (r1, r2) := by rw [if_neg (show ¬ (false = true) by decide)] at H; exact H
        clear H
        have H := H1
        clear H1
        obtain ⟨y191, hy191⟩ : ∃ y_ : List Int, y_ = (([98, 111, 108, 108] : List Int)) := ⟨_, rfl⟩
        replace H : (if y191.length + 124 < 140737488355328 then ((bollardref03_number.f kj1 (y191 ++ List.replicate 124 0) 4 1 a0_0).bind fun t197 => ((bollardref03_number.f kj1 t197 5 1 (wrap64 (a0_1 - 1))).bind fun t200 => ((bollardref03_number.f kj1 t200 6 1 a0_2).bind fun t203 => ((bollardref03_number.f kj1 t203 8 4 a0_3).bind fun t206 => ((bollardref01_Seal.f kj1 t206).bind fun bt209 => (some (bt209.1, bt209.2))))))) else (none)) = some (r1, r2) := by first | (rw [hy191]; with_reducible exact H) | (have H2_ := (Option.bind_some _ _).symm.trans H; rw [hy191]; with_reducible exact H2_) | (have H2_ := (Option.bind_some _ _).symm.trans H; with_reducible exact H2_) | with_reducible exact H | (rw [hy191]; exact H) | exact H
        have Ny191 := Aside0.mk hy191
        clear hy191
        by_cases c16 : y191.length + 124 < 140737488355328
        · rw [if_pos c16] at H
          have LMc16 := Aside0.mk c16
          clear c16
          obtain ⟨y194, hy194⟩ : ∃ y_ : List Int, y_ = (y191 ++ List.replicate 124 0) := ⟨_, rfl⟩
          replace H : ((bollardref03_number.f kj1 y194 4 1 a0_0).bind fun t197 => ((bollardref03_number.f kj1 t197 5 1 (wrap64 (a0_1 - 1))).bind fun t200 => ((bollardref03_number.f kj1 t200 6 1 a0_2).bind fun t203 => ((bollardref03_number.f kj1 t203 8 4 a0_3).bind fun t206 => ((bollardref01_Seal.f kj1 t206).bind fun bt209 => (some (bt209.1, bt209.2))))))) = some (r1, r2) := by first | (rw [hy194]; with_reducible exact H) | (have H2_ := (Option.bind_some _ _).symm.trans H; rw [hy194]; with_reducible exact H2_) | (have H2_ := (Option.bind_some _ _).symm.trans H; with_reducible exact H2_) | with_reducible exact H | (rw [hy194]; exact H) | exact H
          have Ny194 := Aside0.mk hy194
          clear hy194
          replace H := Option.bind_eq_some_iff.mp H
          obtain ⟨t197, A170, H⟩ := H
          replace H : ((bollardref03_number.f kj1 t197 5 1 (wrap64 (a0_1 - 1))).bind fun t200 => ((bollardref03_number.f kj1 t200 6 1 a0_2).bind fun t203 => ((bollardref03_number.f kj1 t203 8 4 a0_3).bind fun t206 => ((bollardref01_Seal.f kj1 t206).bind fun bt209 => (some (bt209.1, bt209.2)))))) = some (r1, r2) := H
          have A17 := Aside0.mk A170
          clear A170
          replace H := Option.bind_eq_some_iff.mp H
          obtain ⟨t200, A180, H⟩ := H
          replace H : ((bollardref03_number.f kj1 t200 6 1 a0_2).bind fun t203 => ((bollardref03_number.f kj1 t203 8 4 a0_3).bind fun t206 => ((bollardref01_Seal.f kj1 t206).bind fun bt209 => (some (bt209.1, bt209.2))))) = some (r1, r2) := H
          have A18 := Aside0.mk A180
          clear A180
          replace H := Option.bind_eq_some_iff.mp H
          obtain ⟨t203, A190, H⟩ := H
          replace H : ((bollardref03_number.f kj1 t203 8 4 a0_3).bind fun t206 => ((bollardref01_Seal.f kj1 t206).bind fun bt209 => (some (bt209.1, bt209.2)))) = some (r1, r2) := H
          have A19 := Aside0.mk A190
          clear A190
          replace H := Option.bind_eq_some_iff.mp H
          obtain ⟨t206, A200, H⟩ := H
          replace H : ((bollardref01_Seal.f kj1 t206).bind fun bt209 => (some (bt209.1, bt209.2))) = some (r1, r2) := H
          have A20 := Aside0.mk A200
          clear A200
          replace H := Option.bind_eq_some_iff.mp H
          obtain ⟨⟨t209, t210⟩, A210, H⟩ := H
          replace H : (some (t209, t210)) = some (r1, r2) := H
          have A21 := Aside0.mk A210
          clear A210
          simp only [Option.some.injEq, Prod.mk.injEq] at H
          obtain ⟨rfl, rfl⟩ := H
          have kc := fun (w : World) (C : Array Value) (n c : Nat) => Lib.run_convert_bytes_const (P := Try.prog) w 26 5 C n c Try.underlying26 Try.underlying5
          go_wp2_with (first | (at_builtin; refine Rw.came_append_zeros (w0 := w) w.heap.size (fun _ => True) rfl (.tmp 20) (.const (.int .i64 124)) 26 3 5 1 rfl Try.underlying26 Try.underlying3 info5 (by decide) _ [98, 111, 108, 108] 124 rfl rfl (by decide) (show Rw.Came 5 (wc.alloc (.cells #[.int .u8 98, .int .u8 111, .int .u8 108, .int .u8 108] 5 (4, 5))) w.heap.size (fun _ => True) (.slice (some ⟨wc.heap.size, 0, none⟩) 4 4) [98, 111, 108, 108] from ⟨wc.heap.size, rfl, by decide, HB.out.size, trivial, by decide, blk_new wc _⟩) (below_alloc HB.out _) (Nat.le_trans HB.out.size (by rw [World.size_alloc]; omega)) (by decide) ?_; intro v165 w24 ho hbs hb; rw [← Ny191.out, ← Ny194.out] at ho; have n0_ := Aside0.mk (blk_below (g := gb189) (o := .cells #[.int .i64 a0_0, .int .i64 a0_1, .int .i64 a0_2, .int .i64 a0_3] 52 (0, 0)) (by (with_reducible repeat (first | refine blk_drewN ?_ _ | refine blk_drew ?_ | refine blk_alloc ?_ _)); exact BK189.out) hbs); have n1_ := Aside0.mk hb; have n2_ := Aside0.mk (Kd.R_mono ho (fun _ _ => trivial)); clear BK189; clear HB; have BK189 := n0_; have HB := n1_; have HO196 := n2_; clear n0_ n1_ n2_; clear ho hb hbs; have hcz25_0 : w24.cell? ⟨gb189, 0, none⟩ = some (.int .i64 a0_0) := (blk_cell BK189.out 0).trans rfl; have hcz25_1 : w24.cell? ⟨gb189, 1, none⟩ = some (.int .i64 a0_1) := (blk_cell BK189.out 1).trans rfl; have hcz25_2 : w24.cell? ⟨gb189, 2, none⟩ = some (.int .i64 a0_2) := (blk_cell BK189.out 2).trans rfl; have hcz25_3 : w24.cell? ⟨gb189, 3, none⟩ = some (.int .i64 a0_3) := (blk_cell BK189.out 3).trans rfl; have hfz25_0 := blk_frozen BK189.out 0; have hfz25_1 := blk_frozen BK189.out 1; have hfz25_2 := blk_frozen BK189.out 2; have hfz25_3 := blk_frozen BK189.out 3; obtain ⟨Ao26, co26, eo26⟩ := Kd.R_slice HO196.out; subst eo26) | ((with_reducible refine gate_callee (f := 42) rfl ?_); refine goesL_ (some 26) rfl rfl Try.func42 (by kernel_rfl) rfl #[.slice Ao26 y194.length co26, .int .i64 4, .int .i64 1, .int .i64 a0_0] rfl (by (try simp only [List.map_toArray, List.map_cons, List.map_nil]); first | done | rfl | (simp only [List.length_drop, List.length_take]; rfl)) ?_; (with_reducible refine (bollardref03_number.calls kj1 _ _ y194 4 1 a0_0 t197 _ ?side1 ?side2 A17.out).mono ?_); (case side1 => repeat (first | exact (Kd.R_reads' HO196.out).2.2 | (with_reducible refine Kd.C_alloc ?_ _) | (with_reducible refine Kd.C_drewN ?_ _) | (with_reducible refine Kd.C_drew ?_))); (case side2 => exact (Kd.R_reads' HO196.out).2.1); rintro e w27 ⟨v198, rfl, ho0, hb⟩; refine ⟨_, rfl, ?_⟩; have n0_ := Aside0.mk (Kd.R_elder' (by (with_reducible repeat (first | apply Kd.R_alloc | apply Kd.R_drewN | apply Kd.R_drew)); exact HO196.out) (Kd.R_base ho0) hb); have n1_ := Aside0.mk (Kd.R_lower (Kd.R_new' ho0 (Kd.R_lt (by (with_reducible repeat (first | apply Kd.R_alloc | apply Kd.R_drewN | apply Kd.R_drew)); exact HO196.out))) (below_size (by repeat (first | (with_reducible first | exact HB.out | apply below_alloc | apply pw_below_drewN | apply below_drew1 | refine below_set ?_ GE189.out) | exact HB.out)))); have n2_ := Aside0.mk (blk_below (g := gb189) (o := .cells #[.int .i64 a0_0, .int .i64 a0_1, .int .i64 a0_2, .int .i64 a0_3] 52 (0, 0)) (by (with_reducible repeat (first | refine blk_drewN ?_ _ | refine blk_drew ?_ | refine blk_alloc ?_ _)); exact BK189.out) hb); have n3_ := Aside0.mk (below_step (by repeat (first | (with_reducible first | exact HB.out | apply below_alloc | apply pw_below_drewN | apply below_drew1 | refine below_set ?_ GE189.out) | exact HB.out)) hb); clear HO196; clear BK189; clear HB; have HO196 := n0_; have HO199 := n1_; have BK189 := n2_; have HB := n3_; clear n0_ n1_ n2_ n3_; (try clear hb); (try clear hb2); (try clear hk); (try clear hi); (try clear ho0); have hcz28_0 : w27.cell? ⟨gb189, 0, none⟩ = some (.int .i64 a0_0) := (blk_cell BK189.out 0).trans rfl; have hcz28_1 : w27.cell? ⟨gb189, 1, none⟩ = some (.int .i64 a0_1) := (blk_cell BK189.out 1).trans rfl; have hcz28_2 : w27.cell? ⟨gb189, 2, none⟩ = some (.int .i64 a0_2) := (blk_cell BK189.out 2).trans rfl; have hcz28_3 : w27.cell? ⟨gb189, 3, none⟩ = some (.int .i64 a0_3) := (blk_cell BK189.out 3).trans rfl; have hfz28_0 := blk_frozen BK189.out 0; have hfz28_1 := blk_frozen BK189.out 1; have hfz28_2 := blk_frozen BK189.out 2; have hfz28_3 := blk_frozen BK189.out 3; obtain ⟨Ao29, co29, eo29⟩ := Kd.R_slice HO199.out; subst eo29) | ((with_reducible refine gate_callee (f := 42) rfl ?_); refine goesL_ (some 32) rfl rfl Try.func42 (by kernel_rfl) rfl #[.slice Ao29 t197.length co29, .int .i64 5, .int .i64 1, .int .i64 (wrap64 (a0_1 - 1))] rfl (by (try simp only [List.map_toArray, List.map_cons, List.map_nil]); first | done | rfl | (simp only [List.length_drop, List.length_take]; rfl)) ?_; (with_reducible refine (bollardref03_number.calls kj1 _ _ t197 5 1 (wrap64 (a0_1 - 1)) t200 _ ?side1 ?side2 A18.out).mono ?_); (case side1 => repeat (first | exact (Kd.R_reads' HO199.out).2.2 | (with_reducible refine Kd.C_alloc ?_ _) | (with_reducible refine Kd.C_drewN ?_ _) | (with_reducible refine Kd.C_drew ?_))); (case side2 => exact (Kd.R_reads' HO199.out).2.1); rintro e w30 ⟨v201, rfl, ho0, hb⟩; refine ⟨_, rfl, ?_⟩; have n0_ := Aside0.mk (Kd.R_elder' (by (with_reducible repeat (first | apply Kd.R_alloc | apply Kd.R_drewN | apply Kd.R_drew)); exact HO196.out) (Kd.R_base ho0) hb); have n1_ := Aside0.mk (Kd.R_elder' (by (with_reducible repeat (first | apply Kd.R_alloc | apply Kd.R_drewN | apply Kd.R_drew)); exact HO199.out) (Kd.R_base ho0) hb); have n2_ := Aside0.mk (Kd.R_lower (Kd.R_new' (Kd.R_new' ho0 (Kd.R_lt (by (with_reducible repeat (first | apply Kd.R_alloc | apply Kd.R_drewN | apply Kd.R_drew)); exact HO196.out))) (Kd.R_lt (by (with_reducible repeat (first | apply Kd.R_alloc | apply Kd.R_drewN | apply Kd.R_drew)); exact HO199.out))) (below_size (by repeat (first | (with_reducible first | exact HB.out | apply below_alloc | apply pw_below_drewN | apply below_drew1 | refine below_set ?_ GE189.out) | exact HB.out)))); have n3_ := Aside0.mk (blk_below (g := gb189) (o := .cells #[.int .i64 a0_0, .int .i64 a0_1, .int .i64 a0_2, .int .i64 a0_3] 52 (0, 0)) (by (with_reducible repeat (first | refine blk_drewN ?_ _ | refine blk_drew ?_ | refine blk_alloc ?_ _)); exact BK189.out) hb); have n4_ := Aside0.mk (below_step (by repeat (first | (with_reducible first | exact HB.out | apply below_alloc | apply pw_below_drewN | apply below_drew1 | refine below_set ?_ GE189.out) | exact HB.out)) hb); clear HO196; clear HO199; clear BK189; clear HB; have HO196 := n0_; have HO199 := n1_; have HO202 := n2_; have BK189 := n3_; have HB := n4_; clear n0_ n1_ n2_ n3_ n4_; (try clear hb); (try clear hb2); (try clear hk); (try clear hi); (try clear ho0); have hcz31_0 : w30.cell? ⟨gb189, 0, none⟩ = some (.int .i64 a0_0) := (blk_cell BK189.out 0).trans rfl; have hcz31_1 : w30.cell? ⟨gb189, 1, none⟩ = some (.int .i64 a0_1) := (blk_cell BK189.out 1).trans rfl; have hcz31_2 : w30.cell? ⟨gb189, 2, none⟩ = some (.int .i64 a0_2) := (blk_cell BK189.out 2).trans rfl; have hcz31_3 : w30.cell? ⟨gb189, 3, none⟩ = some (.int .i64 a0_3) := (blk_cell BK189.out 3).trans rfl; have hfz31_0 := blk_frozen BK189.out 0; have hfz31_1 := blk_frozen BK189.out 1; have hfz31_2 := blk_frozen BK189.out 2; have hfz31_3 := blk_frozen BK189.out 3; obtain ⟨Ao32, co32, eo32⟩ := Kd.R_slice HO202.out; subst eo32) | ((with_reducible refine gate_callee (f := 42) rfl ?_); refine goesL_ (some 37) rfl rfl Try.func42 (by kernel_rfl) rfl #[.slice Ao32 t200.length co32, .int .i64 6, .int .i64 1, .int .i64 a0_2] rfl (by (try simp only [List.map_toArray, List.map_cons, List.map_nil]); first | done | rfl | (simp only [List.length_drop, List.length_take]; rfl)) ?_; (with_reducible refine (bollardref03_number.calls kj1 _ _ t200 6 1 a0_2 t203 _ ?side1 ?side2 A19.out).mono ?_); (case side1 => repeat (first | exact (Kd.R_reads' HO202.out).2.2 | (with_reducible refine Kd.C_alloc ?_ _) | (with_reducible refine Kd.C_drewN ?_ _) | (with_reducible refine Kd.C_drew ?_))); (case side2 => exact (Kd.R_reads' HO202.out).2.1); rintro e w33 ⟨v204, rfl, ho0, hb⟩; refine ⟨_, rfl, ?_⟩; have n0_ := Aside0.mk (Kd.R_elder' (by (with_reducible repeat (first | apply Kd.R_alloc | apply Kd.R_drewN | apply Kd.R_drew)); exact HO196.out) (Kd.R_base ho0) hb); have n1_ := Aside0.mk (Kd.R_elder' (by (with_reducible repeat (first | apply Kd.R_alloc | apply Kd.R_drewN | apply Kd.R_drew)); exact HO199.out) (Kd.R_base ho0) hb); have n2_ := Aside0.mk (Kd.R_elder' (by (with_reducible repeat (first | apply Kd.R_alloc | apply Kd.R_drewN | apply Kd.R_drew)); exact HO202.out) (Kd.R_base ho0) hb); have n3_ := Aside0.mk (Kd.R_lower (Kd.R_new' (Kd.R_new' (Kd.R_new' ho0 (Kd.R_lt (by (with_reducible repeat (first | apply Kd.R_alloc | apply Kd.R_drewN | apply Kd.R_drew)); exact HO196.out))) (Kd.R_lt (by (with_reducible repeat (first | apply Kd.R_alloc | apply Kd.R_drewN | apply Kd.R_drew)); exact HO199.out))) (Kd.R_lt (by (with_reducible repeat (first | apply Kd.R_alloc | apply Kd.R_drewN | apply Kd.R_drew)); exact HO202.out))) (below_size (by repeat (first | (with_reducible first | exact HB.out | apply below_alloc | apply pw_below_drewN | apply below_drew1 | refine below_set ?_ GE189.out) | exact HB.out)))); have n4_ := Aside0.mk (blk_below (g := gb189) (o := .cells #[.int .i64 a0_0, .int .i64 a0_1, .int .i64 a0_2, .int .i64 a0_3] 52 (0, 0)) (by (with_reducible repeat (first | refine blk_drewN ?_ _ | refine blk_drew ?_ | refine blk_alloc ?_ _)); exact BK189.out) hb); have n5_ := Aside0.mk (below_step (by repeat (first | (with_reducible first | exact HB.out | apply below_alloc | apply pw_below_drewN | apply below_drew1 | refine below_set ?_ GE189.out) | exact HB.out)) hb); clear HO196; clear HO199; clear HO202; clear BK189; clear HB; have HO196 := n0_; have HO199 := n1_; have HO202 := n2_; have HO205 := n3_; have BK189 := n4_; have HB := n5_; clear n0_ n1_ n2_ n3_ n4_ n5_; (try clear hb); (try clear hb2); (try clear hk); (try clear hi); (try clear ho0); have hcz34_0 : w33.cell? ⟨gb189, 0, none⟩ = some (.int .i64 a0_0) := (blk_cell BK189.out 0).trans rfl; have hcz34_1 : w33.cell? ⟨gb189, 1, none⟩ = some (.int .i64 a0_1) := (blk_cell BK189.out 1).trans rfl; have hcz34_2 : w33.cell? ⟨gb189, 2, none⟩ = some (.int .i64 a0_2) := (blk_cell BK189.out 2).trans rfl; have hcz34_3 : w33.cell? ⟨gb189, 3, none⟩ = some (.int .i64 a0_3) := (blk_cell BK189.out 3).trans rfl; have hfz34_0 := blk_frozen BK189.out 0; have hfz34_1 := blk_frozen BK189.out 1; have hfz34_2 := blk_frozen BK189.out 2; have hfz34_3 := blk_frozen BK189.out 3; obtain ⟨Ao35, co35, eo35⟩ := Kd.R_slice HO205.out; subst eo35) | ((with_reducible refine gate_callee (f := 42) rfl ?_); refine goesL_ (some 41) rfl rfl Try.func42 (by kernel_rfl) rfl #[.slice Ao35 t203.length co35, .int .i64 8, .int .i64 4, .int .i64 a0_3] rfl (by (try simp only [List.map_toArray, List.map_cons, List.map_nil]); first | done | rfl | (simp only [List.length_drop, List.length_take]; rfl)) ?_; (with_reducible refine (bollardref03_number.calls kj1 _ _ t203 8 4 a0_3 t206 _ ?side1 ?side2 A20.out).mono ?_); (case side1 => repeat (first | exact (Kd.R_reads' HO205.out).2.2 | (with_reducible refine Kd.C_alloc ?_ _) | (with_reducible refine Kd.C_drewN ?_ _) | (with_reducible refine Kd.C_drew ?_))); (case side2 => exact (Kd.R_reads' HO205.out).2.1); rintro e w36 ⟨v207, rfl, ho0, hb⟩; refine ⟨_, rfl, ?_⟩; have n0_ := Aside0.mk (Kd.R_elder' (by (with_reducible repeat (first | apply Kd.R_alloc | apply Kd.R_drewN | apply Kd.R_drew)); exact HO196.out) (Kd.R_base ho0) hb); have n1_ := Aside0.mk (Kd.R_elder' (by (with_reducible repeat (first | apply Kd.R_alloc | apply Kd.R_drewN | apply Kd.R_drew)); exact HO199.out) (Kd.R_base ho0) hb); have n2_ := Aside0.mk (Kd.R_elder' (by (with_reducible repeat (first | apply Kd.R_alloc | apply Kd.R_drewN | apply Kd.R_drew)); exact HO202.out) (Kd.R_base ho0) hb); have n3_ := Aside0.mk (Kd.R_elder' (by (with_reducible repeat (first | apply Kd.R_alloc | apply Kd.R_drewN | apply Kd.R_drew)); exact HO205.out) (Kd.R_base ho0) hb); have n4_ := Aside0.mk (Kd.R_lower (Kd.R_new' (Kd.R_new' (Kd.R_new' (Kd.R_new' ho0 (Kd.R_lt (by (with_reducible repeat (first | apply Kd.R_alloc | apply Kd.R_drewN | apply Kd.R_drew)); exact HO196.out))) (Kd.R_lt (by (with_reducible repeat (first | apply Kd.R_alloc | apply Kd.R_drewN | apply Kd.R_drew)); exact HO199.out))) (Kd.R_lt (by (with_reducible repeat (first | apply Kd.R_alloc | apply Kd.R_drewN | apply Kd.R_drew)); exact HO202.out))) (Kd.R_lt (by (with_reducible repeat (first | apply Kd.R_alloc | apply Kd.R_drewN | apply Kd.R_drew)); exact HO205.out))) (below_size (by repeat (first | (with_reducible first | exact HB.out | apply below_alloc | apply pw_below_drewN | apply below_drew1 | refine below_set ?_ GE189.out) | exact HB.out)))); have n5_ := Aside0.mk (blk_below (g := gb189) (o := .cells #[.int .i64 a0_0, .int .i64 a0_1, .int .i64 a0_2, .int .i64 a0_3] 52 (0, 0)) (by (with_reducible repeat (first | refine blk_drewN ?_ _ | refine blk_drew ?_ | refine blk_alloc ?_ _)); exact BK189.out) hb); have n6_ := Aside0.mk (below_step (by repeat (first | (with_reducible first | exact HB.out | apply below_alloc | apply pw_below_drewN | apply below_drew1 | refine below_set ?_ GE189.out) | exact HB.out)) hb); clear HO196; clear HO199; clear HO202; clear HO205; clear BK189; clear HB; have HO196 := n0_; have HO199 := n1_; have HO202 := n2_; have HO205 := n3_; have HO208 := n4_; have BK189 := n5_; have HB := n6_; clear n0_ n1_ n2_ n3_ n4_ n5_ n6_; (try clear hb); (try clear hb2); (try clear hk); (try clear hi); (try clear ho0); obtain ⟨Ao37, co37, eo37⟩ := Kd.R_slice HO208.out; subst eo37) | ((with_reducible refine gate_callee (f := 53) rfl ?_); refine goesL_ (some 43) rfl rfl Try.func53 (by kernel_rfl) rfl #[.slice Ao37 t206.length co37] rfl (by (try simp only [List.map_toArray, List.map_cons, List.map_nil]); first | done | rfl | (simp only [List.length_drop, List.length_take]; rfl)) ?_; (with_reducible refine (bollardref01_Seal.calls kj1 _ _ t206 t209 t210 _ ?side1 ?side2 A21.out).mono ?_); (case side1 => repeat (first | exact (Kd.R_reads' HO208.out).2.2 | (with_reducible refine Kd.C_alloc ?_ _) | (with_reducible refine Kd.C_drewN ?_ _) | (with_reducible refine Kd.C_drew ?_))); (case side2 => exact (Kd.R_reads' HO208.out).2.1); rintro e w38 ⟨v211, rfl, ho0, hb⟩; refine ⟨_, rfl, ?_⟩; have n0_ := Aside0.mk (Kd.R_elder' (by (with_reducible repeat (first | apply Kd.R_alloc | apply Kd.R_drewN | apply Kd.R_drew)); exact HO196.out) (Kd.R_base ho0) hb); have n1_ := Aside0.mk (Kd.R_elder' (by (with_reducible repeat (first | apply Kd.R_alloc | apply Kd.R_drewN | apply Kd.R_drew)); exact HO199.out) (Kd.R_base ho0) hb); have n2_ := Aside0.mk (Kd.R_elder' (by (with_reducible repeat (first | apply Kd.R_alloc | apply Kd.R_drewN | apply Kd.R_drew)); exact HO202.out) (Kd.R_base ho0) hb); have n3_ := Aside0.mk (Kd.R_elder' (by (with_reducible repeat (first | apply Kd.R_alloc | apply Kd.R_drewN | apply Kd.R_drew)); exact HO205.out) (Kd.R_base ho0) hb); have n4_ := Aside0.mk (Kd.R_elder' (by (with_reducible repeat (first | apply Kd.R_alloc | apply Kd.R_drewN | apply Kd.R_drew)); exact HO208.out) (Kd.R_base ho0) hb); have n5_ := Aside0.mk (Kd.R_lower (Kd.R_new' (Kd.R_new' (Kd.R_new' (Kd.R_new' (Kd.R_new' ho0 (Kd.R_lt (by (with_reducible repeat (first | apply Kd.R_alloc | apply Kd.R_drewN | apply Kd.R_drew)); exact HO196.out))) (Kd.R_lt (by (with_reducible repeat (first | apply Kd.R_alloc | apply Kd.R_drewN | apply Kd.R_drew)); exact HO199.out))) (Kd.R_lt (by (with_reducible repeat (first | apply Kd.R_alloc | apply Kd.R_drewN | apply Kd.R_drew)); exact HO202.out))) (Kd.R_lt (by (with_reducible repeat (first | apply Kd.R_alloc | apply Kd.R_drewN | apply Kd.R_drew)); exact HO205.out))) (Kd.R_lt (by (with_reducible repeat (first | apply Kd.R_alloc | apply Kd.R_drewN | apply Kd.R_drew)); exact HO208.out))) (below_size (by repeat (first | (with_reducible first | exact HB.out | apply below_alloc | apply pw_below_drewN | apply below_drew1 | refine below_set ?_ GE189.out) | exact HB.out)))); have n6_ := Aside0.mk (blk_below (g := gb189) (o := .cells #[.int .i64 a0_0, .int .i64 a0_1, .int .i64 a0_2, .int .i64 a0_3] 52 (0, 0)) (by (with_reducible repeat (first | refine blk_drewN ?_ _ | refine blk_drew ?_ | refine blk_alloc ?_ _)); exact BK189.out) hb); have n7_ := Aside0.mk (below_step (by repeat (first | (with_reducible first | exact HB.out | apply below_alloc | apply pw_below_drewN | apply below_drew1 | refine below_set ?_ GE189.out) | exact HB.out)) hb); clear HO196; clear HO199; clear HO202; clear HO205; clear HO208; clear BK189; clear HB; have HO196 := n0_; have HO199 := n1_; have HO202 := n2_; have HO205 := n3_; have HO208 := n4_; have HO212 := n5_; have BK189 := n6_; have HB := n7_; clear n0_ n1_ n2_ n3_ n4_ n5_ n6_ n7_; (try clear hb); (try clear hb2); (try clear hk); (try clear hi); (try clear ho0)))
          go_ret2
          exact ⟨_, by first | rfl | (simp [errW_none, errW_some] <;> rfl) | (simp [*, errW_none, errW_some] <;> rfl), by (with_reducible repeat (first | apply Kd.R_alloc | apply Kd.R_drewN | apply Kd.R_drew)); exact Kd.R_mono HO212.out (fun _ hk => trivial), by repeat (first | (with_reducible first | exact HB.out | apply below_alloc | apply pw_below_drewN | apply below_drew1 | refine below_set ?_ GE189.out) | exact HB.out)⟩
        · rw [if_neg c16] at H
          exact absurd H (by simp)

/-! ### word_Get: function 63 -/
def word_Get.l0 : Nat → List Int → Int → Int → Int → Int → Option (Int × Int)
  | 0, _, _, _, _, _ => none
  | k + 1, x0, x1, x9, x18, x19 => if x19 < x18 then (if 0 ≤ (wrap64 (x1 + x19)) then (if (wrap64 (x1 + x19)) < (x0.length : Int) then (if 0 ≤ (wrap64 (8 * x19)) then (word_Get.l0 k x0 x1 (Go.bits .or .i64 x9 (shl .i64 (wrap64 (rd x0 (wrap64 (x1 + x19)))) (wrap64 (8 * x19)))) x18 (wrap64 (x19 + 1))) else (none)) else (none)) else (none)) else (some (x9, 0))
def word_Get.f (k : Nat) (l0 : List Int) (a1 : Int) (a2 : Int) : Option (Int × Int) := (word_there.f k l0 a1 a2).bind fun t213 => (if t213 = 0 then (word_Get.l0 k l0 a1 0 a2 0) else (some (0, t213)))
theorem word_Get.mono_l : ∀ k, (∀ y0 y1 y2 y3 y4, LeO (word_Get.l0 k y0 y1 y2 y3 y4) (word_Get.l0 (k + 1) y0 y1 y2 y3 y4))
  | 0 => fun _ _ _ _ _ r h => by simp [word_Get.l0] at h
  | k + 1 => by
    have ih0 := word_Get.mono_l k
    · intro y0 y1 y2 y3 y4
      unfold word_Get.l0
      repeat' first
      | (with_reducible exact ih0 _ _ _ _ _)
      | (with_reducible exact word_there.mono _ _ _ _)
      | (with_reducible exact LeO.refl _)
      | (with_reducible exact LeO.none _)
      | (with_reducible refine LeO.ite ?_ ?_)
      | (with_reducible refine LeO.bind ?_ (fun _ => ?_))
      | exact ih0 _ _ _ _ _
      | exact word_there.mono _ _ _ _
      | exact LeO.none _
      | refine LeO.ite ?_ ?_
      | refine LeO.bind ?_ (fun _ => ?_)
theorem word_Get.mono : ∀ a0 a1 a2 k, LeO (word_Get.f k a0 a1 a2) (word_Get.f (k + 1) a0 a1 a2) := by
  intro a0 a1 a2 k
  have ih0 := word_Get.mono_l k
  unfold word_Get.f
  repeat' first
      | (with_reducible exact ih0 _ _ _ _ _)
      | (with_reducible exact word_there.mono _ _ _ _)
      | (with_reducible exact LeO.refl _)
      | (with_reducible exact LeO.none _)
      | (with_reducible refine LeO.ite ?_ ?_)
      | (with_reducible refine LeO.bind ?_ (fun _ => ?_))
      | exact ih0 _ _ _ _ _
      | exact word_there.mono _ _ _ _
      | exact LeO.none _
      | refine LeO.ite ?_ ?_
      | refine LeO.bind ?_ (fun _ => ?_)
set_option maxHeartbeats 8000000 in
set_option maxRecDepth 100000 in
theorem word_Get.calls (k : Nat) (A0 : Option Addr) (c0 : Nat) (l0 : List Int) (a1 : Int) (a2 : Int) (r1 : Int) (r2 : Int) (w : World) (hr0 : Kd.C (Kd.int .u8) w A0 l0.length l0) (hc0 : l0.length ≤ c0) (h : word_Get.f k l0 a1 a2 = some (r1, r2)) :
    Calls Try.prog 63 #[.slice A0 l0.length c0, .int .i64 a1, .int .i64 a2] w fun e w' => e = .returned (.tuple #[.int .i64 r1, .int .i64 r2]) ∧ Drawn0 w w' := by
  have HR0 := Aside0.mk hr0
  have HC0 := Aside0.mk hc0
  clear hr0 hc0
  have H : ((word_there.f k l0 a1 a2).bind fun t213 => (if t213 = 0 then (word_Get.l0 k l0 a1 0 a2 0) else (some (0, t213)))) = some (r1, r2) := h
  clear h
  replace H := Option.bind_eq_some_iff.mp H
  obtain ⟨t213, A40, H⟩ := H
  replace H : (if t213 = 0 then (word_Get.l0 k l0 a1 0 a2 0) else (some (0, t213))) = some (r1, r2) := H
  have A4 := Aside0.mk A40
  clear A40
  by_cases c5 : t213 = 0
  · rw [if_pos c5] at H
    have c5b0 : (t213 == 0) = true := beq_iff_eq.mpr c5
    have c5b1 : (t213 != 0) = false := bne_eq_false_iff_eq.mpr c5
    clear c5
    have H' := Aside0.mk H
    clear H
    go_enter Try.func63, Try.ntmps63
    go_wp2_with (first | ((with_reducible refine gate_callee (f := 72) rfl ?_); refine goesL_ (some 14) rfl rfl Try.func72 (by kernel_rfl) rfl #[.slice A0 l0.length c0, .int .i64 a1, .int .i64 a2] rfl (by (try simp only [List.map_toArray, List.map_cons, List.map_nil]); first | done | rfl | (simp only [List.length_drop, List.length_take]; rfl)) ?_; (with_reducible refine (word_there.calls k _ _ l0 a1 a2 t213 _ ?side1 ?side2 A4.out).mono ?_); (case side1 => repeat (first | exact HR0.out | (with_reducible refine Kd.C_alloc ?_ _) | (with_reducible refine Kd.C_drewN ?_ _) | (with_reducible refine Kd.C_drew ?_))); (case side2 => exact HC0.out); rintro e w' ⟨rfl, ⟨nd, rfl⟩⟩; refine ⟨_, rfl, ?_⟩))
    go_loopg [9, 19] k (fun kq v9 v19 w' => ∃ (x9_1 : Int) (x19_1 : Int), v9 = .int .i64 x9_1 ∧ v19 = .int .i64 x19_1 ∧ Aside0 (word_Get.l0 kq l0 a1 x9_1 a2 x19_1 = some (r1, r2)) ∧ Aside0 (kq ≤ k) ∧ Drawn0 w w')
    case atStart => exact ⟨(0), (0), (by first | rfl | (simp; done) | (simp [*]; done)), (by first | rfl | (simp; done) | (simp [*]; done)), H', ⟨Nat.le_refl _⟩, by repeat (first | exact Drawn0.refl _ | apply Drawn0.step)⟩
    case round =>
      clear H'
      try clear p2
      try clear c5
      try clear c5b0
      try clear c5b1
      obtain ⟨x9_1, x19_1, rfl, rfl, HA, HK1, ⟨m1, rfl⟩⟩ := hrel
      cases gk with
      | zero => exact absurd HA.out (by simp [word_Get.l0])
      | succ k1 =>
        have H := HA.out
        clear HA
        simp only [word_Get.l0] at H
        by_cases c6 : x19_1 < a2
        · rw [if_pos c6] at H
          have c6b0 : decide (x19_1 < a2) = true := decide_eq_true c6
          clear c6
          obtain ⟨ji7, hji7⟩ : ∃ j_ : Int, (wrap64 (a1 + x19_1)) = j_ := ⟨_, rfl⟩
          replace H : (if 0 ≤ (ji7) then (if (ji7) < (l0.length : Int) then (if 0 ≤ (wrap64 (8 * x19_1)) then (word_Get.l0 k1 l0 a1 (Go.bits .or .i64 x9_1 (shl .i64 (wrap64 (rd l0 (ji7))) (wrap64 (8 * x19_1)))) a2 (wrap64 (x19_1 + 1))) else (none)) else (none)) else (none)) = some (r1, r2) := by first | (rw [hji7] at H; exact H) | (simp only [hji7] at H ⊢; exact H)
          have hji7w : (IntKind.i64.wrap (a1 + x19_1)) = ji7 := (i64_w _).trans hji7
          by_cases c8 : 0 ≤ (ji7)
          · rw [if_pos c8] at H
            have c8b0 : decide (0 ≤ (ji7)) = true := decide_eq_true c8
            clear c8
            by_cases c9 : (ji7) < (l0.length : Int)
            · rw [if_pos c9] at H
              have c9b0 : decide ((ji7) < (l0.length : Int)) = true := decide_eq_true c9
              clear c9
              obtain ⟨ji10, hji10⟩ : ∃ j_ : Int, (wrap64 (8 * x19_1)) = j_ := ⟨_, rfl⟩
              replace H : (if 0 ≤ (ji10) then (word_Get.l0 k1 l0 a1 (Go.bits .or .i64 x9_1 (shl .i64 (wrap64 (rd l0 (ji7))) (ji10))) a2 (wrap64 (x19_1 + 1))) else (none)) = some (r1, r2) := by first | (rw [hji10] at H; exact H) | (simp only [hji10] at H ⊢; exact H)
              have hji10w : (IntKind.i64.wrap (8 * x19_1)) = ji10 := (i64_w _).trans hji10
              by_cases c11 : 0 ≤ (ji10)
              · rw [if_pos c11] at H
                have c11b0 := eq_true c11
                have c11b1 : decide (0 ≤ (ji10)) = true := decide_eq_true c11
                clear c11
                obtain ⟨ji12, hji12⟩ : ∃ j_ : Int, (shl .i64 (wrap64 (rd l0 (ji7))) (ji10)) = j_ := ⟨_, rfl⟩
                replace H : (word_Get.l0 k1 l0 a1 (Go.bits .or .i64 x9_1 (ji12)) a2 (wrap64 (x19_1 + 1))) = some (r1, r2) := by first | (rw [hji12] at H; exact H) | (simp only [hji12] at H ⊢; exact H)
                have hji12_ : (IntKind.i64.wrap ((wrap64 (rd l0 (ji7))) * 2 ^ min (ji10).toNat 64)) = ji12 := hji12
                have hji12z : (ji10) ≤ 64 → (IntKind.i64.wrap ((wrap64 (rd l0 (ji7))) * 2 ^ (ji10).toNat)) = ji12 := shl_small hji12
                have hji12y : (wrap64 ((wrap64 (rd l0 (ji7))) * 2 ^ min (ji10).toNat 64)) = ji12 := (i64_w _).symm.trans hji12_
                have hji12x : (ji10) ≤ 64 → (wrap64 ((wrap64 (rd l0 (ji7))) * 2 ^ (ji10).toNat)) = ji12 := fun h_ => (i64_w _).symm.trans (hji12z h_)
                have H' := Aside0.mk H
                clear H
                have p214 : 0 ≤ ((ji7) : Int) := of_decide_eq_true (by first | (with_reducible assumption) | assumption)
                have q214 : (ji7) < (l0.length : Int) := of_decide_eq_true (by first | (with_reducible assumption) | assumption)
                obtain ⟨ad214, e214, hx214_0⟩ := Kd.at_int HR0.out (ji7) p214 q214
                cases e214
                replace p214 := eq_true p214
                replace q214 := eq_true q214
                go_wp2
                go_roundg k1
                case measure => have := HK1.out; omega
                case rel => exact ⟨(Go.bits .or .i64 x9_1 (ji12)), (wrap64 (x19_1 + 1)), (by first | rfl | (simp; done) | (simp only [← hji12] <;> (first | rfl | simp)) | (simp [*]; done)), (by first | rfl | (simp; done) | (simp [*]; done)), H', ⟨by have := HK1.out; omega⟩, by repeat (first | exact Drawn0.refl _ | apply Drawn0.step)⟩
              · rw [if_neg c11] at H
                exact absurd H (by simp)
            · rw [if_neg c9] at H
              exact absurd H (by simp)
          · rw [if_neg c8] at H
            exact absurd H (by simp)
        · rw [if_neg c6] at H
          have c6b0 : decide (x19_1 < a2) = false := decide_eq_false c6
          clear c6
          simp only [Option.some.injEq, Prod.mk.injEq] at H
          obtain ⟨rfl, rfl⟩ := H
          go_wp2
          go_ret2
          exact ⟨by first | rfl | (simp; done) | (simp [*]; done), by repeat (first | exact Drawn0.refl _ | apply Drawn0.step)⟩
  · rw [if_neg c5] at H
    have c5b0 : (t213 == 0) = false := beq_eq_false_iff_ne.mpr c5
    have c5b1 : (t213 != 0) = true := bne_iff_ne.mpr c5
    simp only [Option.some.injEq, Prod.mk.injEq] at H
    obtain ⟨rfl, rfl⟩ := H
    go_enter Try.func63, Try.ntmps63
    go_wp2_with (first | ((with_reducible refine gate_callee (f := 72) rfl ?_); refine goesL_ (some 14) rfl rfl Try.func72 (by kernel_rfl) rfl #[.slice A0 l0.length c0, .int .i64 a1, .int .i64 a2] rfl (by (try simp only [List.map_toArray, List.map_cons, List.map_nil]); first | done | rfl | (simp only [List.length_drop, List.length_take]; rfl)) ?_; (with_reducible refine (word_there.calls k _ _ l0 a1 a2 t213 _ ?side1 ?side2 A4.out).mono ?_); (case side1 => repeat (first | exact HR0.out | (with_reducible refine Kd.C_alloc ?_ _) | (with_reducible refine Kd.C_drewN ?_ _) | (with_reducible refine Kd.C_drew ?_))); (case side2 => exact HC0.out); rintro e w' ⟨rfl, ⟨nd, rfl⟩⟩; refine ⟨_, rfl, ?_⟩))
    go_ret2
    exact ⟨by first | rfl | (simp; done) | (simp [*]; done), by repeat (first | exact Drawn0.refl _ | apply Drawn0.step)⟩

/-! ### word_Sealed: function 54 -/
def word_Sealed.f (k : Nat) (l0 : List Int) : Option (Bool) := (word_Get.f k l0 (mx (wrap64 ((l0.length : Int) - 4)) 0) 4).bind fun bt215 => (if bt215.2 = 0 then (if 0 ≤ (wrap64 ((l0.length : Int) - 4)) then (if (wrap64 ((l0.length : Int) - 4)) ≤ (l0.length : Int) then ((word_Sum.f k (l0.take ((wrap64 ((l0.length : Int) - 4)) : Int).toNat)).bind fun t218 => (some (bt215.1 == t218))) else (none)) else (none)) else (some false))
theorem word_Sealed.mono : ∀ a0 k, LeO (word_Sealed.f k a0) (word_Sealed.f (k + 1) a0) := by
  intro a0 k
  unfold word_Sealed.f
  repeat' first
      | (with_reducible exact word_Get.mono _ _ _ _)
      | (with_reducible exact word_Sum.mono _ _)
      | (with_reducible exact LeO.refl _)
      | (with_reducible exact LeO.none _)
      | (with_reducible refine LeO.ite ?_ ?_)
      | (with_reducible refine LeO.bind ?_ (fun _ => ?_))
      | exact word_Get.mono _ _ _ _
      | exact word_Sum.mono _ _
      | exact LeO.none _
      | refine LeO.ite ?_ ?_
      | refine LeO.bind ?_ (fun _ => ?_)
set_option maxHeartbeats 8000000 in
set_option maxRecDepth 100000 in
theorem word_Sealed.calls (k : Nat) (A0 : Option Addr) (c0 : Nat) (l0 : List Int) (r : Bool) (w : World) (hr0 : Kd.C (Kd.int .u8) w A0 l0.length l0) (hc0 : l0.length ≤ c0) (h : word_Sealed.f k l0 = some r) :
    Calls Try.prog 54 #[.slice A0 l0.length c0] w fun e w' => e = .returned (.bool r) ∧ Below w.heap.size w w' := by
  have HR0 := Aside0.mk hr0
  have HC0 := Aside0.mk hc0
  clear hr0 hc0
  have HB := Aside0.mk (Below.refl w.heap.size w)
  have H : ((word_Get.f k l0 (mx (wrap64 ((l0.length : Int) - 4)) 0) 4).bind fun bt215 => (if bt215.2 = 0 then (if 0 ≤ (wrap64 ((l0.length : Int) - 4)) then (if (wrap64 ((l0.length : Int) - 4)) ≤ (l0.length : Int) then ((word_Sum.f k (l0.take ((wrap64 ((l0.length : Int) - 4)) : Int).toNat)).bind fun t218 => (some (bt215.1 == t218))) else (none)) else (none)) else (some false))) = some r := h
  clear h
  obtain ⟨ji2, hji2⟩ : ∃ j_ : Int, (mx (wrap64 ((l0.length : Int) - 4)) 0) = j_ := ⟨_, rfl⟩
  replace H : ((word_Get.f k l0 (ji2) 4).bind fun bt215 => (if bt215.2 = 0 then (if 0 ≤ (wrap64 ((l0.length : Int) - 4)) then (if (wrap64 ((l0.length : Int) - 4)) ≤ (l0.length : Int) then ((word_Sum.f k (l0.take ((wrap64 ((l0.length : Int) - 4)) : Int).toNat)).bind fun t218 => (some (bt215.1 == t218))) else (none)) else (none)) else (some false))) = some r := by first | (rw [hji2] at H; exact H) | (simp only [hji2] at H ⊢; exact H)
  (try (have hji2l : 0 ≤ ji2 := by (rw [← hji2]; unfold mx; (repeat' split) <;> omega)))
  (try (have hji2m : 0 ≤ ji2 := by omega))
  have hji2_ : (if (wrap64 ((l0.length : Int) - 4)) < 0 then 0 else (wrap64 ((l0.length : Int) - 4))) = ji2 := hji2
  replace H := Option.bind_eq_some_iff.mp H
  obtain ⟨⟨t215, t216⟩, A30, H⟩ := H
  replace H : (if t216 = 0 then (if 0 ≤ (wrap64 ((l0.length : Int) - 4)) then (if (wrap64 ((l0.length : Int) - 4)) ≤ (l0.length : Int) then ((word_Sum.f k (l0.take ((wrap64 ((l0.length : Int) - 4)) : Int).toNat)).bind fun t218 => (some (t215 == t218))) else (none)) else (none)) else (some false)) = some r := H
  have A3 := Aside0.mk A30
  clear A30
  by_cases c4 : t216 = 0
  · rw [if_pos c4] at H
    have c4b0 : (t216 == 0) = true := beq_iff_eq.mpr c4
    have c4b1 : (t216 != 0) = false := bne_eq_false_iff_eq.mpr c4
    clear c4
    obtain ⟨ji5, hji5⟩ : ∃ j_ : Int, (wrap64 ((l0.length : Int) - 4)) = j_ := ⟨_, rfl⟩
    replace H : (if 0 ≤ (ji5) then (if (ji5) ≤ (l0.length : Int) then ((word_Sum.f k (l0.take ((ji5) : Int).toNat)).bind fun t218 => (some (t215 == t218))) else (none)) else (none)) = some r := by first | (rw [hji5] at H; exact H) | (simp only [hji5] at H ⊢; exact H)
    (try rw [hji5] at hji2_)
    (try rw [hji5] at hji2z)
    (try rw [hji5] at hji2u)
    (try rw [hji5] at hji2v)
    (try rw [hji5] at hji2w)
    (try rw [hji5] at A3)
    have hji5w : (IntKind.i64.wrap ((l0.length : Int) - 4)) = ji5 := (i64_w _).trans hji5
    by_cases c6 : 0 ≤ (ji5)
    · rw [if_pos c6] at H
      have c6b0 := eq_true c6
      have c6b1 : decide (0 ≤ (ji5)) = true := decide_eq_true c6
      clear c6
      by_cases c7 : (ji5) ≤ (l0.length : Int)
      · rw [if_pos c7] at H
        have c7b0 := eq_true c7
        have c7b1 : decide ((ji5) ≤ (l0.length : Int)) = true := decide_eq_true c7
        clear c7
        replace H := Option.bind_eq_some_iff.mp H
        obtain ⟨t218, A80, H⟩ := H
        replace H : (some (t215 == t218)) = some r := H
        have A8 := Aside0.mk A80
        clear A80
        obtain rfl := Option.some.inj H
        go_enter Try.func54, Try.ntmps54
        go_wp2_with (first | ((with_reducible refine gate_callee (f := 63) rfl ?_); refine goesL_ (some 11) rfl rfl Try.func63 (by kernel_rfl) rfl #[.slice A0 l0.length c0, .int .i64 ji2, .int .i64 4] rfl (by (try simp only [List.map_toArray, List.map_cons, List.map_nil]); first | done | (simp only [hji2]; rfl) | rfl | (simp only [List.length_drop, List.length_take]; rfl)) ?_; (with_reducible refine (word_Get.calls k _ _ l0 ji2 4 t215 t216 _ ?side1 ?side2 A3.out).mono ?_); (case side1 => repeat (first | exact HR0.out | (with_reducible refine Kd.C_alloc ?_ _) | (with_reducible refine Kd.C_drewN ?_ _) | (with_reducible refine Kd.C_drew ?_))); (case side2 => exact HC0.out); rintro e w' ⟨rfl, ⟨nd, rfl⟩⟩; refine ⟨_, rfl, ?_⟩; obtain ⟨i09, hi09, _, hsz9, _⟩ := info_parts info5; obtain ⟨hcut9, hA9, hC9⟩ := print_take_of (P := Try.prog) (Value.int .u8) 0 26 5 .i64 Try.underlying26 hi09 hsz9 A0 c0 l0 (ji5) (of_decide_eq_true (by first | (with_reducible assumption) | assumption)) (of_decide_eq_true (by first | (with_reducible assumption) | assumption)) HC0.out; have HR217 := Aside0.mk (Kd.C_of_reads (h1 := fun _ => rfl) (hA9 _ (Kd.reads_of_C HR0.out))); have HC217 := Aside0.mk hC9; clear hA9 hC9 hi09 hsz9) | (go_at_call 68; refine calls_of_args (args' := #[.slice A0 (l0.take ((ji5) : Int).toNat).length c0]) (by first | (rw [show (l0.take ((ji5) : Int).toNat).length = (ji5).toNat from (by rw [List.length_take]; have h_ : ((ji5) : Int) ≤ (l0.length : Int) := of_decide_eq_true (by first | (with_reducible assumption) | assumption); omega)] <;> rfl) | rfl) ?_; (with_reducible refine (word_Sum.calls k _ _ (l0.take ((ji5) : Int).toNat) t218 _ ?side1 ?side2 A8.out).mono ?_); (case side1 => repeat (first | exact HR217.out | (with_reducible refine Kd.C_alloc ?_ _) | (with_reducible refine Kd.C_drewN ?_ _) | (with_reducible refine Kd.C_drew ?_))); (case side2 => exact HC217.out); rintro e w' ⟨rfl, ⟨nd, rfl⟩⟩))
        go_ret
        exact ⟨by first | rfl | (simp [errW_none, errW_some] <;> rfl) | (simp only [← hji2, ← hji5]; first | rfl | (simp [errW_none, errW_some] <;> rfl)) | (simp [*, errW_none, errW_some] <;> rfl), by repeat (first | (with_reducible first | exact HB.out | apply below_alloc | apply pw_below_drewN | apply below_drew1) | exact HB.out)⟩
      · rw [if_neg c7] at H
        exact absurd H (by simp)
    · rw [if_neg c6] at H
      exact absurd H (by simp)
  · rw [if_neg c4] at H
    have c4b0 : (t216 == 0) = false := beq_eq_false_iff_ne.mpr c4
    have c4b1 : (t216 != 0) = true := bne_iff_ne.mpr c4
    obtain rfl := Option.some.inj H
    go_enter Try.func54, Try.ntmps54
    go_wp2_with (first | ((with_reducible refine gate_callee (f := 63) rfl ?_); refine goesL_ (some 11) rfl rfl Try.func63 (by kernel_rfl) rfl #[.slice A0 l0.length c0, .int .i64 ji2, .int .i64 4] rfl (by (try simp only [List.map_toArray, List.map_cons, List.map_nil]); first | done | (simp only [hji2]; rfl) | rfl | (simp only [List.length_drop, List.length_take]; rfl)) ?_; (with_reducible refine (word_Get.calls k _ _ l0 ji2 4 t215 t216 _ ?side1 ?side2 A3.out).mono ?_); (case side1 => repeat (first | exact HR0.out | (with_reducible refine Kd.C_alloc ?_ _) | (with_reducible refine Kd.C_drewN ?_ _) | (with_reducible refine Kd.C_drew ?_))); (case side2 => exact HC0.out); rintro e w' ⟨rfl, ⟨nd, rfl⟩⟩; refine ⟨_, rfl, ?_⟩))
    go_ret
    exact ⟨by first | rfl | (simp [errW_none, errW_some] <;> rfl) | (simp only [← hji2]; first | rfl | (simp [errW_none, errW_some] <;> rfl)) | (simp [*, errW_none, errW_some] <;> rfl), by repeat (first | (with_reducible first | exact HB.out | apply below_alloc | apply pw_below_drewN | apply below_drew1) | exact HB.out)⟩

-- NOT PRINTED: function 55 (word_Reader_Skip)


/-! ### layout_DecodeSuper: function 30 -/
def layout_DecodeSuper.f (k : Nat) (l0 : List Int) : Option (Int × Int × Int × Int × Int) := if (l0.length : Int) = 128 then (if ∀ x ∈ l0, 0 ≤ x ∧ x ≤ 255 then (if (strOfNums (l0.take 4)).toList = ([98, 111, 108, 108] : List UInt8) then ((word_Sealed.f k l0).bind fun t => (if t = true then ((layout_EncodeSuper.f k (Rd.le (Rd.cutL l0 4 1)) (wrap64 (Rd.le (Rd.cutL l0 5 1) + 1)) (Rd.le (Rd.cutL l0 6 1)) (Rd.le (Rd.cutL l0 8 4))).bind fun q => (if q.2 = 0 then ((layout_same.f q.1 l0).bind fun s => (if s = true then some (Rd.le (Rd.cutL l0 4 1), wrap64 (Rd.le (Rd.cutL l0 5 1) + 1), Rd.le (Rd.cutL l0 6 1), Rd.le (Rd.cutL l0 8 4), 0) else some (0, 0, 0, 0, 6))) else some (0, 0, 0, 0, 6))) else some (0, 0, 0, 0, 30))) else some (0, 0, 0, 0, 31)) else none) else some (0, 0, 0, 0, 6)
theorem layout_DecodeSuper.mono : ∀ a0 k, LeO (layout_DecodeSuper.f k a0) (layout_DecodeSuper.f (k + 1) a0) := by
  intro a0 k
  unfold layout_DecodeSuper.f
  exact LeO.ite (LeO.ite (LeO.ite (LeO.bind (word_Sealed.mono _ _) (fun _ => LeO.ite (LeO.bind (layout_EncodeSuper.mono _ _ _ _ _) (fun _ => LeO.refl _)) (LeO.refl _))) (LeO.refl _)) (LeO.refl _)) (LeO.refl _)
set_option maxHeartbeats 8000000 in
set_option maxRecDepth 100000 in
theorem layout_DecodeSuper.calls (k : Nat) (A0 : Option Addr) (c0 : Nat) (l0 : List Int) (r1 : Int) (r2 : Int) (r3 : Int) (r4 : Int) (r5 : Int) (w : World) (hr0 : Kd.C (Kd.int .u8) w A0 l0.length l0) (hc0 : l0.length ≤ c0) (h : layout_DecodeSuper.f k l0 = some (r1, r2, r3, r4, r5)) :
    Calls Try.prog 30 #[.slice A0 l0.length c0] w fun e w' => e = .returned (.tuple #[.agg #[.int .i64 r1, .int .i64 r2, .int .i64 r3, .int .i64 r4], .int .i64 r5]) ∧ Below w.heap.size w w' := by
  have hu52 := Try.underlying52
  have hu50 := Try.underlying50
  unfold layout_DecodeSuper.f at h
  have HR0 := Aside0.mk hr0
  have HC0 := Aside0.mk hc0
  have HB := Aside0.mk (Below.refl w.heap.size w)
  clear hr0 hc0
  by_cases hlen : (l0.length : Int) = 128
  · rw [if_pos hlen] at h
    have hb0 : ((l0.length : Int) == 128) = true := beq_iff_eq.mpr hlen
    have hb1 : ((l0.length : Int) != 128) = false := bne_eq_false_iff_eq.mpr hlen
    have HLEN := Aside0.mk (show l0.length = 128 by omega)
    have h4b : decide (4 ≤ (l0.length : Int)) = true := decide_eq_true (by omega)
    have h4c : (4 ≤ (l0.length : Int)) = True := eq_true (by omega)
    clear hlen
    by_cases hwf : ∀ x ∈ l0, 0 ≤ x ∧ x ≤ 255
    · rw [if_pos hwf] at h
      have HWF := Aside0.mk hwf
      clear hwf
      by_cases hm : (strOfNums (l0.take 4)).toList = ([98, 111, 108, 108] : List UInt8)
      · rw [if_pos hm] at h
        have hmb0 : ((strOfNums (l0.take 4)).toList == ([98, 111, 108, 108] : List UInt8)) = true := beq_iff_eq.mpr hm
        have hmb1 : ((strOfNums (l0.take 4)).toList != ([98, 111, 108, 108] : List UInt8)) = false := bne_eq_false_iff_eq.mpr hm
        clear hm
        obtain ⟨t, ht, h2⟩ := Option.bind_eq_some_iff.mp h
        have HSE := Aside0.mk ht
        clear h ht
        by_cases htt : t = true
        · subst htt
          rw [if_pos rfl] at h2
          obtain ⟨tG, hG⟩ : ∃ x, x = Rd.le (Rd.cutL l0 4 1) := ⟨_, rfl⟩
          obtain ⟨tB, hB⟩ : ∃ x, x = Rd.le (Rd.cutL l0 5 1) := ⟨_, rfl⟩
          obtain ⟨tI, hI⟩ : ∃ x, x = Rd.le (Rd.cutL l0 6 1) := ⟨_, rfl⟩
          obtain ⟨tM, hM⟩ : ∃ x, x = Rd.le (Rd.cutL l0 8 4) := ⟨_, rfl⟩
          rw [← hG, ← hB, ← hI, ← hM] at h2
          have HG := Aside0.mk hG.symm
          have HBL := Aside0.mk hB.symm
          have HIN := Aside0.mk hI.symm
          have HM := Aside0.mk hM.symm
          clear hG hB hI hM
          obtain ⟨⟨q1, q2⟩, hq, h3⟩ := Option.bind_eq_some_iff.mp h2
          have HQ := Aside0.mk hq
          clear h2 hq
          have HS4 := Aside0.mk (show (0 : Int) + 4 = 4 by rfl)
          have HT4 := Aside0.mk (show (4 : Int) + 1 = 5 by rfl)
          have HT5 := Aside0.mk (show (5 : Int) + 1 = 6 by rfl)
          have HT6 := Aside0.mk (show (6 : Int) + 1 = 7 by rfl)
          have HS7 := Aside0.mk (show (7 : Int) + 1 = 8 by rfl)
          have HT8 := Aside0.mk (show (8 : Int) + 4 = 12 by rfl)
          by_cases hq2 : q2 = 0
          · rw [if_pos hq2] at h3
            have hqb : (q2 == 0) = true := beq_iff_eq.mpr hq2
            have hqc : (q2 != 0) = false := bne_eq_false_iff_eq.mpr hq2
            clear hq2
            obtain ⟨s, hs, h4⟩ := Option.bind_eq_some_iff.mp h3
            have HS := Aside0.mk hs
            clear h3 hs
            by_cases hst : s = true
            · subst hst
              rw [if_pos rfl] at h4
              simp only [Option.some.injEq, Prod.mk.injEq] at h4
              obtain ⟨rfl, rfl, rfl, rfl, rfl⟩ := h4
              go_enter Try.func30, Try.ntmps30
              go_wp2_with (first
                | ((with_reducible refine gate_dst (N := 2) rfl ?_); refine box_event ?hg (N := 2) ?hd (cs := #[.int .i64 0, .int .i64 0, .int .i64 0, .int .i64 0]) (t := 52) ?hr ?_; (case hd => rfl); (case hg => rfl); (case hr => first | (go_simp; done) | (go_simp; rfl)); intro gb hg w1 hbox hb; have n0_ := Aside0.mk (below_step (w2 := w1) (by repeat (first | (with_reducible first | exact HB.out | apply below_alloc | apply pw_below_drewN | apply below_drew1) | exact HB.out)) hb); have BKb := Aside0.mk hbox; have GE := Aside0.mk (show w.heap.size ≤ gb by rw [hg]; exact Nat.le_refl _); clear HB; have HB := n0_; clear n0_ hb hbox hg; have hcb0 : w1.cell? ⟨gb, 0, none⟩ = some (.int .i64 0) := (blk_cell BKb.out 0).trans rfl; have hfb0 := blk_frozen BKb.out 0; have hcb1 : w1.cell? ⟨gb, 1, none⟩ = some (.int .i64 0) := (blk_cell BKb.out 1).trans rfl; have hfb1 := blk_frozen BKb.out 1; have hcb2 : w1.cell? ⟨gb, 2, none⟩ = some (.int .i64 0) := (blk_cell BKb.out 2).trans rfl; have hfb2 := blk_frozen BKb.out 2; have hcb3 : w1.cell? ⟨gb, 3, none⟩ = some (.int .i64 0) := (blk_cell BKb.out 3).trans rfl; have hfb3 := blk_frozen BKb.out 3; obtain ⟨ii, hii, _, hsz, _⟩ := info_parts info5; obtain ⟨hcut, hA, hC⟩ := print_take_of (P := Try.prog) (Value.int .u8) 0 26 5 .i64 Try.underlying26 hii hsz A0 c0 l0 4 (by omega) (of_decide_eq_true h4b) HC0.out; have HR4 := Aside0.mk (Kd.C_of_reads (h1 := fun _ => rfl) (hA _ (Kd.reads_of_C HR0.out))); clear hA hC hii hsz; have hcv := Kd.C_string (P := Try.prog) (A := A0) (c := c0) Try.underlying26 Try.underlying5 Try.underlying9 (Kd.C_below HR4.out HB.out); have hcvs := hcv; simp only [Int.reduceToNat, List.length_take] at hcvs)
                | (go_at_call 54; clear hcb0 hfb0 hcb1 hfb1 hcb2 hfb2 hcb3 hfb3; refine (word_Sealed.calls k A0 c0 l0 true _ (Kd.C_below HR0.out (by repeat (first | exact HB.out | apply pw_below_drewN | apply below_drew1))) HC0.out HSE.out).mono ?_; rintro e w2 ⟨rfl, hb⟩; have n0_ := Aside0.mk (blk_below (w1 := w2) (by (with_reducible repeat (first | refine blk_drewN ?_ _ | refine blk_drew ?_ | refine blk_alloc ?_ _)); exact BKb.out) hb); clear BKb; have BKb := n0_; clear n0_; have n0_ := Aside0.mk (below_step (w2 := w2) (by repeat (first | (with_reducible first | exact HB.out | apply below_alloc | apply pw_below_drewN | apply below_drew1) | exact HB.out)) hb); clear HB; have HB := n0_; clear n0_; clear hb HSE hcv hcvs; have hcb0 : w2.cell? ⟨gb, 0, none⟩ = some (.int .i64 0) := (blk_cell BKb.out 0).trans rfl; have hfb0 := blk_frozen BKb.out 0; have hcb1 : w2.cell? ⟨gb, 1, none⟩ = some (.int .i64 0) := (blk_cell BKb.out 1).trans rfl; have hfb1 := blk_frozen BKb.out 1; have hcb2 : w2.cell? ⟨gb, 2, none⟩ = some (.int .i64 0) := (blk_cell BKb.out 2).trans rfl; have hfb2 := blk_frozen BKb.out 2; have hcb3 : w2.cell? ⟨gb, 3, none⟩ = some (.int .i64 0) := (blk_cell BKb.out 3).trans rfl; have hfb3 := blk_frozen BKb.out 3)
                | (go_at_call 43; clear hcb0 hfb0 hcb1 hfb1 hcb2 hfb2 hcb3 hfb3; refine (Rd.Over_call A0 c0 l0 _ (Kd.C_below HR0.out (by repeat (first | exact HB.out | apply pw_below_drewN | apply below_drew1))) (by have := HLEN.out; omega)).mono ?_; rintro e w3 ⟨wi, g, rfl, hI, hb1, hs1, hg, _⟩; have HI2 := Aside0.mk hI; have n0_ := Aside0.mk (below_then (w2 := wi) (by repeat (first | exact HB.out | apply pw_below_drewN | apply below_drew1)) (Nat.le_trans GE.out (Nat.le_of_lt (blk_lt BKb.out))) hb1); have n1_ := Aside0.mk (blk_below (w1 := wi) (by (with_reducible repeat (first | refine blk_drewN ?_ _ | refine blk_drew ?_)); exact BKb.out) hb1); clear HB BKb; have HB := n0_; have BKi := n1_; clear hI hb1 hs1 hg n0_ n1_)
                | (have n_ := HS4.out; clear n_; go_at_call 55; refine (Rd.Skip_ok wi g l0 0 4 _ (by repeat (first | (with_reducible exact HI2.out) | (with_reducible refine Rd.IsRd.drewN_ ?_ _) | (with_reducible refine Rd.IsRd.drew_ ?_) | refine Rd.IsRd.set_ ?_ _ _ _ (Nat.le_trans HI2.out.le_ (Nat.le_of_lt GG.out)) (Nat.ne_of_gt GG.out))) (by have := HLEN.out; omega) (by omega) (by omega) (by have := HLEN.out; omega)).mono ?_; rintro e w4 ⟨rfl, hI, _⟩; rw [HS4.out] at hI; clear HS4; have HI3 := Aside0.mk hI; clear hI)
                | (have n_ := HT4.out; clear n_; go_at_call 44; refine (Rd.Take_ok wi g l0 4 1 _ (by repeat (first | (with_reducible exact HI3.out) | (with_reducible refine Rd.IsRd.drewN_ ?_ _) | (with_reducible refine Rd.IsRd.drew_ ?_) | refine Rd.IsRd.set_ ?_ _ _ _ (Nat.le_trans HI2.out.le_ (Nat.le_of_lt GG.out)) (Nat.ne_of_gt GG.out))) (by have := HLEN.out; omega) HWF.out (by omega) (by omega) (by omega) (by have := HLEN.out; omega)).mono ?_; rintro e w5 ⟨he, hI, _⟩; rw [HT4.out] at hI; rw [HG.out] at he; subst he; clear HT4; have HI4 := Aside0.mk hI; clear hI)
                | (have n_ := HT5.out; clear n_; go_at_call 44; refine (Rd.Take_ok wi g l0 5 1 _ (by repeat (first | (with_reducible exact HI4.out) | (with_reducible refine Rd.IsRd.drewN_ ?_ _) | (with_reducible refine Rd.IsRd.drew_ ?_) | refine Rd.IsRd.set_ ?_ _ _ _ (Nat.le_trans HI2.out.le_ (Nat.le_of_lt GG.out)) (Nat.ne_of_gt GG.out))) (by have := HLEN.out; omega) HWF.out (by omega) (by omega) (by omega) (by have := HLEN.out; omega)).mono ?_; rintro e w6 ⟨he, hI, _⟩; rw [HT5.out] at hI; rw [HBL.out] at he; subst he; clear HT5; have HI5 := Aside0.mk hI; clear hI)
                | (have n_ := HT6.out; clear n_; go_at_call 44; refine (Rd.Take_ok wi g l0 6 1 _ (by repeat (first | (with_reducible exact HI5.out) | (with_reducible refine Rd.IsRd.drewN_ ?_ _) | (with_reducible refine Rd.IsRd.drew_ ?_) | refine Rd.IsRd.set_ ?_ _ _ _ (Nat.le_trans HI2.out.le_ (Nat.le_of_lt GG.out)) (Nat.ne_of_gt GG.out))) (by have := HLEN.out; omega) HWF.out (by omega) (by omega) (by omega) (by have := HLEN.out; omega)).mono ?_; rintro e w7 ⟨he, hI, _⟩; rw [HT6.out] at hI; rw [HIN.out] at he; subst he; clear HT6; have HI6 := Aside0.mk hI; clear hI)
                | ((with_reducible refine gate_dst (N := 5) rfl ?_); refine box_event ?hg (N := 5) ?hd (cs := #[.int .i64 0, .int .i64 0, .int .i64 0, .int .i64 0]) (t := 52) ?hr ?_; (case hd => rfl); (case hg => rfl); (case hr => first | (go_simp; done) | (go_simp; rfl)); intro ge hge w8 hbox hb; have GG := Aside0.mk (show g < ge by rw [hge]; exact HI6.out.lt); have HI7 := Aside0.mk (Rd.IsRd.below (W1 := w8) (by repeat (first | exact HI6.out | refine Rd.IsRd.drewN_ ?_ _ | refine Rd.IsRd.drew_ ?_)) hb); have BKe := Aside0.mk hbox; clear hb hbox hge; have hce0 : w8.cell? ⟨ge, 0, none⟩ = some (.int .i64 0) := (blk_cell BKe.out 0).trans rfl; have hfe0 := blk_frozen BKe.out 0; have hce1 : w8.cell? ⟨ge, 1, none⟩ = some (.int .i64 0) := (blk_cell BKe.out 1).trans rfl; have hfe1 := blk_frozen BKe.out 1; have hce2 : w8.cell? ⟨ge, 2, none⟩ = some (.int .i64 0) := (blk_cell BKe.out 2).trans rfl; have hfe2 := blk_frozen BKe.out 2; have hce3 : w8.cell? ⟨ge, 3, none⟩ = some (.int .i64 0) := (blk_cell BKe.out 3).trans rfl; have hfe3 := blk_frozen BKe.out 3)
                | (have n_ := HS7.out; clear n_; go_at_call 55; clear hce0 hfe0 hce1 hfe1 hce2 hfe2 hce3 hfe3; refine (Rd.Skip_blk wi g l0 7 1 _ ge (.cells #[.int .i64 tG, .int .i64 (wrap64 (tB + 1)), .int .i64 tI, .int .i64 0] 52 (0, 0)) (by repeat (first | (with_reducible exact HI7.out) | (with_reducible refine Rd.IsRd.drewN_ ?_ _) | (with_reducible refine Rd.IsRd.drew_ ?_) | refine Rd.IsRd.set_ ?_ _ _ _ (Nat.le_trans HI2.out.le_ (Nat.le_of_lt GG.out)) (Nat.ne_of_gt GG.out))) (by have := HLEN.out; omega) (by omega) (by omega) (by have := HLEN.out; omega) (by (with_reducible repeat (first | refine blk_drewN ?_ _ | refine blk_drew ?_ | refine blk_alloc ?_ _)); refine blk_put (cs := #[.int .i64 tG, .int .i64 (wrap64 (tB + 1)), .int .i64 tI, .int .i64 0]) ?_ 3 _ rfl; (with_reducible repeat (first | refine blk_drewN ?_ _ | refine blk_drew ?_ | refine blk_alloc ?_ _)); refine blk_put (cs := #[.int .i64 tG, .int .i64 (wrap64 (tB + 1)), .int .i64 0, .int .i64 0]) ?_ 2 _ rfl; (with_reducible repeat (first | refine blk_drewN ?_ _ | refine blk_drew ?_ | refine blk_alloc ?_ _)); refine blk_put (cs := #[.int .i64 tG, .int .i64 0, .int .i64 0, .int .i64 0]) ?_ 1 _ rfl; (with_reducible repeat (first | refine blk_drewN ?_ _ | refine blk_drew ?_ | refine blk_alloc ?_ _)); refine blk_put (cs := #[.int .i64 0, .int .i64 0, .int .i64 0, .int .i64 0]) ?_ 0 _ rfl; (with_reducible repeat (first | refine blk_drewN ?_ _ | refine blk_drew ?_ | refine blk_alloc ?_ _)); exact BKe.out) (Nat.ne_of_gt GG.out)).mono ?_; rintro e w9 ⟨rfl, hI, hb⟩; rw [HS7.out] at hI; clear HS7; have HI8 := Aside0.mk hI; clear BKe; have BKe := Aside0.mk hb; clear hI hb)
                | (have n_ := HT8.out; clear n_; go_at_call 44; refine (Rd.Take_blk wi g l0 8 4 _ ge (.cells #[.int .i64 tG, .int .i64 (wrap64 (tB + 1)), .int .i64 tI, .int .i64 0] 52 (0, 0)) (by repeat (first | (with_reducible exact HI8.out) | (with_reducible refine Rd.IsRd.drewN_ ?_ _) | (with_reducible refine Rd.IsRd.drew_ ?_) | refine Rd.IsRd.set_ ?_ _ _ _ (Nat.le_trans HI2.out.le_ (Nat.le_of_lt GG.out)) (Nat.ne_of_gt GG.out))) (by have := HLEN.out; omega) HWF.out (by omega) (by omega) (by omega) (by have := HLEN.out; omega) (by (with_reducible repeat (first | refine blk_drewN ?_ _ | refine blk_drew ?_ | refine blk_alloc ?_ _)); exact BKe.out) (Nat.ne_of_gt GG.out)).mono ?_; rintro e w10 ⟨he, hI, hb⟩; rw [HT8.out] at hI; rw [HM.out] at he; subst he; clear HT8; have HI9 := Aside0.mk hI; clear BKe; have BKe := Aside0.mk hb; clear hI hb; have hce0 : w10.cell? ⟨ge, 0, none⟩ = some (.int .i64 tG) := (blk_cell BKe.out 0).trans rfl; have hfe0 := blk_frozen BKe.out 0; have hce1 : w10.cell? ⟨ge, 1, none⟩ = some (.int .i64 (wrap64 (tB + 1))) := (blk_cell BKe.out 1).trans rfl; have hfe1 := blk_frozen BKe.out 1; have hce2 : w10.cell? ⟨ge, 2, none⟩ = some (.int .i64 tI) := (blk_cell BKe.out 2).trans rfl; have hfe2 := blk_frozen BKe.out 2; have hce3 : w10.cell? ⟨ge, 3, none⟩ = some (.int .i64 0) := (blk_cell BKe.out 3).trans rfl; have hfe3 := blk_frozen BKe.out 3)
                | (go_at_call 28; clear hce0 hfe0 hce1 hfe1 hce2 hfe2 hce3 hfe3; refine (layout_EncodeSuper.calls k tG (wrap64 (tB + 1)) tI tM q1 q2 _ HQ.out).mono ?_; rintro e w11 ⟨v0, rfl, hr, hb⟩; have HR7 := Aside0.mk hr; have HI10 := Aside0.mk (Rd.IsRd.below (w0 := wi) (g := g) (l := l0) (p := 12) (e := 0) (W1 := w11) (by repeat (first | (with_reducible exact HI9.out) | (with_reducible refine Rd.IsRd.drewN_ ?_ _) | (with_reducible refine Rd.IsRd.drew_ ?_) | refine Rd.IsRd.set_ ?_ _ _ _ (Nat.le_trans HI2.out.le_ (Nat.le_of_lt GG.out)) (Nat.ne_of_gt GG.out))) hb); have n0_ := Aside0.mk (blk_below (w1 := w11) (o := .cells #[.int .i64 tG, .int .i64 (wrap64 (tB + 1)), .int .i64 tI, .int .i64 tM] 52 (0, 0)) (by (with_reducible repeat (first | refine blk_drewN ?_ _ | refine blk_drew ?_ | refine blk_alloc ?_ _)); refine blk_put (cs := #[.int .i64 tG, .int .i64 (wrap64 (tB + 1)), .int .i64 tI, .int .i64 0]) ?_ 3 _ rfl; (with_reducible repeat (first | refine blk_drewN ?_ _ | refine blk_drew ?_ | refine blk_alloc ?_ _)); exact BKe.out) hb); clear BKe; have BKe := n0_; clear n0_; clear hr hb; obtain ⟨A7, c7, e7⟩ := Kd.R_slice HR7.out; subst e7; have BKb := Aside0.mk (HI10.out.old BKi.out); have n0_ := Aside0.mk (below_then (w2 := w11) HB.out (Nat.le_trans GE.out (Nat.le_of_lt (blk_lt BKi.out))) HI10.out.bel); clear HB; have HB := n0_; clear n0_; have hce0 : w11.cell? ⟨ge, 0, none⟩ = some (.int .i64 tG) := (blk_cell BKe.out 0).trans rfl; have hfe0 := blk_frozen BKe.out 0; have hce1 : w11.cell? ⟨ge, 1, none⟩ = some (.int .i64 (wrap64 (tB + 1))) := (blk_cell BKe.out 1).trans rfl; have hfe1 := blk_frozen BKe.out 1; have hce2 : w11.cell? ⟨ge, 2, none⟩ = some (.int .i64 tI) := (blk_cell BKe.out 2).trans rfl; have hfe2 := blk_frozen BKe.out 2; have hce3 : w11.cell? ⟨ge, 3, none⟩ = some (.int .i64 tM) := (blk_cell BKe.out 3).trans rfl; have hfe3 := blk_frozen BKe.out 3; have hcb0 : w11.cell? ⟨gb, 0, none⟩ = some (.int .i64 0) := (blk_cell BKb.out 0).trans rfl; have hfb0 := blk_frozen BKb.out 0; have hcb1 : w11.cell? ⟨gb, 1, none⟩ = some (.int .i64 0) := (blk_cell BKb.out 1).trans rfl; have hfb1 := blk_frozen BKb.out 1; have hcb2 : w11.cell? ⟨gb, 2, none⟩ = some (.int .i64 0) := (blk_cell BKb.out 2).trans rfl; have hfb2 := blk_frozen BKb.out 2; have hcb3 : w11.cell? ⟨gb, 3, none⟩ = some (.int .i64 0) := (blk_cell BKb.out 3).trans rfl; have hfb3 := blk_frozen BKb.out 3)
                | (go_at_call 38; refine (layout_same.calls A7 c7 q1 A0 c0 l0 true _ (by repeat (first | exact (Kd.R_reads' HR7.out).2.2 | refine Kd.C_drewN ?_ _ | refine Kd.C_drew ?_)) (Kd.R_reads' HR7.out).2.1 (by repeat (first | exact Kd.C_below HR0.out HB.out | refine Kd.C_drewN ?_ _ | refine Kd.C_drew ?_)) HC0.out HS.out).mono ?_; rintro e w12 ⟨rfl, m9, rfl⟩))
              refine bodyPost_ret (results_ct rfl _ _ gb 52 #[.int .i64 tG, .int .i64 (wrap64 (tB + 1)), .int .i64 tI, .int .i64 tM] (0, 0) _ rfl (by (with_reducible repeat (first | refine blk_drewN ?_ _ | refine blk_drew ?_ | refine blk_alloc ?_ _)); refine blk_put (cs := #[.int .i64 tG, .int .i64 (wrap64 (tB + 1)), .int .i64 tI, .int .i64 0]) ?_ 3 _ rfl; (with_reducible repeat (first | refine blk_drewN ?_ _ | refine blk_drew ?_ | refine blk_alloc ?_ _)); refine blk_put (cs := #[.int .i64 tG, .int .i64 (wrap64 (tB + 1)), .int .i64 0, .int .i64 0]) ?_ 2 _ rfl; (with_reducible repeat (first | refine blk_drewN ?_ _ | refine blk_drew ?_ | refine blk_alloc ?_ _)); refine blk_put (cs := #[.int .i64 tG, .int .i64 0, .int .i64 0, .int .i64 0]) ?_ 1 _ rfl; (with_reducible repeat (first | refine blk_drewN ?_ _ | refine blk_drew ?_ | refine blk_alloc ?_ _)); refine blk_put (cs := #[.int .i64 0, .int .i64 0, .int .i64 0, .int .i64 0]) ?_ 0 _ rfl; (with_reducible repeat (first | refine blk_drewN ?_ _ | refine blk_drew ?_ | refine blk_alloc ?_ _)); exact BKb.out) hu52 rfl (by kernel_rfl)) rfl ?_
              exact ⟨rfl, by repeat (first | (with_reducible first | exact HB.out | apply below_alloc | apply pw_below_drewN | apply below_drew1 | refine below_set ?_ GE.out) | exact HB.out)⟩
            · obtain rfl : s = false := by cases s; rfl; exact absurd rfl hst
              rw [if_neg (by decide)] at h4
              simp only [Option.some.injEq, Prod.mk.injEq] at h4
              obtain ⟨rfl, rfl, rfl, rfl, rfl⟩ := h4
              go_enter Try.func30, Try.ntmps30
              go_wp2_with (first
                | ((with_reducible refine gate_dst (N := 2) rfl ?_); refine box_event ?hg (N := 2) ?hd (cs := #[.int .i64 0, .int .i64 0, .int .i64 0, .int .i64 0]) (t := 52) ?hr ?_; (case hd => rfl); (case hg => rfl); (case hr => first | (go_simp; done) | (go_simp; rfl)); intro gb hg w1 hbox hb; have n0_ := Aside0.mk (below_step (w2 := w1) (by repeat (first | (with_reducible first | exact HB.out | apply below_alloc | apply pw_below_drewN | apply below_drew1) | exact HB.out)) hb); have BKb := Aside0.mk hbox; have GE := Aside0.mk (show w.heap.size ≤ gb by rw [hg]; exact Nat.le_refl _); clear HB; have HB := n0_; clear n0_ hb hbox hg; have hcb0 : w1.cell? ⟨gb, 0, none⟩ = some (.int .i64 0) := (blk_cell BKb.out 0).trans rfl; have hfb0 := blk_frozen BKb.out 0; have hcb1 : w1.cell? ⟨gb, 1, none⟩ = some (.int .i64 0) := (blk_cell BKb.out 1).trans rfl; have hfb1 := blk_frozen BKb.out 1; have hcb2 : w1.cell? ⟨gb, 2, none⟩ = some (.int .i64 0) := (blk_cell BKb.out 2).trans rfl; have hfb2 := blk_frozen BKb.out 2; have hcb3 : w1.cell? ⟨gb, 3, none⟩ = some (.int .i64 0) := (blk_cell BKb.out 3).trans rfl; have hfb3 := blk_frozen BKb.out 3; obtain ⟨ii, hii, _, hsz, _⟩ := info_parts info5; obtain ⟨hcut, hA, hC⟩ := print_take_of (P := Try.prog) (Value.int .u8) 0 26 5 .i64 Try.underlying26 hii hsz A0 c0 l0 4 (by omega) (of_decide_eq_true h4b) HC0.out; have HR4 := Aside0.mk (Kd.C_of_reads (h1 := fun _ => rfl) (hA _ (Kd.reads_of_C HR0.out))); clear hA hC hii hsz; have hcv := Kd.C_string (P := Try.prog) (A := A0) (c := c0) Try.underlying26 Try.underlying5 Try.underlying9 (Kd.C_below HR4.out HB.out); have hcvs := hcv; simp only [Int.reduceToNat, List.length_take] at hcvs)
                | (go_at_call 54; clear hcb0 hfb0 hcb1 hfb1 hcb2 hfb2 hcb3 hfb3; refine (word_Sealed.calls k A0 c0 l0 true _ (Kd.C_below HR0.out (by repeat (first | exact HB.out | apply pw_below_drewN | apply below_drew1))) HC0.out HSE.out).mono ?_; rintro e w2 ⟨rfl, hb⟩; have n0_ := Aside0.mk (blk_below (w1 := w2) (by (with_reducible repeat (first | refine blk_drewN ?_ _ | refine blk_drew ?_ | refine blk_alloc ?_ _)); exact BKb.out) hb); clear BKb; have BKb := n0_; clear n0_; have n0_ := Aside0.mk (below_step (w2 := w2) (by repeat (first | (with_reducible first | exact HB.out | apply below_alloc | apply pw_below_drewN | apply below_drew1) | exact HB.out)) hb); clear HB; have HB := n0_; clear n0_; clear hb HSE hcv hcvs; have hcb0 : w2.cell? ⟨gb, 0, none⟩ = some (.int .i64 0) := (blk_cell BKb.out 0).trans rfl; have hfb0 := blk_frozen BKb.out 0; have hcb1 : w2.cell? ⟨gb, 1, none⟩ = some (.int .i64 0) := (blk_cell BKb.out 1).trans rfl; have hfb1 := blk_frozen BKb.out 1; have hcb2 : w2.cell? ⟨gb, 2, none⟩ = some (.int .i64 0) := (blk_cell BKb.out 2).trans rfl; have hfb2 := blk_frozen BKb.out 2; have hcb3 : w2.cell? ⟨gb, 3, none⟩ = some (.int .i64 0) := (blk_cell BKb.out 3).trans rfl; have hfb3 := blk_frozen BKb.out 3)
                | (go_at_call 43; clear hcb0 hfb0 hcb1 hfb1 hcb2 hfb2 hcb3 hfb3; refine (Rd.Over_call A0 c0 l0 _ (Kd.C_below HR0.out (by repeat (first | exact HB.out | apply pw_below_drewN | apply below_drew1))) (by have := HLEN.out; omega)).mono ?_; rintro e w3 ⟨wi, g, rfl, hI, hb1, hs1, hg, _⟩; have HI2 := Aside0.mk hI; have n0_ := Aside0.mk (below_then (w2 := wi) (by repeat (first | exact HB.out | apply pw_below_drewN | apply below_drew1)) (Nat.le_trans GE.out (Nat.le_of_lt (blk_lt BKb.out))) hb1); have n1_ := Aside0.mk (blk_below (w1 := wi) (by (with_reducible repeat (first | refine blk_drewN ?_ _ | refine blk_drew ?_)); exact BKb.out) hb1); clear HB BKb; have HB := n0_; have BKi := n1_; clear hI hb1 hs1 hg n0_ n1_)
                | (have n_ := HS4.out; clear n_; go_at_call 55; refine (Rd.Skip_ok wi g l0 0 4 _ (by repeat (first | (with_reducible exact HI2.out) | (with_reducible refine Rd.IsRd.drewN_ ?_ _) | (with_reducible refine Rd.IsRd.drew_ ?_) | refine Rd.IsRd.set_ ?_ _ _ _ (Nat.le_trans HI2.out.le_ (Nat.le_of_lt GG.out)) (Nat.ne_of_gt GG.out))) (by have := HLEN.out; omega) (by omega) (by omega) (by have := HLEN.out; omega)).mono ?_; rintro e w4 ⟨rfl, hI, _⟩; rw [HS4.out] at hI; clear HS4; have HI3 := Aside0.mk hI; clear hI)
                | (have n_ := HT4.out; clear n_; go_at_call 44; refine (Rd.Take_ok wi g l0 4 1 _ (by repeat (first | (with_reducible exact HI3.out) | (with_reducible refine Rd.IsRd.drewN_ ?_ _) | (with_reducible refine Rd.IsRd.drew_ ?_) | refine Rd.IsRd.set_ ?_ _ _ _ (Nat.le_trans HI2.out.le_ (Nat.le_of_lt GG.out)) (Nat.ne_of_gt GG.out))) (by have := HLEN.out; omega) HWF.out (by omega) (by omega) (by omega) (by have := HLEN.out; omega)).mono ?_; rintro e w5 ⟨he, hI, _⟩; rw [HT4.out] at hI; rw [HG.out] at he; subst he; clear HT4; have HI4 := Aside0.mk hI; clear hI)
                | (have n_ := HT5.out; clear n_; go_at_call 44; refine (Rd.Take_ok wi g l0 5 1 _ (by repeat (first | (with_reducible exact HI4.out) | (with_reducible refine Rd.IsRd.drewN_ ?_ _) | (with_reducible refine Rd.IsRd.drew_ ?_) | refine Rd.IsRd.set_ ?_ _ _ _ (Nat.le_trans HI2.out.le_ (Nat.le_of_lt GG.out)) (Nat.ne_of_gt GG.out))) (by have := HLEN.out; omega) HWF.out (by omega) (by omega) (by omega) (by have := HLEN.out; omega)).mono ?_; rintro e w6 ⟨he, hI, _⟩; rw [HT5.out] at hI; rw [HBL.out] at he; subst he; clear HT5; have HI5 := Aside0.mk hI; clear hI)
                | (have n_ := HT6.out; clear n_; go_at_call 44; refine (Rd.Take_ok wi g l0 6 1 _ (by repeat (first | (with_reducible exact HI5.out) | (with_reducible refine Rd.IsRd.drewN_ ?_ _) | (with_reducible refine Rd.IsRd.drew_ ?_) | refine Rd.IsRd.set_ ?_ _ _ _ (Nat.le_trans HI2.out.le_ (Nat.le_of_lt GG.out)) (Nat.ne_of_gt GG.out))) (by have := HLEN.out; omega) HWF.out (by omega) (by omega) (by omega) (by have := HLEN.out; omega)).mono ?_; rintro e w7 ⟨he, hI, _⟩; rw [HT6.out] at hI; rw [HIN.out] at he; subst he; clear HT6; have HI6 := Aside0.mk hI; clear hI)
                | ((with_reducible refine gate_dst (N := 5) rfl ?_); refine box_event ?hg (N := 5) ?hd (cs := #[.int .i64 0, .int .i64 0, .int .i64 0, .int .i64 0]) (t := 52) ?hr ?_; (case hd => rfl); (case hg => rfl); (case hr => first | (go_simp; done) | (go_simp; rfl)); intro ge hge w8 hbox hb; have GG := Aside0.mk (show g < ge by rw [hge]; exact HI6.out.lt); have HI7 := Aside0.mk (Rd.IsRd.below (W1 := w8) (by repeat (first | exact HI6.out | refine Rd.IsRd.drewN_ ?_ _ | refine Rd.IsRd.drew_ ?_)) hb); have BKe := Aside0.mk hbox; clear hb hbox hge; have hce0 : w8.cell? ⟨ge, 0, none⟩ = some (.int .i64 0) := (blk_cell BKe.out 0).trans rfl; have hfe0 := blk_frozen BKe.out 0; have hce1 : w8.cell? ⟨ge, 1, none⟩ = some (.int .i64 0) := (blk_cell BKe.out 1).trans rfl; have hfe1 := blk_frozen BKe.out 1; have hce2 : w8.cell? ⟨ge, 2, none⟩ = some (.int .i64 0) := (blk_cell BKe.out 2).trans rfl; have hfe2 := blk_frozen BKe.out 2; have hce3 : w8.cell? ⟨ge, 3, none⟩ = some (.int .i64 0) := (blk_cell BKe.out 3).trans rfl; have hfe3 := blk_frozen BKe.out 3)
                | (have n_ := HS7.out; clear n_; go_at_call 55; clear hce0 hfe0 hce1 hfe1 hce2 hfe2 hce3 hfe3; refine (Rd.Skip_blk wi g l0 7 1 _ ge (.cells #[.int .i64 tG, .int .i64 (wrap64 (tB + 1)), .int .i64 tI, .int .i64 0] 52 (0, 0)) (by repeat (first | (with_reducible exact HI7.out) | (with_reducible refine Rd.IsRd.drewN_ ?_ _) | (with_reducible refine Rd.IsRd.drew_ ?_) | refine Rd.IsRd.set_ ?_ _ _ _ (Nat.le_trans HI2.out.le_ (Nat.le_of_lt GG.out)) (Nat.ne_of_gt GG.out))) (by have := HLEN.out; omega) (by omega) (by omega) (by have := HLEN.out; omega) (by (with_reducible repeat (first | refine blk_drewN ?_ _ | refine blk_drew ?_ | refine blk_alloc ?_ _)); refine blk_put (cs := #[.int .i64 tG, .int .i64 (wrap64 (tB + 1)), .int .i64 tI, .int .i64 0]) ?_ 3 _ rfl; (with_reducible repeat (first | refine blk_drewN ?_ _ | refine blk_drew ?_ | refine blk_alloc ?_ _)); refine blk_put (cs := #[.int .i64 tG, .int .i64 (wrap64 (tB + 1)), .int .i64 0, .int .i64 0]) ?_ 2 _ rfl; (with_reducible repeat (first | refine blk_drewN ?_ _ | refine blk_drew ?_ | refine blk_alloc ?_ _)); refine blk_put (cs := #[.int .i64 tG, .int .i64 0, .int .i64 0, .int .i64 0]) ?_ 1 _ rfl; (with_reducible repeat (first | refine blk_drewN ?_ _ | refine blk_drew ?_ | refine blk_alloc ?_ _)); refine blk_put (cs := #[.int .i64 0, .int .i64 0, .int .i64 0, .int .i64 0]) ?_ 0 _ rfl; (with_reducible repeat (first | refine blk_drewN ?_ _ | refine blk_drew ?_ | refine blk_alloc ?_ _)); exact BKe.out) (Nat.ne_of_gt GG.out)).mono ?_; rintro e w9 ⟨rfl, hI, hb⟩; rw [HS7.out] at hI; clear HS7; have HI8 := Aside0.mk hI; clear BKe; have BKe := Aside0.mk hb; clear hI hb)
                | (have n_ := HT8.out; clear n_; go_at_call 44; refine (Rd.Take_blk wi g l0 8 4 _ ge (.cells #[.int .i64 tG, .int .i64 (wrap64 (tB + 1)), .int .i64 tI, .int .i64 0] 52 (0, 0)) (by repeat (first | (with_reducible exact HI8.out) | (with_reducible refine Rd.IsRd.drewN_ ?_ _) | (with_reducible refine Rd.IsRd.drew_ ?_) | refine Rd.IsRd.set_ ?_ _ _ _ (Nat.le_trans HI2.out.le_ (Nat.le_of_lt GG.out)) (Nat.ne_of_gt GG.out))) (by have := HLEN.out; omega) HWF.out (by omega) (by omega) (by omega) (by have := HLEN.out; omega) (by (with_reducible repeat (first | refine blk_drewN ?_ _ | refine blk_drew ?_ | refine blk_alloc ?_ _)); exact BKe.out) (Nat.ne_of_gt GG.out)).mono ?_; rintro e w10 ⟨he, hI, hb⟩; rw [HT8.out] at hI; rw [HM.out] at he; subst he; clear HT8; have HI9 := Aside0.mk hI; clear BKe; have BKe := Aside0.mk hb; clear hI hb; have hce0 : w10.cell? ⟨ge, 0, none⟩ = some (.int .i64 tG) := (blk_cell BKe.out 0).trans rfl; have hfe0 := blk_frozen BKe.out 0; have hce1 : w10.cell? ⟨ge, 1, none⟩ = some (.int .i64 (wrap64 (tB + 1))) := (blk_cell BKe.out 1).trans rfl; have hfe1 := blk_frozen BKe.out 1; have hce2 : w10.cell? ⟨ge, 2, none⟩ = some (.int .i64 tI) := (blk_cell BKe.out 2).trans rfl; have hfe2 := blk_frozen BKe.out 2; have hce3 : w10.cell? ⟨ge, 3, none⟩ = some (.int .i64 0) := (blk_cell BKe.out 3).trans rfl; have hfe3 := blk_frozen BKe.out 3)
                | (go_at_call 28; clear hce0 hfe0 hce1 hfe1 hce2 hfe2 hce3 hfe3; refine (layout_EncodeSuper.calls k tG (wrap64 (tB + 1)) tI tM q1 q2 _ HQ.out).mono ?_; rintro e w11 ⟨v0, rfl, hr, hb⟩; have HR7 := Aside0.mk hr; have HI10 := Aside0.mk (Rd.IsRd.below (w0 := wi) (g := g) (l := l0) (p := 12) (e := 0) (W1 := w11) (by repeat (first | (with_reducible exact HI9.out) | (with_reducible refine Rd.IsRd.drewN_ ?_ _) | (with_reducible refine Rd.IsRd.drew_ ?_) | refine Rd.IsRd.set_ ?_ _ _ _ (Nat.le_trans HI2.out.le_ (Nat.le_of_lt GG.out)) (Nat.ne_of_gt GG.out))) hb); have n0_ := Aside0.mk (blk_below (w1 := w11) (o := .cells #[.int .i64 tG, .int .i64 (wrap64 (tB + 1)), .int .i64 tI, .int .i64 tM] 52 (0, 0)) (by (with_reducible repeat (first | refine blk_drewN ?_ _ | refine blk_drew ?_ | refine blk_alloc ?_ _)); refine blk_put (cs := #[.int .i64 tG, .int .i64 (wrap64 (tB + 1)), .int .i64 tI, .int .i64 0]) ?_ 3 _ rfl; (with_reducible repeat (first | refine blk_drewN ?_ _ | refine blk_drew ?_ | refine blk_alloc ?_ _)); exact BKe.out) hb); clear BKe; have BKe := n0_; clear n0_; clear hr hb; obtain ⟨A7, c7, e7⟩ := Kd.R_slice HR7.out; subst e7; have BKb := Aside0.mk (HI10.out.old BKi.out); have n0_ := Aside0.mk (below_then (w2 := w11) HB.out (Nat.le_trans GE.out (Nat.le_of_lt (blk_lt BKi.out))) HI10.out.bel); clear HB; have HB := n0_; clear n0_; have hce0 : w11.cell? ⟨ge, 0, none⟩ = some (.int .i64 tG) := (blk_cell BKe.out 0).trans rfl; have hfe0 := blk_frozen BKe.out 0; have hce1 : w11.cell? ⟨ge, 1, none⟩ = some (.int .i64 (wrap64 (tB + 1))) := (blk_cell BKe.out 1).trans rfl; have hfe1 := blk_frozen BKe.out 1; have hce2 : w11.cell? ⟨ge, 2, none⟩ = some (.int .i64 tI) := (blk_cell BKe.out 2).trans rfl; have hfe2 := blk_frozen BKe.out 2; have hce3 : w11.cell? ⟨ge, 3, none⟩ = some (.int .i64 tM) := (blk_cell BKe.out 3).trans rfl; have hfe3 := blk_frozen BKe.out 3; have hcb0 : w11.cell? ⟨gb, 0, none⟩ = some (.int .i64 0) := (blk_cell BKb.out 0).trans rfl; have hfb0 := blk_frozen BKb.out 0; have hcb1 : w11.cell? ⟨gb, 1, none⟩ = some (.int .i64 0) := (blk_cell BKb.out 1).trans rfl; have hfb1 := blk_frozen BKb.out 1; have hcb2 : w11.cell? ⟨gb, 2, none⟩ = some (.int .i64 0) := (blk_cell BKb.out 2).trans rfl; have hfb2 := blk_frozen BKb.out 2; have hcb3 : w11.cell? ⟨gb, 3, none⟩ = some (.int .i64 0) := (blk_cell BKb.out 3).trans rfl; have hfb3 := blk_frozen BKb.out 3)
                | (go_at_call 38; refine (layout_same.calls A7 c7 q1 A0 c0 l0 false _ (by repeat (first | exact (Kd.R_reads' HR7.out).2.2 | refine Kd.C_drewN ?_ _ | refine Kd.C_drew ?_)) (Kd.R_reads' HR7.out).2.1 (by repeat (first | exact Kd.C_below HR0.out HB.out | refine Kd.C_drewN ?_ _ | refine Kd.C_drew ?_)) HC0.out HS.out).mono ?_; rintro e w12 ⟨rfl, m9, rfl⟩))
              refine bodyPost_ret (results_ct rfl _ _ gb 52 #[.int .i64 0, .int .i64 0, .int .i64 0, .int .i64 0] (0, 0) _ rfl (by (with_reducible repeat (first | refine blk_drewN ?_ _ | refine blk_drew ?_ | refine blk_alloc ?_ _)); refine blk_put (cs := #[.int .i64 0, .int .i64 0, .int .i64 0, .int .i64 0]) ?_ 3 _ rfl; (with_reducible repeat (first | refine blk_drewN ?_ _ | refine blk_drew ?_ | refine blk_alloc ?_ _)); refine blk_put (cs := #[.int .i64 0, .int .i64 0, .int .i64 0, .int .i64 0]) ?_ 2 _ rfl; (with_reducible repeat (first | refine blk_drewN ?_ _ | refine blk_drew ?_ | refine blk_alloc ?_ _)); refine blk_put (cs := #[.int .i64 0, .int .i64 0, .int .i64 0, .int .i64 0]) ?_ 1 _ rfl; (with_reducible repeat (first | refine blk_drewN ?_ _ | refine blk_drew ?_ | refine blk_alloc ?_ _)); refine blk_put (cs := #[.int .i64 0, .int .i64 0, .int .i64 0, .int .i64 0]) ?_ 0 _ rfl; (with_reducible repeat (first | refine blk_drewN ?_ _ | refine blk_drew ?_ | refine blk_alloc ?_ _)); exact BKb.out) hu52 rfl (by kernel_rfl)) rfl ?_
              exact ⟨rfl, by repeat (first | (with_reducible first | exact HB.out | apply below_alloc | apply pw_below_drewN | apply below_drew1 | refine below_set ?_ GE.out) | exact HB.out)⟩
          · rw [if_neg hq2] at h3
            have hqb : (q2 == 0) = false := beq_eq_false_iff_ne.mpr hq2
            have hqc : (q2 != 0) = true := bne_iff_ne.mpr hq2
            clear hq2
            simp only [Option.some.injEq, Prod.mk.injEq] at h3
            obtain ⟨rfl, rfl, rfl, rfl, rfl⟩ := h3
            go_enter Try.func30, Try.ntmps30
            go_wp2_with (first
              | ((with_reducible refine gate_dst (N := 2) rfl ?_); refine box_event ?hg (N := 2) ?hd (cs := #[.int .i64 0, .int .i64 0, .int .i64 0, .int .i64 0]) (t := 52) ?hr ?_; (case hd => rfl); (case hg => rfl); (case hr => first | (go_simp; done) | (go_simp; rfl)); intro gb hg w1 hbox hb; have n0_ := Aside0.mk (below_step (w2 := w1) (by repeat (first | (with_reducible first | exact HB.out | apply below_alloc | apply pw_below_drewN | apply below_drew1) | exact HB.out)) hb); have BKb := Aside0.mk hbox; have GE := Aside0.mk (show w.heap.size ≤ gb by rw [hg]; exact Nat.le_refl _); clear HB; have HB := n0_; clear n0_ hb hbox hg; have hcb0 : w1.cell? ⟨gb, 0, none⟩ = some (.int .i64 0) := (blk_cell BKb.out 0).trans rfl; have hfb0 := blk_frozen BKb.out 0; have hcb1 : w1.cell? ⟨gb, 1, none⟩ = some (.int .i64 0) := (blk_cell BKb.out 1).trans rfl; have hfb1 := blk_frozen BKb.out 1; have hcb2 : w1.cell? ⟨gb, 2, none⟩ = some (.int .i64 0) := (blk_cell BKb.out 2).trans rfl; have hfb2 := blk_frozen BKb.out 2; have hcb3 : w1.cell? ⟨gb, 3, none⟩ = some (.int .i64 0) := (blk_cell BKb.out 3).trans rfl; have hfb3 := blk_frozen BKb.out 3; obtain ⟨ii, hii, _, hsz, _⟩ := info_parts info5; obtain ⟨hcut, hA, hC⟩ := print_take_of (P := Try.prog) (Value.int .u8) 0 26 5 .i64 Try.underlying26 hii hsz A0 c0 l0 4 (by omega) (of_decide_eq_true h4b) HC0.out; have HR4 := Aside0.mk (Kd.C_of_reads (h1 := fun _ => rfl) (hA _ (Kd.reads_of_C HR0.out))); clear hA hC hii hsz; have hcv := Kd.C_string (P := Try.prog) (A := A0) (c := c0) Try.underlying26 Try.underlying5 Try.underlying9 (Kd.C_below HR4.out HB.out); have hcvs := hcv; simp only [Int.reduceToNat, List.length_take] at hcvs)
              | (go_at_call 54; clear hcb0 hfb0 hcb1 hfb1 hcb2 hfb2 hcb3 hfb3; refine (word_Sealed.calls k A0 c0 l0 true _ (Kd.C_below HR0.out (by repeat (first | exact HB.out | apply pw_below_drewN | apply below_drew1))) HC0.out HSE.out).mono ?_; rintro e w2 ⟨rfl, hb⟩; have n0_ := Aside0.mk (blk_below (w1 := w2) (by (with_reducible repeat (first | refine blk_drewN ?_ _ | refine blk_drew ?_ | refine blk_alloc ?_ _)); exact BKb.out) hb); clear BKb; have BKb := n0_; clear n0_; have n0_ := Aside0.mk (below_step (w2 := w2) (by repeat (first | (with_reducible first | exact HB.out | apply below_alloc | apply pw_below_drewN | apply below_drew1) | exact HB.out)) hb); clear HB; have HB := n0_; clear n0_; clear hb HSE hcv hcvs; have hcb0 : w2.cell? ⟨gb, 0, none⟩ = some (.int .i64 0) := (blk_cell BKb.out 0).trans rfl; have hfb0 := blk_frozen BKb.out 0; have hcb1 : w2.cell? ⟨gb, 1, none⟩ = some (.int .i64 0) := (blk_cell BKb.out 1).trans rfl; have hfb1 := blk_frozen BKb.out 1; have hcb2 : w2.cell? ⟨gb, 2, none⟩ = some (.int .i64 0) := (blk_cell BKb.out 2).trans rfl; have hfb2 := blk_frozen BKb.out 2; have hcb3 : w2.cell? ⟨gb, 3, none⟩ = some (.int .i64 0) := (blk_cell BKb.out 3).trans rfl; have hfb3 := blk_frozen BKb.out 3)
              | (go_at_call 43; clear hcb0 hfb0 hcb1 hfb1 hcb2 hfb2 hcb3 hfb3; refine (Rd.Over_call A0 c0 l0 _ (Kd.C_below HR0.out (by repeat (first | exact HB.out | apply pw_below_drewN | apply below_drew1))) (by have := HLEN.out; omega)).mono ?_; rintro e w3 ⟨wi, g, rfl, hI, hb1, hs1, hg, _⟩; have HI2 := Aside0.mk hI; have n0_ := Aside0.mk (below_then (w2 := wi) (by repeat (first | exact HB.out | apply pw_below_drewN | apply below_drew1)) (Nat.le_trans GE.out (Nat.le_of_lt (blk_lt BKb.out))) hb1); have n1_ := Aside0.mk (blk_below (w1 := wi) (by (with_reducible repeat (first | refine blk_drewN ?_ _ | refine blk_drew ?_)); exact BKb.out) hb1); clear HB BKb; have HB := n0_; have BKi := n1_; clear hI hb1 hs1 hg n0_ n1_)
              | (have n_ := HS4.out; clear n_; go_at_call 55; refine (Rd.Skip_ok wi g l0 0 4 _ (by repeat (first | (with_reducible exact HI2.out) | (with_reducible refine Rd.IsRd.drewN_ ?_ _) | (with_reducible refine Rd.IsRd.drew_ ?_) | refine Rd.IsRd.set_ ?_ _ _ _ (Nat.le_trans HI2.out.le_ (Nat.le_of_lt GG.out)) (Nat.ne_of_gt GG.out))) (by have := HLEN.out; omega) (by omega) (by omega) (by have := HLEN.out; omega)).mono ?_; rintro e w4 ⟨rfl, hI, _⟩; rw [HS4.out] at hI; clear HS4; have HI3 := Aside0.mk hI; clear hI)
              | (have n_ := HT4.out; clear n_; go_at_call 44; refine (Rd.Take_ok wi g l0 4 1 _ (by repeat (first | (with_reducible exact HI3.out) | (with_reducible refine Rd.IsRd.drewN_ ?_ _) | (with_reducible refine Rd.IsRd.drew_ ?_) | refine Rd.IsRd.set_ ?_ _ _ _ (Nat.le_trans HI2.out.le_ (Nat.le_of_lt GG.out)) (Nat.ne_of_gt GG.out))) (by have := HLEN.out; omega) HWF.out (by omega) (by omega) (by omega) (by have := HLEN.out; omega)).mono ?_; rintro e w5 ⟨he, hI, _⟩; rw [HT4.out] at hI; rw [HG.out] at he; subst he; clear HT4; have HI4 := Aside0.mk hI; clear hI)
              | (have n_ := HT5.out; clear n_; go_at_call 44; refine (Rd.Take_ok wi g l0 5 1 _ (by repeat (first | (with_reducible exact HI4.out) | (with_reducible refine Rd.IsRd.drewN_ ?_ _) | (with_reducible refine Rd.IsRd.drew_ ?_) | refine Rd.IsRd.set_ ?_ _ _ _ (Nat.le_trans HI2.out.le_ (Nat.le_of_lt GG.out)) (Nat.ne_of_gt GG.out))) (by have := HLEN.out; omega) HWF.out (by omega) (by omega) (by omega) (by have := HLEN.out; omega)).mono ?_; rintro e w6 ⟨he, hI, _⟩; rw [HT5.out] at hI; rw [HBL.out] at he; subst he; clear HT5; have HI5 := Aside0.mk hI; clear hI)
              | (have n_ := HT6.out; clear n_; go_at_call 44; refine (Rd.Take_ok wi g l0 6 1 _ (by repeat (first | (with_reducible exact HI5.out) | (with_reducible refine Rd.IsRd.drewN_ ?_ _) | (with_reducible refine Rd.IsRd.drew_ ?_) | refine Rd.IsRd.set_ ?_ _ _ _ (Nat.le_trans HI2.out.le_ (Nat.le_of_lt GG.out)) (Nat.ne_of_gt GG.out))) (by have := HLEN.out; omega) HWF.out (by omega) (by omega) (by omega) (by have := HLEN.out; omega)).mono ?_; rintro e w7 ⟨he, hI, _⟩; rw [HT6.out] at hI; rw [HIN.out] at he; subst he; clear HT6; have HI6 := Aside0.mk hI; clear hI)
              | ((with_reducible refine gate_dst (N := 5) rfl ?_); refine box_event ?hg (N := 5) ?hd (cs := #[.int .i64 0, .int .i64 0, .int .i64 0, .int .i64 0]) (t := 52) ?hr ?_; (case hd => rfl); (case hg => rfl); (case hr => first | (go_simp; done) | (go_simp; rfl)); intro ge hge w8 hbox hb; have GG := Aside0.mk (show g < ge by rw [hge]; exact HI6.out.lt); have HI7 := Aside0.mk (Rd.IsRd.below (W1 := w8) (by repeat (first | exact HI6.out | refine Rd.IsRd.drewN_ ?_ _ | refine Rd.IsRd.drew_ ?_)) hb); have BKe := Aside0.mk hbox; clear hb hbox hge; have hce0 : w8.cell? ⟨ge, 0, none⟩ = some (.int .i64 0) := (blk_cell BKe.out 0).trans rfl; have hfe0 := blk_frozen BKe.out 0; have hce1 : w8.cell? ⟨ge, 1, none⟩ = some (.int .i64 0) := (blk_cell BKe.out 1).trans rfl; have hfe1 := blk_frozen BKe.out 1; have hce2 : w8.cell? ⟨ge, 2, none⟩ = some (.int .i64 0) := (blk_cell BKe.out 2).trans rfl; have hfe2 := blk_frozen BKe.out 2; have hce3 : w8.cell? ⟨ge, 3, none⟩ = some (.int .i64 0) := (blk_cell BKe.out 3).trans rfl; have hfe3 := blk_frozen BKe.out 3)
              | (have n_ := HS7.out; clear n_; go_at_call 55; clear hce0 hfe0 hce1 hfe1 hce2 hfe2 hce3 hfe3; refine (Rd.Skip_blk wi g l0 7 1 _ ge (.cells #[.int .i64 tG, .int .i64 (wrap64 (tB + 1)), .int .i64 tI, .int .i64 0] 52 (0, 0)) (by repeat (first | (with_reducible exact HI7.out) | (with_reducible refine Rd.IsRd.drewN_ ?_ _) | (with_reducible refine Rd.IsRd.drew_ ?_) | refine Rd.IsRd.set_ ?_ _ _ _ (Nat.le_trans HI2.out.le_ (Nat.le_of_lt GG.out)) (Nat.ne_of_gt GG.out))) (by have := HLEN.out; omega) (by omega) (by omega) (by have := HLEN.out; omega) (by (with_reducible repeat (first | refine blk_drewN ?_ _ | refine blk_drew ?_ | refine blk_alloc ?_ _)); refine blk_put (cs := #[.int .i64 tG, .int .i64 (wrap64 (tB + 1)), .int .i64 tI, .int .i64 0]) ?_ 3 _ rfl; (with_reducible repeat (first | refine blk_drewN ?_ _ | refine blk_drew ?_ | refine blk_alloc ?_ _)); refine blk_put (cs := #[.int .i64 tG, .int .i64 (wrap64 (tB + 1)), .int .i64 0, .int .i64 0]) ?_ 2 _ rfl; (with_reducible repeat (first | refine blk_drewN ?_ _ | refine blk_drew ?_ | refine blk_alloc ?_ _)); refine blk_put (cs := #[.int .i64 tG, .int .i64 0, .int .i64 0, .int .i64 0]) ?_ 1 _ rfl; (with_reducible repeat (first | refine blk_drewN ?_ _ | refine blk_drew ?_ | refine blk_alloc ?_ _)); refine blk_put (cs := #[.int .i64 0, .int .i64 0, .int .i64 0, .int .i64 0]) ?_ 0 _ rfl; (with_reducible repeat (first | refine blk_drewN ?_ _ | refine blk_drew ?_ | refine blk_alloc ?_ _)); exact BKe.out) (Nat.ne_of_gt GG.out)).mono ?_; rintro e w9 ⟨rfl, hI, hb⟩; rw [HS7.out] at hI; clear HS7; have HI8 := Aside0.mk hI; clear BKe; have BKe := Aside0.mk hb; clear hI hb)
              | (have n_ := HT8.out; clear n_; go_at_call 44; refine (Rd.Take_blk wi g l0 8 4 _ ge (.cells #[.int .i64 tG, .int .i64 (wrap64 (tB + 1)), .int .i64 tI, .int .i64 0] 52 (0, 0)) (by repeat (first | (with_reducible exact HI8.out) | (with_reducible refine Rd.IsRd.drewN_ ?_ _) | (with_reducible refine Rd.IsRd.drew_ ?_) | refine Rd.IsRd.set_ ?_ _ _ _ (Nat.le_trans HI2.out.le_ (Nat.le_of_lt GG.out)) (Nat.ne_of_gt GG.out))) (by have := HLEN.out; omega) HWF.out (by omega) (by omega) (by omega) (by have := HLEN.out; omega) (by (with_reducible repeat (first | refine blk_drewN ?_ _ | refine blk_drew ?_ | refine blk_alloc ?_ _)); exact BKe.out) (Nat.ne_of_gt GG.out)).mono ?_; rintro e w10 ⟨he, hI, hb⟩; rw [HT8.out] at hI; rw [HM.out] at he; subst he; clear HT8; have HI9 := Aside0.mk hI; clear BKe; have BKe := Aside0.mk hb; clear hI hb; have hce0 : w10.cell? ⟨ge, 0, none⟩ = some (.int .i64 tG) := (blk_cell BKe.out 0).trans rfl; have hfe0 := blk_frozen BKe.out 0; have hce1 : w10.cell? ⟨ge, 1, none⟩ = some (.int .i64 (wrap64 (tB + 1))) := (blk_cell BKe.out 1).trans rfl; have hfe1 := blk_frozen BKe.out 1; have hce2 : w10.cell? ⟨ge, 2, none⟩ = some (.int .i64 tI) := (blk_cell BKe.out 2).trans rfl; have hfe2 := blk_frozen BKe.out 2; have hce3 : w10.cell? ⟨ge, 3, none⟩ = some (.int .i64 0) := (blk_cell BKe.out 3).trans rfl; have hfe3 := blk_frozen BKe.out 3)
              | (go_at_call 28; clear hce0 hfe0 hce1 hfe1 hce2 hfe2 hce3 hfe3; refine (layout_EncodeSuper.calls k tG (wrap64 (tB + 1)) tI tM q1 q2 _ HQ.out).mono ?_; rintro e w11 ⟨v0, rfl, hr, hb⟩; have HR7 := Aside0.mk hr; have HI10 := Aside0.mk (Rd.IsRd.below (w0 := wi) (g := g) (l := l0) (p := 12) (e := 0) (W1 := w11) (by repeat (first | (with_reducible exact HI9.out) | (with_reducible refine Rd.IsRd.drewN_ ?_ _) | (with_reducible refine Rd.IsRd.drew_ ?_) | refine Rd.IsRd.set_ ?_ _ _ _ (Nat.le_trans HI2.out.le_ (Nat.le_of_lt GG.out)) (Nat.ne_of_gt GG.out))) hb); have n0_ := Aside0.mk (blk_below (w1 := w11) (o := .cells #[.int .i64 tG, .int .i64 (wrap64 (tB + 1)), .int .i64 tI, .int .i64 tM] 52 (0, 0)) (by (with_reducible repeat (first | refine blk_drewN ?_ _ | refine blk_drew ?_ | refine blk_alloc ?_ _)); refine blk_put (cs := #[.int .i64 tG, .int .i64 (wrap64 (tB + 1)), .int .i64 tI, .int .i64 0]) ?_ 3 _ rfl; (with_reducible repeat (first | refine blk_drewN ?_ _ | refine blk_drew ?_ | refine blk_alloc ?_ _)); exact BKe.out) hb); clear BKe; have BKe := n0_; clear n0_; clear hr hb; obtain ⟨A7, c7, e7⟩ := Kd.R_slice HR7.out; subst e7; have BKb := Aside0.mk (HI10.out.old BKi.out); have n0_ := Aside0.mk (below_then (w2 := w11) HB.out (Nat.le_trans GE.out (Nat.le_of_lt (blk_lt BKi.out))) HI10.out.bel); clear HB; have HB := n0_; clear n0_; have hce0 : w11.cell? ⟨ge, 0, none⟩ = some (.int .i64 tG) := (blk_cell BKe.out 0).trans rfl; have hfe0 := blk_frozen BKe.out 0; have hce1 : w11.cell? ⟨ge, 1, none⟩ = some (.int .i64 (wrap64 (tB + 1))) := (blk_cell BKe.out 1).trans rfl; have hfe1 := blk_frozen BKe.out 1; have hce2 : w11.cell? ⟨ge, 2, none⟩ = some (.int .i64 tI) := (blk_cell BKe.out 2).trans rfl; have hfe2 := blk_frozen BKe.out 2; have hce3 : w11.cell? ⟨ge, 3, none⟩ = some (.int .i64 tM) := (blk_cell BKe.out 3).trans rfl; have hfe3 := blk_frozen BKe.out 3; have hcb0 : w11.cell? ⟨gb, 0, none⟩ = some (.int .i64 0) := (blk_cell BKb.out 0).trans rfl; have hfb0 := blk_frozen BKb.out 0; have hcb1 : w11.cell? ⟨gb, 1, none⟩ = some (.int .i64 0) := (blk_cell BKb.out 1).trans rfl; have hfb1 := blk_frozen BKb.out 1; have hcb2 : w11.cell? ⟨gb, 2, none⟩ = some (.int .i64 0) := (blk_cell BKb.out 2).trans rfl; have hfb2 := blk_frozen BKb.out 2; have hcb3 : w11.cell? ⟨gb, 3, none⟩ = some (.int .i64 0) := (blk_cell BKb.out 3).trans rfl; have hfb3 := blk_frozen BKb.out 3))
            refine bodyPost_ret (results_ct rfl _ _ gb 52 #[.int .i64 0, .int .i64 0, .int .i64 0, .int .i64 0] (0, 0) _ rfl (by (with_reducible repeat (first | refine blk_drewN ?_ _ | refine blk_drew ?_ | refine blk_alloc ?_ _)); refine blk_put (cs := #[.int .i64 0, .int .i64 0, .int .i64 0, .int .i64 0]) ?_ 3 _ rfl; (with_reducible repeat (first | refine blk_drewN ?_ _ | refine blk_drew ?_ | refine blk_alloc ?_ _)); refine blk_put (cs := #[.int .i64 0, .int .i64 0, .int .i64 0, .int .i64 0]) ?_ 2 _ rfl; (with_reducible repeat (first | refine blk_drewN ?_ _ | refine blk_drew ?_ | refine blk_alloc ?_ _)); refine blk_put (cs := #[.int .i64 0, .int .i64 0, .int .i64 0, .int .i64 0]) ?_ 1 _ rfl; (with_reducible repeat (first | refine blk_drewN ?_ _ | refine blk_drew ?_ | refine blk_alloc ?_ _)); refine blk_put (cs := #[.int .i64 0, .int .i64 0, .int .i64 0, .int .i64 0]) ?_ 0 _ rfl; (with_reducible repeat (first | refine blk_drewN ?_ _ | refine blk_drew ?_ | refine blk_alloc ?_ _)); exact BKb.out) hu52 rfl (by kernel_rfl)) rfl ?_
            exact ⟨rfl, by repeat (first | (with_reducible first | exact HB.out | apply below_alloc | apply pw_below_drewN | apply below_drew1 | refine below_set ?_ GE.out) | exact HB.out)⟩
        · obtain rfl : t = false := by cases t; rfl; exact absurd rfl htt
          rw [if_neg (by decide)] at h2
          simp only [Option.some.injEq, Prod.mk.injEq] at h2
          obtain ⟨rfl, rfl, rfl, rfl, rfl⟩ := h2
          go_enter Try.func30, Try.ntmps30
          go_wp2_with (first
            | ((with_reducible refine gate_dst (N := 2) rfl ?_); refine box_event ?hg (N := 2) ?hd (cs := #[.int .i64 0, .int .i64 0, .int .i64 0, .int .i64 0]) (t := 52) ?hr ?_; (case hd => rfl); (case hg => rfl); (case hr => first | (go_simp; done) | (go_simp; rfl)); intro gb hg w1 hbox hb; have n0_ := Aside0.mk (below_step (w2 := w1) (by repeat (first | (with_reducible first | exact HB.out | apply below_alloc | apply pw_below_drewN | apply below_drew1) | exact HB.out)) hb); have BKb := Aside0.mk hbox; have GE := Aside0.mk (show w.heap.size ≤ gb by rw [hg]; exact Nat.le_refl _); clear HB; have HB := n0_; clear n0_ hb hbox hg; have hcb0 : w1.cell? ⟨gb, 0, none⟩ = some (.int .i64 0) := (blk_cell BKb.out 0).trans rfl; have hfb0 := blk_frozen BKb.out 0; have hcb1 : w1.cell? ⟨gb, 1, none⟩ = some (.int .i64 0) := (blk_cell BKb.out 1).trans rfl; have hfb1 := blk_frozen BKb.out 1; have hcb2 : w1.cell? ⟨gb, 2, none⟩ = some (.int .i64 0) := (blk_cell BKb.out 2).trans rfl; have hfb2 := blk_frozen BKb.out 2; have hcb3 : w1.cell? ⟨gb, 3, none⟩ = some (.int .i64 0) := (blk_cell BKb.out 3).trans rfl; have hfb3 := blk_frozen BKb.out 3; obtain ⟨ii, hii, _, hsz, _⟩ := info_parts info5; obtain ⟨hcut, hA, hC⟩ := print_take_of (P := Try.prog) (Value.int .u8) 0 26 5 .i64 Try.underlying26 hii hsz A0 c0 l0 4 (by omega) (of_decide_eq_true h4b) HC0.out; have HR4 := Aside0.mk (Kd.C_of_reads (h1 := fun _ => rfl) (hA _ (Kd.reads_of_C HR0.out))); clear hA hC hii hsz; have hcv := Kd.C_string (P := Try.prog) (A := A0) (c := c0) Try.underlying26 Try.underlying5 Try.underlying9 (Kd.C_below HR4.out HB.out); have hcvs := hcv; simp only [Int.reduceToNat, List.length_take] at hcvs)
            | (go_at_call 54; clear hcb0 hfb0 hcb1 hfb1 hcb2 hfb2 hcb3 hfb3; refine (word_Sealed.calls k A0 c0 l0 false _ (Kd.C_below HR0.out (by repeat (first | exact HB.out | apply pw_below_drewN | apply below_drew1))) HC0.out HSE.out).mono ?_; rintro e w2 ⟨rfl, hb⟩; have n0_ := Aside0.mk (blk_below (w1 := w2) (by (with_reducible repeat (first | refine blk_drewN ?_ _ | refine blk_drew ?_ | refine blk_alloc ?_ _)); exact BKb.out) hb); clear BKb; have BKb := n0_; clear n0_; have n0_ := Aside0.mk (below_step (w2 := w2) (by repeat (first | (with_reducible first | exact HB.out | apply below_alloc | apply pw_below_drewN | apply below_drew1) | exact HB.out)) hb); clear HB; have HB := n0_; clear n0_; clear hb HSE hcv hcvs; have hcb0 : w2.cell? ⟨gb, 0, none⟩ = some (.int .i64 0) := (blk_cell BKb.out 0).trans rfl; have hfb0 := blk_frozen BKb.out 0; have hcb1 : w2.cell? ⟨gb, 1, none⟩ = some (.int .i64 0) := (blk_cell BKb.out 1).trans rfl; have hfb1 := blk_frozen BKb.out 1; have hcb2 : w2.cell? ⟨gb, 2, none⟩ = some (.int .i64 0) := (blk_cell BKb.out 2).trans rfl; have hfb2 := blk_frozen BKb.out 2; have hcb3 : w2.cell? ⟨gb, 3, none⟩ = some (.int .i64 0) := (blk_cell BKb.out 3).trans rfl; have hfb3 := blk_frozen BKb.out 3))
          refine bodyPost_ret (results_ct rfl _ _ gb 52 #[.int .i64 0, .int .i64 0, .int .i64 0, .int .i64 0] (0, 0) _ rfl (by (with_reducible repeat (first | refine blk_drewN ?_ _ | refine blk_drew ?_ | refine blk_alloc ?_ _)); refine blk_put (cs := #[.int .i64 0, .int .i64 0, .int .i64 0, .int .i64 0]) ?_ 3 _ rfl; (with_reducible repeat (first | refine blk_drewN ?_ _ | refine blk_drew ?_ | refine blk_alloc ?_ _)); refine blk_put (cs := #[.int .i64 0, .int .i64 0, .int .i64 0, .int .i64 0]) ?_ 2 _ rfl; (with_reducible repeat (first | refine blk_drewN ?_ _ | refine blk_drew ?_ | refine blk_alloc ?_ _)); refine blk_put (cs := #[.int .i64 0, .int .i64 0, .int .i64 0, .int .i64 0]) ?_ 1 _ rfl; (with_reducible repeat (first | refine blk_drewN ?_ _ | refine blk_drew ?_ | refine blk_alloc ?_ _)); refine blk_put (cs := #[.int .i64 0, .int .i64 0, .int .i64 0, .int .i64 0]) ?_ 0 _ rfl; (with_reducible repeat (first | refine blk_drewN ?_ _ | refine blk_drew ?_ | refine blk_alloc ?_ _)); exact BKb.out) hu52 rfl (by kernel_rfl)) rfl ?_
          exact ⟨rfl, by repeat (first | (with_reducible first | exact HB.out | apply below_alloc | apply pw_below_drewN | apply below_drew1 | refine below_set ?_ GE.out) | exact HB.out)⟩
      · rw [if_neg hm] at h
        have hmb0 : ((strOfNums (l0.take 4)).toList == ([98, 111, 108, 108] : List UInt8)) = false := beq_eq_false_iff_ne.mpr hm
        have hmb1 : ((strOfNums (l0.take 4)).toList != ([98, 111, 108, 108] : List UInt8)) = true := bne_iff_ne.mpr hm
        clear hm
        simp only [Option.some.injEq, Prod.mk.injEq] at h
        obtain ⟨rfl, rfl, rfl, rfl, rfl⟩ := h
        go_enter Try.func30, Try.ntmps30
        go_wp2_with (first
          | ((with_reducible refine gate_dst (N := 2) rfl ?_); refine box_event ?hg (N := 2) ?hd (cs := #[.int .i64 0, .int .i64 0, .int .i64 0, .int .i64 0]) (t := 52) ?hr ?_; (case hd => rfl); (case hg => rfl); (case hr => first | (go_simp; done) | (go_simp; rfl)); intro gb hg w1 hbox hb; have n0_ := Aside0.mk (below_step (w2 := w1) (by repeat (first | (with_reducible first | exact HB.out | apply below_alloc | apply pw_below_drewN | apply below_drew1) | exact HB.out)) hb); have BKb := Aside0.mk hbox; have GE := Aside0.mk (show w.heap.size ≤ gb by rw [hg]; exact Nat.le_refl _); clear HB; have HB := n0_; clear n0_ hb hbox hg; have hcb0 : w1.cell? ⟨gb, 0, none⟩ = some (.int .i64 0) := (blk_cell BKb.out 0).trans rfl; have hfb0 := blk_frozen BKb.out 0; have hcb1 : w1.cell? ⟨gb, 1, none⟩ = some (.int .i64 0) := (blk_cell BKb.out 1).trans rfl; have hfb1 := blk_frozen BKb.out 1; have hcb2 : w1.cell? ⟨gb, 2, none⟩ = some (.int .i64 0) := (blk_cell BKb.out 2).trans rfl; have hfb2 := blk_frozen BKb.out 2; have hcb3 : w1.cell? ⟨gb, 3, none⟩ = some (.int .i64 0) := (blk_cell BKb.out 3).trans rfl; have hfb3 := blk_frozen BKb.out 3; obtain ⟨ii, hii, _, hsz, _⟩ := info_parts info5; obtain ⟨hcut, hA, hC⟩ := print_take_of (P := Try.prog) (Value.int .u8) 0 26 5 .i64 Try.underlying26 hii hsz A0 c0 l0 4 (by omega) (of_decide_eq_true h4b) HC0.out; have HR4 := Aside0.mk (Kd.C_of_reads (h1 := fun _ => rfl) (hA _ (Kd.reads_of_C HR0.out))); clear hA hC hii hsz; have hcv := Kd.C_string (P := Try.prog) (A := A0) (c := c0) Try.underlying26 Try.underlying5 Try.underlying9 (Kd.C_below HR4.out HB.out); have hcvs := hcv; simp only [Int.reduceToNat, List.length_take] at hcvs))
        refine bodyPost_ret (results_ct rfl _ _ gb 52 #[.int .i64 0, .int .i64 0, .int .i64 0, .int .i64 0] (0, 0) _ rfl (by (with_reducible repeat (first | refine blk_drewN ?_ _ | refine blk_drew ?_ | refine blk_alloc ?_ _)); refine blk_put (cs := #[.int .i64 0, .int .i64 0, .int .i64 0, .int .i64 0]) ?_ 3 _ rfl; (with_reducible repeat (first | refine blk_drewN ?_ _ | refine blk_drew ?_ | refine blk_alloc ?_ _)); refine blk_put (cs := #[.int .i64 0, .int .i64 0, .int .i64 0, .int .i64 0]) ?_ 2 _ rfl; (with_reducible repeat (first | refine blk_drewN ?_ _ | refine blk_drew ?_ | refine blk_alloc ?_ _)); refine blk_put (cs := #[.int .i64 0, .int .i64 0, .int .i64 0, .int .i64 0]) ?_ 1 _ rfl; (with_reducible repeat (first | refine blk_drewN ?_ _ | refine blk_drew ?_ | refine blk_alloc ?_ _)); refine blk_put (cs := #[.int .i64 0, .int .i64 0, .int .i64 0, .int .i64 0]) ?_ 0 _ rfl; (with_reducible repeat (first | refine blk_drewN ?_ _ | refine blk_drew ?_ | refine blk_alloc ?_ _)); exact BKb.out) hu52 rfl (by kernel_rfl)) rfl ?_
        exact ⟨rfl, by repeat (first | (with_reducible first | exact HB.out | apply below_alloc | apply pw_below_drewN | apply below_drew1 | refine below_set ?_ GE.out) | exact HB.out)⟩
    · rw [if_neg hwf] at h
      cases h
  · rw [if_neg hlen] at h
    have hb0 : ((l0.length : Int) == 128) = false := beq_eq_false_iff_ne.mpr hlen
    have hb1 : ((l0.length : Int) != 128) = true := bne_iff_ne.mpr hlen
    clear hlen
    simp only [Option.some.injEq, Prod.mk.injEq] at h
    obtain ⟨rfl, rfl, rfl, rfl, rfl⟩ := h
    go_enter Try.func30, Try.ntmps30
    go_wp2_with (first
      | ((with_reducible refine gate_dst (N := 2) rfl ?_); refine box_event ?hg (N := 2) ?hd (cs := #[.int .i64 0, .int .i64 0, .int .i64 0, .int .i64 0]) (t := 52) ?hr ?_; (case hd => rfl); (case hg => rfl); (case hr => first | (go_simp; done) | (go_simp; rfl)); intro gb hg w1 hbox hb; have n0_ := Aside0.mk (below_step (w2 := w1) (by repeat (first | (with_reducible first | exact HB.out | apply below_alloc | apply pw_below_drewN | apply below_drew1) | exact HB.out)) hb); have BKb := Aside0.mk hbox; have GE := Aside0.mk (show w.heap.size ≤ gb by rw [hg]; exact Nat.le_refl _); clear HB; have HB := n0_; clear n0_ hb hbox hg; have hcb0 : w1.cell? ⟨gb, 0, none⟩ = some (.int .i64 0) := (blk_cell BKb.out 0).trans rfl; have hfb0 := blk_frozen BKb.out 0; have hcb1 : w1.cell? ⟨gb, 1, none⟩ = some (.int .i64 0) := (blk_cell BKb.out 1).trans rfl; have hfb1 := blk_frozen BKb.out 1; have hcb2 : w1.cell? ⟨gb, 2, none⟩ = some (.int .i64 0) := (blk_cell BKb.out 2).trans rfl; have hfb2 := blk_frozen BKb.out 2; have hcb3 : w1.cell? ⟨gb, 3, none⟩ = some (.int .i64 0) := (blk_cell BKb.out 3).trans rfl; have hfb3 := blk_frozen BKb.out 3))
    refine bodyPost_ret (results_ct rfl _ _ gb 52 #[.int .i64 0, .int .i64 0, .int .i64 0, .int .i64 0] (0, 0) _ rfl (by (with_reducible repeat (first | refine blk_drewN ?_ _ | refine blk_drew ?_ | refine blk_alloc ?_ _)); refine blk_put (cs := #[.int .i64 0, .int .i64 0, .int .i64 0, .int .i64 0]) ?_ 3 _ rfl; (with_reducible repeat (first | refine blk_drewN ?_ _ | refine blk_drew ?_ | refine blk_alloc ?_ _)); refine blk_put (cs := #[.int .i64 0, .int .i64 0, .int .i64 0, .int .i64 0]) ?_ 2 _ rfl; (with_reducible repeat (first | refine blk_drewN ?_ _ | refine blk_drew ?_ | refine blk_alloc ?_ _)); refine blk_put (cs := #[.int .i64 0, .int .i64 0, .int .i64 0, .int .i64 0]) ?_ 1 _ rfl; (with_reducible repeat (first | refine blk_drewN ?_ _ | refine blk_drew ?_ | refine blk_alloc ?_ _)); refine blk_put (cs := #[.int .i64 0, .int .i64 0, .int .i64 0, .int .i64 0]) ?_ 0 _ rfl; (with_reducible repeat (first | refine blk_drewN ?_ _ | refine blk_drew ?_ | refine blk_alloc ?_ _)); exact BKb.out) hu52 rfl (by kernel_rfl)) rfl ?_
    exact ⟨rfl, by repeat (first | (with_reducible first | exact HB.out | apply below_alloc | apply pw_below_drewN | apply below_drew1 | refine below_set ?_ GE.out) | exact HB.out)⟩

-- NOT PRINTED: function 57 (layout_mayDinode)

-- NOT PRINTED: function 32 (layout_EncodeDinode)

/-! ### layout_zero: function 59 -/
def layout_zero.l0 : Nat → List Int → Int → Int → Option (Bool)
  | 0, _, _, _ => none
  | k + 1, x5, x6, x7 => if x7 < x6 then (if 0 ≤ x7 then (if x7 < (x5.length : Int) then (if (rd x5 x7) = 0 then (layout_zero.l0 k x5 x6 (wrap64 (x7 + 1))) else (some false)) else (none)) else (none)) else (some true)
def layout_zero.f (k : Nat) (l0 : List Int) : Option (Bool) := layout_zero.l0 k l0 (l0.length : Int) 0
theorem layout_zero.mono_l : ∀ k, (∀ y0 y1 y2, LeO (layout_zero.l0 k y0 y1 y2) (layout_zero.l0 (k + 1) y0 y1 y2))
  | 0 => fun _ _ _ r h => by simp [layout_zero.l0] at h
  | k + 1 => by
    have ih0 := layout_zero.mono_l k
    · intro y0 y1 y2
      unfold layout_zero.l0
      repeat' first
      | (with_reducible exact ih0 _ _ _)
      | (with_reducible exact LeO.refl _)
      | (with_reducible exact LeO.none _)
      | (with_reducible refine LeO.ite ?_ ?_)
      | (with_reducible refine LeO.bind ?_ (fun _ => ?_))
      | exact ih0 _ _ _
      | exact LeO.none _
      | refine LeO.ite ?_ ?_
      | refine LeO.bind ?_ (fun _ => ?_)
theorem layout_zero.mono : ∀ a0 k, LeO (layout_zero.f k a0) (layout_zero.f (k + 1) a0) := by
  intro a0 k
  have ih0 := layout_zero.mono_l k
  unfold layout_zero.f
  repeat' first
      | (with_reducible exact ih0 _ _ _)
      | (with_reducible exact LeO.refl _)
      | (with_reducible exact LeO.none _)
      | (with_reducible refine LeO.ite ?_ ?_)
      | (with_reducible refine LeO.bind ?_ (fun _ => ?_))
      | exact ih0 _ _ _
      | exact LeO.none _
      | refine LeO.ite ?_ ?_
      | refine LeO.bind ?_ (fun _ => ?_)
set_option maxHeartbeats 8000000 in
set_option maxRecDepth 100000 in
theorem layout_zero.calls (k : Nat) (A0 : Option Addr) (c0 : Nat) (l0 : List Int) (r : Bool) (w : World) (hr0 : Kd.C (Kd.int .u8) w A0 l0.length l0) (hc0 : l0.length ≤ c0) (h : layout_zero.f k l0 = some r) :
    Calls Try.prog 59 #[.slice A0 l0.length c0] w fun e w' => e = .returned (.bool r) ∧ Drawn0 w w' := by
  have HR0 := Aside0.mk hr0
  have HC0 := Aside0.mk hc0
  clear hr0 hc0
  have H : (layout_zero.l0 k l0 (l0.length : Int) 0) = some r := h
  clear h
  have H' := Aside0.mk H
  clear H
  go_enter Try.func59, Try.ntmps59
  go_wp2
  go_loopg [7] k (fun kq v7 w' => ∃ (x7_1 : Int), v7 = .int .i64 x7_1 ∧ Aside0 (layout_zero.l0 kq l0 (l0.length : Int) x7_1 = some r) ∧ Aside0 (kq ≤ k) ∧ Drawn0 w w')
  case atStart => exact ⟨(0), (by first | rfl | (simp; done) | (simp [*]; done)), H', ⟨Nat.le_refl _⟩, by repeat (first | exact Drawn0.refl _ | apply Drawn0.step)⟩
  case round =>
    clear H'
    obtain ⟨x7_1, rfl, HA, HK1, ⟨m1, rfl⟩⟩ := hrel
    cases gk with
    | zero => exact absurd HA.out (by simp [layout_zero.l0])
    | succ k1 =>
      have H := HA.out
      clear HA
      simp only [layout_zero.l0] at H
      by_cases c2 : x7_1 < (l0.length : Int)
      · rw [if_pos c2] at H
        have c2b0 : decide (x7_1 < (l0.length : Int)) = true := decide_eq_true c2
        clear c2
        by_cases c3 : 0 ≤ x7_1
        · rw [if_pos c3] at H
          have c3b0 : decide (0 ≤ x7_1) = true := decide_eq_true c3
          clear c3
          by_cases c4 : x7_1 < (l0.length : Int)
          · rw [if_pos c4] at H
            have c4b0 : decide (x7_1 < (l0.length : Int)) = true := decide_eq_true c4
            clear c4
            by_cases c5 : (rd l0 x7_1) = 0
            · rw [if_pos c5] at H
              have c5b0 : ((rd l0 x7_1) == 0) = true := beq_iff_eq.mpr c5
              have c5b1 : ((rd l0 x7_1) != 0) = false := bne_eq_false_iff_eq.mpr c5
              clear c5
              have H' := Aside0.mk H
              clear H
              have p219 : 0 ≤ (x7_1 : Int) := of_decide_eq_true (by first | (with_reducible assumption) | assumption)
              have q219 : x7_1 < (l0.length : Int) := of_decide_eq_true (by first | (with_reducible assumption) | assumption)
              obtain ⟨ad219, e219, hx219_0⟩ := Kd.at_int HR0.out x7_1 p219 q219
              cases e219
              replace p219 := eq_true p219
              replace q219 := eq_true q219
              go_wp2
              go_roundg k1
              case measure => have := HK1.out; omega
              case rel => exact ⟨(wrap64 (x7_1 + 1)), (by first | rfl | (simp; done) | (simp [*]; done)), H', ⟨by have := HK1.out; omega⟩, by repeat (first | exact Drawn0.refl _ | apply Drawn0.step)⟩
            · rw [if_neg c5] at H
              have c5b0 : ((rd l0 x7_1) == 0) = false := beq_eq_false_iff_ne.mpr c5
              have c5b1 : ((rd l0 x7_1) != 0) = true := bne_iff_ne.mpr c5
              obtain rfl := Option.some.inj H
              have p219 : 0 ≤ (x7_1 : Int) := of_decide_eq_true (by first | (with_reducible assumption) | assumption)
              have q219 : x7_1 < (l0.length : Int) := of_decide_eq_true (by first | (with_reducible assumption) | assumption)
              obtain ⟨ad219, e219, hx219_0⟩ := Kd.at_int HR0.out x7_1 p219 q219
              cases e219
              replace p219 := eq_true p219
              replace q219 := eq_true q219
              go_wp2
              go_ret
              exact ⟨by first | rfl | (simp; done) | (simp [*]; done), by repeat (first | exact Drawn0.refl _ | apply Drawn0.step)⟩
          · rw [if_neg c4] at H
            exact absurd H (by simp)
        · rw [if_neg c3] at H
          exact absurd H (by simp)
      · rw [if_neg c2] at H
        have c2b0 : decide (x7_1 < (l0.length : Int)) = false := decide_eq_false c2
        clear c2
        obtain rfl := Option.some.inj H
        go_wp2
        go_ret
        exact ⟨by first | rfl | (simp; done) | (simp [*]; done), by repeat (first | exact Drawn0.refl _ | apply Drawn0.step)⟩

-- NOT PRINTED: function 34 (layout_DecodeDinode)

-- NOT PRINTED: function 9 (bollardlaw03_LayoutBack)

end Go.Proofs.Ytdaeanodgnmknaa.XLayoutBack
