-- Written by a program of this session (wip/tools)
import Derived.Test.YtnbkbmhiajfbpaaXDirsBackx0
namespace Go.Proofs.Ytnbkbmhiajfbpaa.XDirsBack
open Go.RowKit Go.Proofs.YtnbkbmhiajfbpaaW.PrintWords Go.Proofs.YtnbkbmhiajfbpaaW.PrintLast Go.Proofs.YtnbkbmhiajfbpaaW.PrintMore
attribute [local go_sem] max2_int min2_int max_two min_two max_three min_three max_four min_four   -- for this text's walks alone
set_option linter.unusedVariables false
set_option linter.unusedSimpArgs false

/-! ### bollardref03_IsName: function 48 -/
mutual
def bollardref03_IsName.j0 : Nat → ByteArray → Bool → Option (Bool)
  | 0, _, _ => none
  | k + 1, x0, x18 => if x18 = true then (some false) else (bollardref03_IsName.l0 k x0 0)
def bollardref03_IsName.l0 : Nat → ByteArray → Int → Option (Bool)
  | 0, _, _ => none
  | k + 1, x0, x3 => if x3 < (x0.size : Int) then (if 0 ≤ x3 then (if (bt x0 x3) < 33 then (some false) else (if (bt x0 x3) > 126 then (some false) else (if (bt x0 x3) = 47 then (some false) else (bollardref03_IsName.l0 k x0 (wrap64 (x3 + 1)))))) else (none)) else (some true)
end
def bollardref03_IsName.f (k : Nat) (a0 : ByteArray) : Option (Bool) := if a0.toList = ([] : List UInt8) then (bollardref03_IsName.j0 k a0 true) else (if (a0.size : Int) > 13 then (bollardref03_IsName.j0 k a0 true) else (if a0.toList = ([46] : List UInt8) then (bollardref03_IsName.j0 k a0 true) else (bollardref03_IsName.j0 k a0 (a0.toList == ([46, 46] : List UInt8)))))
theorem bollardref03_IsName.mono_l : ∀ k, (∀ y0 y1, LeO (bollardref03_IsName.j0 k y0 y1) (bollardref03_IsName.j0 (k + 1) y0 y1)) ∧ (∀ y0 y1, LeO (bollardref03_IsName.l0 k y0 y1) (bollardref03_IsName.l0 (k + 1) y0 y1))
  | 0 => ⟨fun _ _ r h => by simp [bollardref03_IsName.j0] at h, fun _ _ r h => by simp [bollardref03_IsName.l0] at h⟩
  | k + 1 => by
    obtain ⟨ih0, ih1⟩ := bollardref03_IsName.mono_l k
    refine ⟨?_, ?_⟩
    · intro y0 y1
      unfold bollardref03_IsName.j0
      repeat' first
      | (with_reducible exact ih0 _ _)
      | (with_reducible exact ih1 _ _)
      | (with_reducible exact LeO.refl _)
      | (with_reducible exact LeO.none _)
      | (with_reducible refine LeO.ite ?_ ?_)
      | (with_reducible refine LeO.bind ?_ (fun _ => ?_))
      | exact ih0 _ _
      | exact ih1 _ _
      | exact LeO.none _
      | refine LeO.ite ?_ ?_
      | refine LeO.bind ?_ (fun _ => ?_)
    · intro y0 y1
      unfold bollardref03_IsName.l0
      repeat' first
      | (with_reducible exact ih0 _ _)
      | (with_reducible exact ih1 _ _)
      | (with_reducible exact LeO.refl _)
      | (with_reducible exact LeO.none _)
      | (with_reducible refine LeO.ite ?_ ?_)
      | (with_reducible refine LeO.bind ?_ (fun _ => ?_))
      | exact ih0 _ _
      | exact ih1 _ _
      | exact LeO.none _
      | refine LeO.ite ?_ ?_
      | refine LeO.bind ?_ (fun _ => ?_)
theorem bollardref03_IsName.mono : ∀ a0 k, LeO (bollardref03_IsName.f k a0) (bollardref03_IsName.f (k + 1) a0) := by
  intro a0 k
  obtain ⟨ih0, ih1⟩ := bollardref03_IsName.mono_l k
  unfold bollardref03_IsName.f
  repeat' first
      | (with_reducible exact ih0 _ _)
      | (with_reducible exact ih1 _ _)
      | (with_reducible exact LeO.refl _)
      | (with_reducible exact LeO.none _)
      | (with_reducible refine LeO.ite ?_ ?_)
      | (with_reducible refine LeO.bind ?_ (fun _ => ?_))
      | exact ih0 _ _
      | exact ih1 _ _
      | exact LeO.none _
      | refine LeO.ite ?_ ?_
      | refine LeO.bind ?_ (fun _ => ?_)
set_option maxHeartbeats 8000000 in
set_option maxRecDepth 100000 in
theorem bollardref03_IsName.calls (k : Nat) (a0 : ByteArray) (r : Bool) (w : World) (h : bollardref03_IsName.f k a0 = some r) :
    Calls Try.prog 48 #[.string a0] w fun e w' => e = .returned (.bool r) ∧ Drawn0 w w' := by
  have H : (if a0.toList = ([] : List UInt8) then (bollardref03_IsName.j0 k a0 true) else (if (a0.size : Int) > 13 then (bollardref03_IsName.j0 k a0 true) else (if a0.toList = ([46] : List UInt8) then (bollardref03_IsName.j0 k a0 true) else (bollardref03_IsName.j0 k a0 (a0.toList == ([46, 46] : List UInt8)))))) = some r := h
  clear h
  have HC2 := Aside0.mk H
  clear H
  go_enter Try.func48, Try.ntmps48
  go_upto_region 1 with (fail)
  go_cut [18] (fun v18 wc => ∃ (kq : Nat) (x18_1 : Bool), v18 = .bool x18_1 ∧ Aside0 (bollardref03_IsName.j0 kq a0 x18_1 = some r) ∧ Aside0 (kq ≤ k) ∧ Drawn0 w wc)
  case first =>
    have H := HC2.out
    clear HC2
    by_cases c3 : a0.toList = ([] : List UInt8)
    · rw [if_pos c3] at H
      have c3b0 : (a0.toList == ([] : List UInt8)) = true := beq_iff_eq.mpr c3
      have c3b1 : (a0.toList != ([] : List UInt8)) = false := bne_eq_false_iff_eq.mpr c3
      clear c3
      (first | rw [c3b0] | (simp only [i64_w, i32_w]; rw [c3b0]) | skip)
      have H' := Aside0.mk H
      clear H
      go_wp2
      go_meet
      case rel => exact ⟨_, (true), (by first | rfl | (simp; done) | (simp [*]; done)), H', ⟨by first | omega | exact Nat.le_refl _⟩, by repeat (first | exact Drawn0.refl _ | apply Drawn0.step)⟩
    · rw [if_neg c3] at H
      have c3b0 : (a0.toList == ([] : List UInt8)) = false := beq_eq_false_iff_ne.mpr c3
      have c3b1 : (a0.toList != ([] : List UInt8)) = true := bne_iff_ne.mpr c3
      (first | rw [c3b0] | (simp only [i64_w, i32_w]; rw [c3b0]) | skip)
      by_cases c4 : (a0.size : Int) > 13
      · rw [if_pos c4] at H
        have c4b0 : decide (13 < (a0.size : Int)) = true := decide_eq_true c4
        have c4b1 : decide (13 < a0.size) = true := decide_eq_true (by omega)
        clear c4
        have H' := Aside0.mk H
        clear H
        go_wp2
        go_meet
        case rel => exact ⟨_, (true), (by first | rfl | (simp; done) | (simp [*]; done)), H', ⟨by first | omega | exact Nat.le_refl _⟩, by repeat (first | exact Drawn0.refl _ | apply Drawn0.step)⟩
      · rw [if_neg c4] at H
        have c4b0 : decide (13 < (a0.size : Int)) = false := decide_eq_false c4
        have c4b1 : decide (13 < a0.size) = false := decide_eq_false (by omega)
        clear c4
        by_cases c5 : a0.toList = ([46] : List UInt8)
        · rw [if_pos c5] at H
          have c5b0 : (a0.toList == ([46] : List UInt8)) = true := beq_iff_eq.mpr c5
          have c5b1 : (a0.toList != ([46] : List UInt8)) = false := bne_eq_false_iff_eq.mpr c5
          clear c5
          have H' := Aside0.mk H
          clear H
          go_wp2
          go_meet
          case rel => exact ⟨_, (true), (by first | rfl | (simp; done) | (simp [*]; done)), H', ⟨by first | omega | exact Nat.le_refl _⟩, by repeat (first | exact Drawn0.refl _ | apply Drawn0.step)⟩
        · rw [if_neg c5] at H
          have c5b0 : (a0.toList == ([46] : List UInt8)) = false := beq_eq_false_iff_ne.mpr c5
          have c5b1 : (a0.toList != ([46] : List UInt8)) = true := bne_iff_ne.mpr c5
          have H' := Aside0.mk H
          clear H
          go_wp2
          go_meet
          case rel => exact ⟨_, ((a0.toList == ([46, 46] : List UInt8))), (by first | rfl | (simp; done) | (simp [*]; done)), H', ⟨by first | omega | exact Nat.le_refl _⟩, by repeat (first | exact Drawn0.refl _ | apply Drawn0.step)⟩
  case rest =>
    clear HC2
    try clear p2
    try clear c3
    try clear c3b0
    try clear c3b1
    try clear c4
    try clear c4b0
    try clear c4b1
    try clear c5
    try clear c5b0
    try clear c5b1
    obtain ⟨kq, x18_1, rfl, HA, HJ1, ⟨mc1, rfl⟩⟩ := hcut
    cases kq with
    | zero => exact absurd HA.out (by simp [bollardref03_IsName.j0])
    | succ kj1 =>
      have H := HA.out
      clear HA
      simp only [bollardref03_IsName.j0] at H
      by_cases c6 : x18_1 = true
      · subst c6
        have H1 : (some false) = some r := by rw [if_pos rfl] at H; exact H
        clear H
        have H := H1
        clear H1
        obtain rfl := Option.some.inj H
        go_wp2
        go_ret
        exact ⟨by first | rfl | (simp; done) | (simp [*]; done), by repeat (first | exact Drawn0.refl _ | apply Drawn0.step)⟩
      · replace c6 := Bool.eq_false_iff.mpr c6
        subst c6
        have H1 : (bollardref03_IsName.l0 kj1 a0 0) = some r := by rw [if_neg (show ¬ (false = true) by decide)] at H; exact H
        clear H
        have H := H1
        clear H1
        have H' := Aside0.mk H
        clear H
        go_wp2
        go_loopg [3] kj1 (fun kq v3 w' => ∃ (x3_2 : Int), v3 = .int .i64 x3_2 ∧ Aside0 (bollardref03_IsName.l0 kq a0 x3_2 = some r) ∧ Aside0 (kq ≤ kj1) ∧ Drawn0 w w')
        case atStart => exact ⟨(0), (by first | rfl | (simp; done) | (simp [*]; done)), H', ⟨Nat.le_refl _⟩, by repeat (first | exact Drawn0.refl _ | apply Drawn0.step)⟩
        case round =>
          clear H'
          try clear c1
          try clear p2
          try clear c3
          try clear c3b0
          try clear c3b1
          try clear c4
          try clear c4b0
          try clear c4b1
          try clear c5
          try clear c5b0
          try clear c5b1
          try clear c6
          try clear p2
          obtain ⟨x3_2, rfl, HA, HK2, ⟨m2, rfl⟩⟩ := hrel
          cases gk with
          | zero => exact absurd HA.out (by simp [bollardref03_IsName.l0])
          | succ k2 =>
            have H := HA.out
            clear HA
            simp only [bollardref03_IsName.l0] at H
            by_cases c7 : x3_2 < (a0.size : Int)
            · rw [if_pos c7] at H
              have c7b0 : decide (x3_2 < (a0.size : Int)) = true := decide_eq_true c7
              clear c7
              by_cases c8 : 0 ≤ x3_2
              · rw [if_pos c8] at H
                have c8b0 : decide (0 ≤ x3_2) = true := decide_eq_true c8
                clear c8
                by_cases c10 : (bt a0 x3_2) < 33
                · rw [if_pos c10] at H
                  have c10b0 : decide ((bt a0 x3_2) < 33) = true := decide_eq_true c10
                  clear c10
                  obtain rfl := Option.some.inj H
                  have p9 : 0 ≤ (x3_2 : Int) := of_decide_eq_true (by first | (with_reducible assumption) | assumption)
                  have q9 : x3_2 < (a0.size : Int) := of_decide_eq_true (by first | (with_reducible assumption) | assumption)
                  have hx9 := bt_at a0 x3_2
                  replace p9 := eq_true p9
                  replace q9 := eq_true q9
                  go_wp2
                  go_ret
                  exact ⟨by first | rfl | (simp; done) | (simp [*]; done), by repeat (first | exact Drawn0.refl _ | apply Drawn0.step)⟩
                · rw [if_neg c10] at H
                  have c10b0 : decide ((bt a0 x3_2) < 33) = false := decide_eq_false c10
                  clear c10
                  by_cases c12 : (bt a0 x3_2) > 126
                  · rw [if_pos c12] at H
                    have c12b0 : decide (126 < (bt a0 x3_2)) = true := decide_eq_true c12
                    clear c12
                    obtain rfl := Option.some.inj H
                    have p9 : 0 ≤ (x3_2 : Int) := of_decide_eq_true (by first | (with_reducible assumption) | assumption)
                    have q9 : x3_2 < (a0.size : Int) := of_decide_eq_true (by first | (with_reducible assumption) | assumption)
                    have hx9 := bt_at a0 x3_2
                    replace p9 := eq_true p9
                    replace q9 := eq_true q9
                    have p11 : 0 ≤ (x3_2 : Int) := of_decide_eq_true (by first | (with_reducible assumption) | assumption)
                    have q11 : x3_2 < (a0.size : Int) := of_decide_eq_true (by first | (with_reducible assumption) | assumption)
                    have hx11 := bt_at a0 x3_2
                    replace p11 := eq_true p11
                    replace q11 := eq_true q11
                    go_wp2
                    go_ret
                    exact ⟨by first | rfl | (simp; done) | (simp [*]; done), by repeat (first | exact Drawn0.refl _ | apply Drawn0.step)⟩
                  · rw [if_neg c12] at H
                    have c12b0 : decide (126 < (bt a0 x3_2)) = false := decide_eq_false c12
                    clear c12
                    by_cases c14 : (bt a0 x3_2) = 47
                    · rw [if_pos c14] at H
                      have c14b0 : ((bt a0 x3_2) == 47) = true := beq_iff_eq.mpr c14
                      have c14b1 : ((bt a0 x3_2) != 47) = false := bne_eq_false_iff_eq.mpr c14
                      clear c14
                      obtain rfl := Option.some.inj H
                      have p9 : 0 ≤ (x3_2 : Int) := of_decide_eq_true (by first | (with_reducible assumption) | assumption)
                      have q9 : x3_2 < (a0.size : Int) := of_decide_eq_true (by first | (with_reducible assumption) | assumption)
                      have hx9 := bt_at a0 x3_2
                      replace p9 := eq_true p9
                      replace q9 := eq_true q9
                      have p11 : 0 ≤ (x3_2 : Int) := of_decide_eq_true (by first | (with_reducible assumption) | assumption)
                      have q11 : x3_2 < (a0.size : Int) := of_decide_eq_true (by first | (with_reducible assumption) | assumption)
                      have hx11 := bt_at a0 x3_2
                      replace p11 := eq_true p11
                      replace q11 := eq_true q11
                      have p13 : 0 ≤ (x3_2 : Int) := of_decide_eq_true (by first | (with_reducible assumption) | assumption)
                      have q13 : x3_2 < (a0.size : Int) := of_decide_eq_true (by first | (with_reducible assumption) | assumption)
                      have hx13 := bt_at a0 x3_2
                      replace p13 := eq_true p13
                      replace q13 := eq_true q13
                      go_wp2
                      go_ret
                      exact ⟨by first | rfl | (simp; done) | (simp [*]; done), by repeat (first | exact Drawn0.refl _ | apply Drawn0.step)⟩
                    · rw [if_neg c14] at H
                      have c14b0 : ((bt a0 x3_2) == 47) = false := beq_eq_false_iff_ne.mpr c14
                      have c14b1 : ((bt a0 x3_2) != 47) = true := bne_iff_ne.mpr c14
                      have H' := Aside0.mk H
                      clear H
                      have p9 : 0 ≤ (x3_2 : Int) := of_decide_eq_true (by first | (with_reducible assumption) | assumption)
                      have q9 : x3_2 < (a0.size : Int) := of_decide_eq_true (by first | (with_reducible assumption) | assumption)
                      have hx9 := bt_at a0 x3_2
                      replace p9 := eq_true p9
                      replace q9 := eq_true q9
                      have p11 : 0 ≤ (x3_2 : Int) := of_decide_eq_true (by first | (with_reducible assumption) | assumption)
                      have q11 : x3_2 < (a0.size : Int) := of_decide_eq_true (by first | (with_reducible assumption) | assumption)
                      have hx11 := bt_at a0 x3_2
                      replace p11 := eq_true p11
                      replace q11 := eq_true q11
                      have p13 : 0 ≤ (x3_2 : Int) := of_decide_eq_true (by first | (with_reducible assumption) | assumption)
                      have q13 : x3_2 < (a0.size : Int) := of_decide_eq_true (by first | (with_reducible assumption) | assumption)
                      have hx13 := bt_at a0 x3_2
                      replace p13 := eq_true p13
                      replace q13 := eq_true q13
                      go_wp2
                      go_roundg k2
                      case measure => have := HJ1.out; have := HK2.out; omega
                      case rel => exact ⟨(wrap64 (x3_2 + 1)), (by first | rfl | (simp; done) | (simp [*]; done)), H', ⟨by have := HJ1.out; have := HK2.out; omega⟩, by repeat (first | exact Drawn0.refl _ | apply Drawn0.step)⟩
              · rw [if_neg c8] at H
                exact absurd H (by simp)
            · rw [if_neg c7] at H
              have c7b0 : decide (x3_2 < (a0.size : Int)) = false := decide_eq_false c7
              clear c7
              obtain rfl := Option.some.inj H
              go_wp2
              go_ret
              exact ⟨by first | rfl | (simp; done) | (simp [*]; done), by repeat (first | exact Drawn0.refl _ | apply Drawn0.step)⟩

/-! ### bollardref01_Put: function 58 -/
mutual
def bollardref01_Put.j0 : Nat → List Int → Int → Int → Int → Bool → Option (List Int × Int)
  | 0, _, _, _, _, _ => none
  | k + 1, x0, x1, x2, x3, x32 => if x32 = true then (some (([] : List Int), 1)) else (if x1 > (wrap64 ((x0.length : Int) - x2)) then (some (([] : List Int), 10)) else ((some (([] : List Int) : List Int)).bind fun y144 => (if y144.length + x0.length < 140737488355328 then (bollardref01_Put.l0 k x1 x3 (y144 ++ x0) x2 0) else (none))))
def bollardref01_Put.l0 : Nat → Int → Int → List Int → Int → Int → Option (List Int × Int)
  | 0, _, _, _, _, _ => none
  | k + 1, x1, x3, x10, x42, x43 => if x43 < x42 then (if 0 ≤ (wrap64 (x1 + x43)) then (if (wrap64 (x1 + x43)) < (x10.length : Int) then (bollardref01_Put.l0 k x1 (wrap64 (Int.tdiv x3 256)) (x10.set ((wrap64 (x1 + x43)) : Int).toNat ((Int.tmod x3 256) % 256)) x42 (wrap64 (x43 + 1))) else (none)) else (none)) else (some (x10, 0))
end
def bollardref01_Put.f (k : Nat) (l0 : List Int) (a1 : Int) (a2 : Int) (a3 : Int) : Option (List Int × Int) := if a2 < 1 then (bollardref01_Put.j0 k l0 a1 a2 a3 true) else (if a2 > 4 then (bollardref01_Put.j0 k l0 a1 a2 a3 true) else (if a1 < 0 then (bollardref01_Put.j0 k l0 a1 a2 a3 true) else (if a3 < 0 then (bollardref01_Put.j0 k l0 a1 a2 a3 true) else (if 0 ≤ (wrap64 (8 * a2)) then (bollardref01_Put.j0 k l0 a1 a2 a3 (decide (a3 ≥ (shl .i64 1 (wrap64 (8 * a2)))))) else (none)))))
theorem bollardref01_Put.mono_l : ∀ k, (∀ y0 y1 y2 y3 y4, LeO (bollardref01_Put.j0 k y0 y1 y2 y3 y4) (bollardref01_Put.j0 (k + 1) y0 y1 y2 y3 y4)) ∧ (∀ y0 y1 y2 y3 y4, LeO (bollardref01_Put.l0 k y0 y1 y2 y3 y4) (bollardref01_Put.l0 (k + 1) y0 y1 y2 y3 y4))
  | 0 => ⟨fun _ _ _ _ _ r h => by simp [bollardref01_Put.j0] at h, fun _ _ _ _ _ r h => by simp [bollardref01_Put.l0] at h⟩
  | k + 1 => by
    obtain ⟨ih0, ih1⟩ := bollardref01_Put.mono_l k
    refine ⟨?_, ?_⟩
    · intro y0 y1 y2 y3 y4
      unfold bollardref01_Put.j0
      repeat' first
      | (with_reducible exact ih0 _ _ _ _ _)
      | (with_reducible exact ih1 _ _ _ _ _)
      | (with_reducible exact LeO.refl _)
      | (with_reducible exact LeO.none _)
      | (with_reducible refine LeO.ite ?_ ?_)
      | (with_reducible refine LeO.bind ?_ (fun _ => ?_))
      | exact ih0 _ _ _ _ _
      | exact ih1 _ _ _ _ _
      | exact LeO.none _
      | refine LeO.ite ?_ ?_
      | refine LeO.bind ?_ (fun _ => ?_)
    · intro y0 y1 y2 y3 y4
      unfold bollardref01_Put.l0
      repeat' first
      | (with_reducible exact ih0 _ _ _ _ _)
      | (with_reducible exact ih1 _ _ _ _ _)
      | (with_reducible exact LeO.refl _)
      | (with_reducible exact LeO.none _)
      | (with_reducible refine LeO.ite ?_ ?_)
      | (with_reducible refine LeO.bind ?_ (fun _ => ?_))
      | exact ih0 _ _ _ _ _
      | exact ih1 _ _ _ _ _
      | exact LeO.none _
      | refine LeO.ite ?_ ?_
      | refine LeO.bind ?_ (fun _ => ?_)
theorem bollardref01_Put.mono : ∀ a0 a1 a2 a3 k, LeO (bollardref01_Put.f k a0 a1 a2 a3) (bollardref01_Put.f (k + 1) a0 a1 a2 a3) := by
  intro a0 a1 a2 a3 k
  obtain ⟨ih0, ih1⟩ := bollardref01_Put.mono_l k
  unfold bollardref01_Put.f
  repeat' first
      | (with_reducible exact ih0 _ _ _ _ _)
      | (with_reducible exact ih1 _ _ _ _ _)
      | (with_reducible exact LeO.refl _)
      | (with_reducible exact LeO.none _)
      | (with_reducible refine LeO.ite ?_ ?_)
      | (with_reducible refine LeO.bind ?_ (fun _ => ?_))
      | exact ih0 _ _ _ _ _
      | exact ih1 _ _ _ _ _
      | exact LeO.none _
      | refine LeO.ite ?_ ?_
      | refine LeO.bind ?_ (fun _ => ?_)
set_option maxHeartbeats 8000000 in
set_option maxRecDepth 100000 in
theorem bollardref01_Put.calls (k : Nat) (A0 : Option Addr) (c0 : Nat) (l0 : List Int) (a1 : Int) (a2 : Int) (a3 : Int) (r1 : List Int) (r2 : Int) (w : World) (hr0 : Kd.C (Kd.int .u8) w A0 l0.length l0) (hc0 : l0.length ≤ c0) (h : bollardref01_Put.f k l0 a1 a2 a3 = some (r1, r2)) :
    Calls Try.prog 58 #[.slice A0 l0.length c0, .int .i64 a1, .int .i64 a2, .int .i64 a3] w fun e w' => ∃ v0_ : Value, e = .returned (.tuple #[v0_, .int .i64 r2]) ∧ Kd.R (Kd.int .u8) 5 w' w.heap.size (fun _ => True) v0_ r1 ∧ Below w.heap.size w w' := by
  have HR0 := Aside0.mk hr0
  have HC0 := Aside0.mk hc0
  clear hr0 hc0
  have HB := Aside0.mk (Below.refl w.heap.size w)
  have H : (if a2 < 1 then (bollardref01_Put.j0 k l0 a1 a2 a3 true) else (if a2 > 4 then (bollardref01_Put.j0 k l0 a1 a2 a3 true) else (if a1 < 0 then (bollardref01_Put.j0 k l0 a1 a2 a3 true) else (if a3 < 0 then (bollardref01_Put.j0 k l0 a1 a2 a3 true) else (if 0 ≤ (wrap64 (8 * a2)) then (bollardref01_Put.j0 k l0 a1 a2 a3 (decide (a3 ≥ (shl .i64 1 (wrap64 (8 * a2)))))) else (none)))))) = some (r1, r2) := h
  clear h
  have HC5 := Aside0.mk H
  clear H
  go_enter Try.func58, Try.ntmps58
  go_upto_region 1 with (fail)
  go_cut [32] (fun v32 wc => ∃ (kq : Nat) (x32_4 : Bool), v32 = .bool x32_4 ∧ Aside0 (bollardref01_Put.j0 kq l0 a1 a2 a3 x32_4 = some (r1, r2)) ∧ Aside0 (kq ≤ k) ∧ Aside0 (Below w.heap.size w wc))
  case first =>
    have H := HC5.out
    clear HC5
    by_cases c6 : a2 < 1
    · rw [if_pos c6] at H
      have c6b0 : decide (a2 < 1) = true := decide_eq_true c6
      clear c6
      (first | rw [c6b0] | (simp only [i64_w, i32_w]; rw [c6b0]) | skip)
      have H' := Aside0.mk H
      clear H
      go_wp2
      go_meet
      case rel => exact ⟨_, (true), (by first | rfl | (simp; done) | (simp [*]; done)), H', ⟨by first | omega | exact Nat.le_refl _⟩, ⟨by repeat (first | (with_reducible first | exact HB.out | apply below_alloc | apply pw_below_drewN | apply below_drew1) | exact HB.out)⟩⟩
    · rw [if_neg c6] at H
      have c6b0 : decide (a2 < 1) = false := decide_eq_false c6
      clear c6
      (first | rw [c6b0] | (simp only [i64_w, i32_w]; rw [c6b0]) | skip)
      by_cases c7 : a2 > 4
      · rw [if_pos c7] at H
        have c7b0 : decide (4 < a2) = true := decide_eq_true c7
        clear c7
        have H' := Aside0.mk H
        clear H
        go_wp2
        go_meet
        case rel => exact ⟨_, (true), (by first | rfl | (simp; done) | (simp [*]; done)), H', ⟨by first | omega | exact Nat.le_refl _⟩, ⟨by repeat (first | (with_reducible first | exact HB.out | apply below_alloc | apply pw_below_drewN | apply below_drew1) | exact HB.out)⟩⟩
      · rw [if_neg c7] at H
        have c7b0 : decide (4 < a2) = false := decide_eq_false c7
        clear c7
        by_cases c8 : a1 < 0
        · rw [if_pos c8] at H
          have c8b0 : decide (a1 < 0) = true := decide_eq_true c8
          clear c8
          have H' := Aside0.mk H
          clear H
          go_wp2
          go_meet
          case rel => exact ⟨_, (true), (by first | rfl | (simp; done) | (simp [*]; done)), H', ⟨by first | omega | exact Nat.le_refl _⟩, ⟨by repeat (first | (with_reducible first | exact HB.out | apply below_alloc | apply pw_below_drewN | apply below_drew1) | exact HB.out)⟩⟩
        · rw [if_neg c8] at H
          have c8b0 : decide (a1 < 0) = false := decide_eq_false c8
          clear c8
          by_cases c9 : a3 < 0
          · rw [if_pos c9] at H
            have c9b0 : decide (a3 < 0) = true := decide_eq_true c9
            clear c9
            have H' := Aside0.mk H
            clear H
            go_wp2
            go_meet
            case rel => exact ⟨_, (true), (by first | rfl | (simp; done) | (simp [*]; done)), H', ⟨by first | omega | exact Nat.le_refl _⟩, ⟨by repeat (first | (with_reducible first | exact HB.out | apply below_alloc | apply pw_below_drewN | apply below_drew1) | exact HB.out)⟩⟩
          · rw [if_neg c9] at H
            have c9b0 : decide (a3 < 0) = false := decide_eq_false c9
            clear c9
            obtain ⟨ji10, hji10⟩ : ∃ j_ : Int, (wrap64 (8 * a2)) = j_ := ⟨_, rfl⟩
            replace H : (if 0 ≤ (ji10) then (bollardref01_Put.j0 k l0 a1 a2 a3 (decide (a3 ≥ (shl .i64 1 (ji10))))) else (none)) = some (r1, r2) := by first | (rw [hji10] at H; exact H) | (simp only [hji10] at H ⊢; exact H)
            have hji10w : (IntKind.i64.wrap (8 * a2)) = ji10 := (i64_w _).trans hji10
            by_cases c11 : 0 ≤ (ji10)
            · rw [if_pos c11] at H
              have c11b0 := eq_true c11
              have c11b1 : decide (0 ≤ (ji10)) = true := decide_eq_true c11
              clear c11
              obtain ⟨ji12, hji12⟩ : ∃ j_ : Int, (shl .i64 1 (ji10)) = j_ := ⟨_, rfl⟩
              replace H : (bollardref01_Put.j0 k l0 a1 a2 a3 (decide (a3 ≥ (ji12)))) = some (r1, r2) := by first | (rw [hji12] at H; exact H) | (simp only [hji12] at H ⊢; exact H)
              have hji12_ : (IntKind.i64.wrap (1 * 2 ^ min (ji10).toNat 64)) = ji12 := hji12
              have hji12z : (ji10) ≤ 64 → (IntKind.i64.wrap (1 * 2 ^ (ji10).toNat)) = ji12 := shl_small hji12
              have hji12u : (IntKind.i64.wrap (2 ^ min (ji10).toNat 64)) = ji12 := by have h_ := hji12_; rw [Int.one_mul] at h_; exact h_
              have hji12v : (ji10) ≤ 64 → (IntKind.i64.wrap (2 ^ (ji10).toNat)) = ji12 := fun hle_ => by have h_ := hji12z hle_; rw [Int.one_mul] at h_; exact h_
              have hji12y : (wrap64 (1 * 2 ^ min (ji10).toNat 64)) = ji12 := (i64_w _).symm.trans hji12_
              have hji12x : (ji10) ≤ 64 → (wrap64 (1 * 2 ^ (ji10).toNat)) = ji12 := fun h_ => (i64_w _).symm.trans (hji12z h_)
              have H' := Aside0.mk H
              clear H
              go_wp2
              go_meet
              case rel => exact ⟨_, (decide (a3 ≥ (ji12))), (by first | rfl | (simp; done) | (simp only [← hji12] <;> (first | rfl | simp)) | (simp [*]; done)), H', ⟨by first | omega | exact Nat.le_refl _⟩, ⟨by repeat (first | (with_reducible first | exact HB.out | apply below_alloc | apply pw_below_drewN | apply below_drew1) | exact HB.out)⟩⟩
            · rw [if_neg c11] at H
              exact absurd H (by simp)
  case rest =>
    clear HC5
    try clear c1
    try clear p2
    try clear c5
    try clear c6
    try clear c6b0
    try clear p6
    try clear c7
    try clear c7b0
    try clear c8
    try clear c8b0
    try clear c9
    try clear c9b0
    try clear c11
    try clear c11b0
    try clear c11b1
    obtain ⟨kq, x32_4, rfl, HA, HJ4, HB⟩ := hcut
    cases kq with
    | zero => exact absurd HA.out (by simp [bollardref01_Put.j0])
    | succ kj4 =>
      have H := HA.out
      clear HA
      simp only [bollardref01_Put.j0] at H
      by_cases c13 : x32_4 = true
      · subst c13
        have H1 : (some (([] : List Int), 1)) = some (r1, r2) := by rw [if_pos rfl] at H; exact H
        clear H
        have H := H1
        clear H1
        simp only [Option.some.injEq, Prod.mk.injEq] at H
        obtain ⟨rfl, rfl⟩ := H
        go_wp2
        go_ret2
        exact ⟨_, by first | rfl | (simp [errW_none, errW_some] <;> rfl) | (simp [*, errW_none, errW_some] <;> rfl), by first | exact Kd.R_nil _ _ _ _ _ | exact Kd.N_nil _ _ _ _ _ | exact Kd.V_nil _ _ _ _ _ | exact Kd.Q_nil _ _ _ _ _ | exact Kd.S_nil _ _ _ _ _, by repeat (first | (with_reducible first | exact HB.out | apply below_alloc | apply pw_below_drewN | apply below_drew1) | exact HB.out)⟩
      · replace c13 := Bool.eq_false_iff.mpr c13
        subst c13
        have H1 : (if a1 > (wrap64 ((l0.length : Int) - a2)) then (some (([] : List Int), 10)) else ((some (([] : List Int) : List Int)).bind fun y144 => (if y144.length + l0.length < 140737488355328 then (bollardref01_Put.l0 kj4 a1 a3 (y144 ++ l0) a2 0) else (none)))) = some (r1, r2) := by rw [if_neg (show ¬ (false = true) by decide)] at H; exact H
        clear H
        have H := H1
        clear H1
        by_cases c14 : a1 > (wrap64 ((l0.length : Int) - a2))
        · rw [if_pos c14] at H
          have c14b0 : decide ((wrap64 ((l0.length : Int) - a2)) < a1) = true := decide_eq_true c14
          clear c14
          simp only [Option.some.injEq, Prod.mk.injEq] at H
          obtain ⟨rfl, rfl⟩ := H
          go_wp2
          go_ret2
          exact ⟨_, by first | rfl | (simp [errW_none, errW_some] <;> rfl) | (simp [*, errW_none, errW_some] <;> rfl), by first | exact Kd.R_nil _ _ _ _ _ | exact Kd.N_nil _ _ _ _ _ | exact Kd.V_nil _ _ _ _ _ | exact Kd.Q_nil _ _ _ _ _ | exact Kd.S_nil _ _ _ _ _, by repeat (first | (with_reducible first | exact HB.out | apply below_alloc | apply pw_below_drewN | apply below_drew1) | exact HB.out)⟩
        · rw [if_neg c14] at H
          have c14b0 : decide ((wrap64 ((l0.length : Int) - a2)) < a1) = false := decide_eq_false c14
          clear c14
          obtain ⟨y144, hy144⟩ : ∃ y_ : List Int, y_ = (([] : List Int)) := ⟨_, rfl⟩
          replace H : (if y144.length + l0.length < 140737488355328 then (bollardref01_Put.l0 kj4 a1 a3 (y144 ++ l0) a2 0) else (none)) = some (r1, r2) := by first | (rw [hy144]; with_reducible exact H) | (have H2_ := (Option.bind_some _ _).symm.trans H; rw [hy144]; with_reducible exact H2_) | (have H2_ := (Option.bind_some _ _).symm.trans H; with_reducible exact H2_) | with_reducible exact H | (rw [hy144]; exact H) | exact H
          have Ny144 := Aside0.mk hy144
          clear hy144
          by_cases c15 : y144.length + l0.length < 140737488355328
          · rw [if_pos c15] at H
            have LMc15 := Aside0.mk c15
            clear c15
            obtain ⟨y147, hy147⟩ : ∃ y_ : List Int, y_ = (y144 ++ l0) := ⟨_, rfl⟩
            replace H : (bollardref01_Put.l0 kj4 a1 a3 y147 a2 0) = some (r1, r2) := by first | (rw [hy147]; with_reducible exact H) | (have H2_ := (Option.bind_some _ _).symm.trans H; rw [hy147]; with_reducible exact H2_) | (have H2_ := (Option.bind_some _ _).symm.trans H; with_reducible exact H2_) | with_reducible exact H | (rw [hy147]; exact H) | exact H
            have Ny147 := Aside0.mk hy147
            clear hy147
            have H' := Aside0.mk H
            clear H
            go_wp2_with (first | ((with_reducible refine gate_dst (N := 39) rfl ?_); refine Kd.R_lit (Kd.int .u8) _ 5 ?hg (N := 39) ?hd (xs := ([] : List Int)) (inner := []) (ok := fun _ => True) (okp := fun _ => True) ?hr ?hp (fun _ hk => hk) trivial (Below.refl _ _) (Nat.le_refl _) (by simp) ?_; (case hd => rfl); (case hg => rfl); (case hr => first | (go_simp; done) | (go_simp; rfl)); (case hp => exact (Reps.none _ _)); intro v145 w16 ho17 hb hg_ hnew_; clear hg_ hnew_; (first | rw [← Ny144.out] at ho17 | (simp only [Int.reduceToNat] at ho17; rw [← Ny144.out] at ho17)); have n0_ := Aside0.mk (Kd.R_lower ho17 (below_size (by repeat (first | (with_reducible first | exact HB.out | apply below_alloc | apply pw_below_drewN | apply below_drew1) | exact HB.out)))); have n1_ := Aside0.mk (below_step (by repeat (first | (with_reducible first | exact HB.out | apply below_alloc | apply pw_below_drewN | apply below_drew1) | exact HB.out)) hb); clear HB; have HO146 := n0_; have HB := n1_; clear n0_ n1_; clear hb ho17) | ((with_reducible refine gate_builtin (b := .append) (xs := #[.tmp 39, .tmp 40]) rfl ?_); at_builtin; refine Kd.R_append_rows (Kd.int .u8) (w0 := w) w.heap.size rfl (.tmp 39) (.tmp 40) 22 5 (.int .u8 0) 1 rfl Try.underlying22 info5 rfl (by decide) (by omega) v145 y144 l0 _ _ _ (fun _ => True) (fun _ => False) rfl rfl ?aO ?aR (fun _ _ h => h) (fun _ h => h.elim) ?aF ?aB ?aS ?aL ?_; (case aR => repeat (first | exact (Kd.C_below HR0.out HB.out) | (with_reducible refine Kd.C_alloc ?_ _) | (with_reducible refine Kd.C_drewN ?_ _) | (with_reducible refine Kd.C_drew ?_))); (case aB => exact (by repeat (first | (with_reducible first | exact HB.out | apply below_alloc | apply pw_below_drewN | apply below_drew1) | exact HB.out))); (case aF => exact (fun _ _ => trivial)); (case aO => exact (by (with_reducible repeat (first | apply Kd.R_alloc | apply Kd.R_drewN | apply Kd.R_drew)); exact HO146.out)); (case aS => exact (below_size (by repeat (first | (with_reducible first | exact HB.out | apply below_alloc | apply pw_below_drewN | apply below_drew1) | exact HB.out)))); (case aL => have := LMc15.out; omega); intro v148 w18 ho hb hg hat; rw [← Ny147.out] at ho; have n0_ := Aside0.mk (hb); have n1_ := Aside0.mk (ho); clear HB; clear HO146; have HB := n0_; have HO149 := n1_; clear n0_ n1_; clear ho hb hg hat))
            go_loopg [3, 43] kj4 (fun kq v3 v43 w' => ∃ (x3_2 : Int) (x10_2 : List Int) (x43_2 : Int), v3 = .int .i64 x3_2 ∧ v43 = .int .i64 x43_2 ∧ Aside0 (bollardref01_Put.l0 kq a1 x3_2 x10_2 a2 x43_2 = some (r1, r2)) ∧ Aside0 (kq ≤ kj4) ∧ Aside0 (Kd.R (Kd.int .u8) 5 w' w.heap.size (fun _ => True) v148 x10_2) ∧ Aside0 (Below w.heap.size w w'))
            case atStart => exact ⟨(a3), (y147), (0), (by first | rfl | (simp; done) | (simp [*]; done)), (by first | rfl | (simp; done) | (simp [*]; done)), H', ⟨Nat.le_refl _⟩, ⟨by (with_reducible repeat (first | apply Kd.R_alloc | apply Kd.R_drewN | apply Kd.R_drew)); exact HO149.out⟩, ⟨by repeat (first | (with_reducible first | exact HB.out | apply below_alloc | apply pw_below_drewN | apply below_drew1) | exact HB.out)⟩⟩
            case round =>
              clear H'
              try clear c1
              try clear p2
              try clear c5
              try clear c6
              try clear c6b0
              try clear p6
              try clear c7
              try clear c7b0
              try clear c8
              try clear c8b0
              try clear c9
              try clear c9b0
              try clear c11
              try clear c11b0
              try clear c11b1
              try clear c13
              try clear c14
              try clear c14b0
              try clear c15
              try clear p2
              try clear p6
              obtain ⟨x3_2, x10_2, x43_2, rfl, rfl, HA, HK2, HO_10, HB⟩ := hrel
              cases gk with
              | zero => exact absurd HA.out (by simp [bollardref01_Put.l0])
              | succ k2 =>
                have H := HA.out
                clear HA
                simp only [bollardref01_Put.l0] at H
                by_cases c19 : x43_2 < a2
                · rw [if_pos c19] at H
                  have c19b0 : decide (x43_2 < a2) = true := decide_eq_true c19
                  clear c19
                  obtain ⟨ji20, hji20⟩ : ∃ j_ : Int, (wrap64 (a1 + x43_2)) = j_ := ⟨_, rfl⟩
                  replace H : (if 0 ≤ (ji20) then (if (ji20) < (x10_2.length : Int) then (bollardref01_Put.l0 k2 a1 (wrap64 (Int.tdiv x3_2 256)) (x10_2.set ((ji20) : Int).toNat ((Int.tmod x3_2 256) % 256)) a2 (wrap64 (x43_2 + 1))) else (none)) else (none)) = some (r1, r2) := by first | (rw [hji20] at H; exact H) | (simp only [hji20] at H ⊢; exact H)
                  have hji20w : (IntKind.i64.wrap (a1 + x43_2)) = ji20 := (i64_w _).trans hji20
                  by_cases c21 : 0 ≤ (ji20)
                  · rw [if_pos c21] at H
                    have c21b0 : decide (0 ≤ (ji20)) = true := decide_eq_true c21
                    clear c21
                    by_cases c22 : (ji20) < (x10_2.length : Int)
                    · rw [if_pos c22] at H
                      have c22b0 : decide ((ji20) < (x10_2.length : Int)) = true := decide_eq_true c22
                      clear c22
                      obtain ⟨y150, hy150⟩ : ∃ y_ : List Int, y_ = (x10_2.set ((ji20) : Int).toNat ((Int.tmod x3_2 256) % 256)) := ⟨_, rfl⟩
                      replace H : (bollardref01_Put.l0 k2 a1 (wrap64 (Int.tdiv x3_2 256)) y150 a2 (wrap64 (x43_2 + 1))) = some (r1, r2) := by first | (rw [hy150]; with_reducible exact H) | (have H2_ := (Option.bind_some _ _).symm.trans H; rw [hy150]; with_reducible exact H2_) | (have H2_ := (Option.bind_some _ _).symm.trans H; with_reducible exact H2_) | with_reducible exact H | (rw [hy150]; exact H) | exact H
                      have Ny150 := Aside0.mk hy150
                      clear hy150
                      have H' := Aside0.mk H
                      clear H
                      have p23 : 0 ≤ ((ji20) : Int) := of_decide_eq_true (by first | (with_reducible assumption) | assumption)
                      have q23 : ((ji20) : Int) < ((x10_2.length : Int) : Int) := of_decide_eq_true (by first | (with_reducible assumption) | assumption)
                      obtain ⟨go23, co23, eo23, gb23, gl23, cl23, HG23⟩ := Kd.R_form HO_10.out (by omega)
                      (first | cases eo23 | (injection eo23 with ea_ en_ ec_; (first | subst ea_ | (injection ea_ with ea_; subst ea_)); subst ec_; clear en_))
                      have GB23 := Aside0.mk gb23
                      have GG23 := Aside0.mk HG23
                      clear gb23 gl23 HG23
                      obtain ⟨hx23_0, hf23_0⟩ := Kd.R_celln 0 HO_10.out ((ji20) : Int) p23 q23
                      replace p23 := eq_true p23
                      replace q23 := eq_true q23
                      have HP24 := Kd.R_putg HO_10.out ((ji20) : Int) ((Int.tmod x3_2 256) % 256)
                      go_wp2_with (first | ((with_reducible refine gate_store (t := 5) (p := 53) rfl ?_); refine store_event (t := 5) (p := 53) (v := ?vo_w25) (w1 := (wr.setCell ⟨go23, ((ji20) : Int).toNat, none⟩ (.int .u8 ((Int.tmod x3_2 256) % 256)))) ?hg ?ho ?hn ?hr ?_; (case ho => rfl); (case hg => rfl); (case hn => rfl); (case hr => first | (go_simp; done) | (go_simp; rfl)); intro w25 hw; have hg : wr.grownBy w25 (some go23) := (by rw [hw]; exact HP24.2); have hp_ : Kd.R (Kd.int .u8) 5 w25 w.heap.size (fun _ => True) (.slice (some ⟨go23, 0, none⟩) x10_2.length co23) y150 := (by rw [hw, Ny150.out]; exact HP24.1); clear HP24; have n0_ := Aside0.mk (hp_); have n1_ := Aside0.mk ((by rw [hw]; exact below_set (HB.out) GB23.out : Below w.heap.size w w25)); clear HO_10; clear HB; have HO_10 := n0_; have HB := n1_; clear n0_ n1_; clear hg hw hp_))
                      go_roundg k2
                      case measure => have := HJ4.out; have := HK2.out; omega
                      case rel => exact ⟨(wrap64 (Int.tdiv x3_2 256)), (y150), (wrap64 (x43_2 + 1)), (by first | rfl | (simp; done) | (simp [*]; done)), (by first | rfl | (simp; done) | (simp [*]; done)), H', ⟨by have := HJ4.out; have := HK2.out; omega⟩, ⟨by (with_reducible repeat (first | apply Kd.R_alloc | apply Kd.R_drewN | apply Kd.R_drew)); exact HO_10.out⟩, ⟨by repeat (first | (with_reducible first | exact HB.out | apply below_alloc | apply pw_below_drewN | apply below_drew1) | exact HB.out)⟩⟩
                    · rw [if_neg c22] at H
                      exact absurd H (by simp)
                  · rw [if_neg c21] at H
                    exact absurd H (by simp)
                · rw [if_neg c19] at H
                  have c19b0 : decide (x43_2 < a2) = false := decide_eq_false c19
                  clear c19
                  simp only [Option.some.injEq, Prod.mk.injEq] at H
                  obtain ⟨rfl, rfl⟩ := H
                  go_wp2
                  go_ret2
                  exact ⟨_, by first | rfl | (simp [errW_none, errW_some] <;> rfl) | (simp [*, errW_none, errW_some] <;> rfl), by (with_reducible repeat (first | apply Kd.R_alloc | apply Kd.R_drewN | apply Kd.R_drew)); exact HO_10.out, by repeat (first | (with_reducible first | exact HB.out | apply below_alloc | apply pw_below_drewN | apply below_drew1) | exact HB.out)⟩
          · rw [if_neg c15] at H
            exact absurd H (by simp)

/-! ### bollardref03_number: function 49 -/
def bollardref03_number.f (k : Nat) (l0 : List Int) (a1 : Int) (a2 : Int) (a3 : Int) : Option (List Int) := (bollardref01_Put.f k l0 a1 a2 a3).bind fun bt151 => (some bt151.1)
theorem bollardref03_number.mono : ∀ a0 a1 a2 a3 k, LeO (bollardref03_number.f k a0 a1 a2 a3) (bollardref03_number.f (k + 1) a0 a1 a2 a3) := by
  intro a0 a1 a2 a3 k
  unfold bollardref03_number.f
  repeat' first
      | (with_reducible exact bollardref01_Put.mono _ _ _ _ _)
      | (with_reducible exact LeO.refl _)
      | (with_reducible exact LeO.none _)
      | (with_reducible refine LeO.ite ?_ ?_)
      | (with_reducible refine LeO.bind ?_ (fun _ => ?_))
      | exact bollardref01_Put.mono _ _ _ _ _
      | exact LeO.none _
      | refine LeO.ite ?_ ?_
      | refine LeO.bind ?_ (fun _ => ?_)
set_option maxHeartbeats 8000000 in
set_option maxRecDepth 100000 in
theorem bollardref03_number.calls (k : Nat) (A0 : Option Addr) (c0 : Nat) (l0 : List Int) (a1 : Int) (a2 : Int) (a3 : Int) (r : List Int) (w : World) (hr0 : Kd.C (Kd.int .u8) w A0 l0.length l0) (hc0 : l0.length ≤ c0) (h : bollardref03_number.f k l0 a1 a2 a3 = some r) :
    Calls Try.prog 49 #[.slice A0 l0.length c0, .int .i64 a1, .int .i64 a2, .int .i64 a3] w fun e w' => ∃ v0_ : Value, e = .returned (v0_) ∧ Kd.R (Kd.int .u8) 5 w' w.heap.size (fun _ => True) v0_ r ∧ Below w.heap.size w w' := by
  have HR0 := Aside0.mk hr0
  have HC0 := Aside0.mk hc0
  clear hr0 hc0
  have HB := Aside0.mk (Below.refl w.heap.size w)
  have H : ((bollardref01_Put.f k l0 a1 a2 a3).bind fun bt151 => (some bt151.1)) = some r := h
  clear h
  replace H := Option.bind_eq_some_iff.mp H
  obtain ⟨⟨t151, t152⟩, A50, H⟩ := H
  replace H : (some t151) = some r := H
  have A5 := Aside0.mk A50
  clear A50
  obtain rfl := Option.some.inj H
  go_enter Try.func49, Try.ntmps49
  go_wp2_with (first | ((with_reducible refine gate_callee (f := 58) rfl ?_); refine goesL_ (some 16) rfl rfl Try.func58 (by kernel_rfl) rfl #[.slice A0 l0.length c0, .int .i64 a1, .int .i64 a2, .int .i64 a3] rfl (by (try simp only [List.map_toArray, List.map_cons, List.map_nil]); first | done | rfl | (simp only [List.length_drop, List.length_take]; rfl)) ?_; (with_reducible refine (bollardref01_Put.calls k _ _ l0 a1 a2 a3 t151 t152 _ ?side1 ?side2 A5.out).mono ?_); (case side1 => repeat (first | exact HR0.out | (with_reducible refine Kd.C_alloc ?_ _) | (with_reducible refine Kd.C_drewN ?_ _) | (with_reducible refine Kd.C_drew ?_))); (case side2 => exact HC0.out); rintro e w6 ⟨v153, rfl, ho0, hb⟩; refine ⟨_, rfl, ?_⟩; have n0_ := Aside0.mk (Kd.R_lower ho0 (below_size (by repeat (first | (with_reducible first | exact HB.out | apply below_alloc | apply pw_below_drewN | apply below_drew1) | exact HB.out)))); have n1_ := Aside0.mk (below_step (by repeat (first | (with_reducible first | exact HB.out | apply below_alloc | apply pw_below_drewN | apply below_drew1) | exact HB.out)) hb); clear HB; have HO154 := n0_; have HB := n1_; clear n0_ n1_; (try clear hb); (try clear hb2); (try clear hk); (try clear hi); (try clear ho0)))
  go_ret
  exact ⟨_, by first | rfl | (simp [errW_none, errW_some] <;> rfl) | (simp [*, errW_none, errW_some] <;> rfl), by (with_reducible repeat (first | apply Kd.R_alloc | apply Kd.R_drewN | apply Kd.R_drew)); exact HO154.out, by repeat (first | (with_reducible first | exact HB.out | apply below_alloc | apply pw_below_drewN | apply below_drew1) | exact HB.out)⟩


/-! ### bollardref03_EncodeEntry: function 32 -/
def bollardref03_EncodeEntry.f (k : Nat) (a0_0 : Int) (a0_1 : ByteArray) : Option (List Int × Int) := if a0_0 = 0 ∧ a0_1.toList = [] then some (List.replicate 16 0, 0) else (if a0_0 < 1 ∨ 511 < a0_0 then some (([] : List Int), 1) else ((bollardref03_IsName.f k a0_1).bind fun t => (if t = true ∨ a0_1.toList = [46] ∨ a0_1.toList = [46, 46] then ((bollardref03_number.f k (List.replicate 16 0) 0 2 a0_0).bind fun b1 => ((bollardref03_number.f k b1 2 1 (a0_1.size : Int)).bind fun b2 => (if b2.length = 16 ∧ a0_1.size ≤ 13 then some (b2.take 3 ++ bytesOf a0_1 ++ b2.drop (3 + a0_1.size), 0) else none))) else some (([] : List Int), 1))))
theorem bollardref03_EncodeEntry.mono : ∀ a0 a1 k, LeO (bollardref03_EncodeEntry.f k a0 a1) (bollardref03_EncodeEntry.f (k + 1) a0 a1) := by
  intro a0 a1 k
  unfold bollardref03_EncodeEntry.f
  exact LeO.ite (LeO.refl _) (LeO.ite (LeO.refl _) (LeO.bind (bollardref03_IsName.mono _ _) (fun _ => LeO.ite (LeO.bind (bollardref03_number.mono _ _ _ _ _) (fun _ => LeO.bind (bollardref03_number.mono _ _ _ _ _) (fun _ => LeO.refl _))) (LeO.refl _))))
set_option maxHeartbeats 8000000 in
set_option maxRecDepth 100000 in
theorem bollardref03_EncodeEntry.calls (k : Nat) (a0_0 : Int) (a0_1 : ByteArray) (r1 : List Int) (r2 : Int) (w : World) (h : bollardref03_EncodeEntry.f k a0_0 a0_1 = some (r1, r2)) :
    Calls Try.prog 32 #[.agg #[.int .i64 a0_0, .string a0_1]] w fun e w' => ∃ v0_ : Value, e = .returned (.tuple #[v0_, .int .i64 r2]) ∧ Kd.R (Kd.int .u8) 5 w' w.heap.size (fun _ => True) v0_ r1 ∧ Below w.heap.size w w' := by
  unfold bollardref03_EncodeEntry.f at h
  obtain ⟨i0, hi, hz0, hz1, hz2⟩ := info_parts info5
  by_cases hz : a0_0 = 0 ∧ a0_1.toList = []
  · rw [if_pos hz] at h
    simp only [Option.some.injEq, Prod.mk.injEq] at h
    obtain ⟨rfl, rfl⟩ := h
    obtain ⟨rfl, hs⟩ := hz
    have hb8 : a0_1.toList.isEmpty = true := by rw [hs]; rfl
    clear hs
    go_enter Try.func32, Try.ntmps32
    go_wp2_with (first
      | ((with_reducible refine gate_dst (N := 1) rfl ?_); refine box_event ?hg (N := 1) ?hd (cs := #[.int .i64 0, .string a0_1]) (t := 27) ?hr ?_; (case hd => rfl); (case hg => rfl); (case hr => first | (go_simp; done) | (go_simp; rfl)); intro gb hg w6 hbox hb; have HB := Aside0.mk hb; have GE := Aside0.mk (show w.heap.size ≤ gb by rw [hg]; exact Nat.le_refl _); have BK := Aside0.mk hbox; clear hb hbox hg; have hcz0 : w6.cell? ⟨gb, 0, none⟩ = some (.int .i64 0) := (blk_cell BK.out 0).trans rfl; have hcz1 : w6.cell? ⟨gb, 1, none⟩ = some (.string a0_1) := (blk_cell BK.out 1).trans rfl)
      | ((with_reducible refine gate_dst (N := 5) rfl ?_); refine wpList_make_full _ rfl (.const (.int .i64 16)) (.const (.int .i64 16)) 22 rfl w.heap.size 5 i0 (.int .u8 0) 1 Try.underlying22 hi hz0 hz1 .i64 .i64 16 16 16 rfl rfl rfl rfl (by rw [hz2]; omega) (by simp only [maxLen]; omega) HB.out.size ?_; intro w1 hown hg1; have HH := Aside0.mk (Rd.made_block hown); have BK1 := Aside0.mk (blk_grown (g := gb) BK.out hg1 (by simp)); have HB1 := Aside0.mk (HB.out.grown hg1 HB.out.size (fun k hk => by cases hk)); have GT := Aside0.mk HB.out.size; clear hown hg1 BK HB hcz0 hcz1; have hcz0 : w1.cell? ⟨gb, 0, none⟩ = some (.int .i64 0) := (blk_cell BK1.out 0).trans rfl; have hcz1 : w1.cell? ⟨gb, 1, none⟩ = some (.string a0_1) := (blk_cell BK1.out 1).trans rfl))
    go_ret2
    have hR := Rd.R_bytes (ok := fun _ => True) (List.replicate 16 0) HH.out GT.out (by decide) trivial
    rw [List.length_replicate] at hR
    refine ⟨.slice (some ⟨w6.heap.size, 0, none⟩) 16 16, rfl, hR, HB1.out⟩
  · rw [if_neg hz] at h
    have hb8 : (a0_0 == 0 && a0_1.toList.isEmpty) = false := by
      rw [Bool.and_eq_false_iff, beq_eq_false_iff_ne]
      by_cases h0 : a0_0 = 0
      · right
        cases hl : a0_1.toList with
        | nil => exact absurd ⟨h0, hl⟩ hz
        | cons x t => rfl
      · exact .inl h0
    clear hz
    by_cases hr : a0_0 < 1 ∨ 511 < a0_0
    · rw [if_pos hr] at h
      simp only [Option.some.injEq, Prod.mk.injEq] at h
      obtain ⟨rfl, rfl⟩ := h
      rcases hr with hr | hr
      · have c1 : decide (a0_0 < 1) = true := decide_eq_true hr
        have hq : (a0_0 == 0) = false ∨ ((a0_0 == 0) = true ∧ a0_1.toList.isEmpty = false) := by
          rw [Bool.and_eq_false_iff] at hb8
          cases h0 : (a0_0 == 0)
          · exact .inl rfl
          · rcases hb8 with h | h
            · rw [h0] at h; cases h
            · exact .inr ⟨rfl, h⟩
        clear hb8
        rcases hq with hb0 | ⟨hb0, hbE⟩
        all_goals
          go_enter Try.func32, Try.ntmps32
          go_wp2_with (first
            | ((with_reducible refine gate_dst (N := 1) rfl ?_); refine box_event ?hg (N := 1) ?hd (cs := #[.int .i64 a0_0, .string a0_1]) (t := 27) ?hr ?_; (case hd => rfl); (case hg => rfl); (case hr => first | (go_simp; done) | (go_simp; rfl)); intro gb hg w6 hbox hb; have HB := Aside0.mk hb; have GE := Aside0.mk (show w.heap.size ≤ gb by rw [hg]; exact Nat.le_refl _); have BK := Aside0.mk hbox; clear hb hbox hg; have hcz0 : w6.cell? ⟨gb, 0, none⟩ = some (.int .i64 a0_0) := (blk_cell BK.out 0).trans rfl; have hcz1 : w6.cell? ⟨gb, 1, none⟩ = some (.string a0_1) := (blk_cell BK.out 1).trans rfl)
            | ((with_reducible refine gate_dst (N := 5) rfl ?_); refine wpList_make_full _ rfl (.const (.int .i64 16)) (.const (.int .i64 16)) 22 rfl w.heap.size 5 i0 (.int .u8 0) 1 Try.underlying22 hi hz0 hz1 .i64 .i64 16 16 16 rfl rfl rfl rfl (by rw [hz2]; omega) (by simp only [maxLen]; omega) HB.out.size ?_; intro w1 hown hg1; have HH := Aside0.mk (Rd.made_block hown); have BK1 := Aside0.mk (blk_grown (g := gb) BK.out hg1 (by simp)); have HB1 := Aside0.mk (HB.out.grown hg1 HB.out.size (fun k hk => by cases hk)); have GT := Aside0.mk HB.out.size; clear hown hg1 BK HB hcz0 hcz1; have hcz0 : w1.cell? ⟨gb, 0, none⟩ = some (.int .i64 a0_0) := (blk_cell BK1.out 0).trans rfl; have hcz1 : w1.cell? ⟨gb, 1, none⟩ = some (.string a0_1) := (blk_cell BK1.out 1).trans rfl))
          go_ret2
          exact ⟨_, rfl, Kd.R_nil _ _ _ _ _, HB1.out⟩
      · have c0 : decide (a0_0 < 1) = false := decide_eq_false (by omega)
        have c1 : decide (511 < a0_0) = true := decide_eq_true hr
        have hb0 : (a0_0 == 0) = false := beq_eq_false_iff_ne.mpr (by omega)
        clear hb8
        go_enter Try.func32, Try.ntmps32
        go_wp2_with (first
          | ((with_reducible refine gate_dst (N := 1) rfl ?_); refine box_event ?hg (N := 1) ?hd (cs := #[.int .i64 a0_0, .string a0_1]) (t := 27) ?hr ?_; (case hd => rfl); (case hg => rfl); (case hr => first | (go_simp; done) | (go_simp; rfl)); intro gb hg w6 hbox hb; have HB := Aside0.mk hb; have GE := Aside0.mk (show w.heap.size ≤ gb by rw [hg]; exact Nat.le_refl _); have BK := Aside0.mk hbox; clear hb hbox hg; have hcz0 : w6.cell? ⟨gb, 0, none⟩ = some (.int .i64 a0_0) := (blk_cell BK.out 0).trans rfl; have hcz1 : w6.cell? ⟨gb, 1, none⟩ = some (.string a0_1) := (blk_cell BK.out 1).trans rfl)
          | ((with_reducible refine gate_dst (N := 5) rfl ?_); refine wpList_make_full _ rfl (.const (.int .i64 16)) (.const (.int .i64 16)) 22 rfl w.heap.size 5 i0 (.int .u8 0) 1 Try.underlying22 hi hz0 hz1 .i64 .i64 16 16 16 rfl rfl rfl rfl (by rw [hz2]; omega) (by simp only [maxLen]; omega) HB.out.size ?_; intro w1 hown hg1; have HH := Aside0.mk (Rd.made_block hown); have BK1 := Aside0.mk (blk_grown (g := gb) BK.out hg1 (by simp)); have HB1 := Aside0.mk (HB.out.grown hg1 HB.out.size (fun k hk => by cases hk)); have GT := Aside0.mk HB.out.size; clear hown hg1 BK HB hcz0 hcz1; have hcz0 : w1.cell? ⟨gb, 0, none⟩ = some (.int .i64 a0_0) := (blk_cell BK1.out 0).trans rfl; have hcz1 : w1.cell? ⟨gb, 1, none⟩ = some (.string a0_1) := (blk_cell BK1.out 1).trans rfl))
        go_ret2
        exact ⟨_, rfl, Kd.R_nil _ _ _ _ _, HB1.out⟩
    · rw [if_neg hr] at h
      have c0 : decide (a0_0 < 1) = false := decide_eq_false (by omega)
      have c1 : decide (511 < a0_0) = false := decide_eq_false (by omega)
      replace h := Option.bind_eq_some_iff.mp h
      obtain ⟨t, ht, h⟩ := h
      have hb0 : (a0_0 == 0) = false := beq_eq_false_iff_ne.mpr (by omega)
      clear hr hb8
      have HT := Aside0.mk ht
      clear ht
      by_cases hn : t = true ∨ a0_1.toList = [46] ∨ a0_1.toList = [46, 46]
      · rw [if_pos hn] at h
        replace h := Option.bind_eq_some_iff.mp h
        obtain ⟨b1, hb1, h⟩ := h
        replace h := Option.bind_eq_some_iff.mp h
        obtain ⟨b2, hb2, h⟩ := h
        by_cases hlen : b2.length = 16 ∧ a0_1.size ≤ 13
        · rw [if_pos hlen] at h
          simp only [Option.some.injEq, Prod.mk.injEq] at h
          obtain ⟨rfl, rfl⟩ := h
          have HL := Aside0.mk hlen.1
          have HS := Aside0.mk hlen.2
          have hsz : a0_1.size ≤ 13 := hlen.2
          have HN1 := Aside0.mk (fun (W : World) (A : Option Addr) (hC : Kd.C (Kd.int .u8) W A (List.replicate 16 (0 : Int)).length (List.replicate 16 0)) => bollardref03_number.calls k A 16 (List.replicate 16 0) 0 2 a0_0 b1 W hC (by decide) hb1)
          rw [List.length_replicate] at HN1
          have H2 := Aside0.mk hb2
          have hh : (t = true) ∨ (t = false ∧ a0_1.toList = [46]) ∨ (t = false ∧ a0_1.toList ≠ [46] ∧ a0_1.toList = [46, 46]) := by
            cases t
            · by_cases e : a0_1.toList = [46]
              · exact .inr (.inl ⟨rfl, e⟩)
              · rcases hn with h | h | h
                · cases h
                · exact absurd h e
                · exact .inr (.inr ⟨rfl, e, h⟩)
            · exact .inl rfl
          clear hlen hb1 hb2 hn
          rcases hh with ht | ⟨ht, hn1⟩ | ⟨ht, hn1, hn2⟩
          · subst ht
            go_enter Try.func32, Try.ntmps32
            go_wp2_with (first
              | ((with_reducible refine gate_dst (N := 1) rfl ?_); refine box_event ?hg (N := 1) ?hd (cs := #[.int .i64 a0_0, .string a0_1]) (t := 27) ?hr ?_; (case hd => rfl); (case hg => rfl); (case hr => first | (go_simp; done) | (go_simp; rfl)); intro gb hg w6 hbox hb; have HB := Aside0.mk hb; have GE := Aside0.mk (show w.heap.size ≤ gb by rw [hg]; exact Nat.le_refl _); have BK := Aside0.mk hbox; clear hb hbox hg; have hcz0 : w6.cell? ⟨gb, 0, none⟩ = some (.int .i64 a0_0) := (blk_cell BK.out 0).trans rfl; have hcz1 : w6.cell? ⟨gb, 1, none⟩ = some (.string a0_1) := (blk_cell BK.out 1).trans rfl)
              | ((with_reducible refine gate_dst (N := 5) rfl ?_); refine wpList_make_full _ rfl (.const (.int .i64 16)) (.const (.int .i64 16)) 22 rfl w.heap.size 5 i0 (.int .u8 0) 1 Try.underlying22 hi hz0 hz1 .i64 .i64 16 16 16 rfl rfl rfl rfl (by rw [hz2]; omega) (by simp only [maxLen]; omega) HB.out.size ?_; intro w1 hown hg1; have HH := Aside0.mk (Rd.made_block hown); have BK1 := Aside0.mk (blk_grown (g := gb) BK.out hg1 (by simp)); have HB1 := Aside0.mk (HB.out.grown hg1 HB.out.size (fun k hk => by cases hk)); have GT := Aside0.mk HB.out.size; clear hown hg1 BK HB hcz0 hcz1; have hcz0 : w1.cell? ⟨gb, 0, none⟩ = some (.int .i64 a0_0) := (blk_cell BK1.out 0).trans rfl; have hcz1 : w1.cell? ⟨gb, 1, none⟩ = some (.string a0_1) := (blk_cell BK1.out 1).trans rfl)
              | (go_at_call 48; refine (bollardref03_IsName.calls k a0_1 _ _ HT.out).mono ?_; rintro e w7 ⟨rfl, ⟨nd, rfl⟩⟩)
              | (go_at_call 49; refine (HN1.out _ _ (Kd.C_drewN (Kd.R_reads' (Rd.R_bytes (base := w.heap.size) (ok := fun _ => True) (List.replicate 16 0) HH.out GT.out (by decide) trivial)).2.2 _)).mono ?_; clear HN1; rintro e w8 ⟨v8, rfl, hr8, hb8⟩; have HR8 := Aside0.mk hr8; have HB8 := Aside0.mk (below_then (pw_below_drewN HB1.out nd) HB1.out.size hb8); have BK8 := Aside0.mk (blk_below (g := gb) (o := .cells #[.int .i64 a0_0, .string a0_1] 27 (0, 0)) (blk_drewN BK1.out nd) hb8); clear hr8 hb8 HB1 BK1 hcz0 hcz1; obtain ⟨A8, c8, e8⟩ := Kd.R_slice HR8.out; subst e8; have hcz0 : w8.cell? ⟨gb, 0, none⟩ = some (.int .i64 a0_0) := (blk_cell BK8.out 0).trans rfl; have hcz1 : w8.cell? ⟨gb, 1, none⟩ = some (.string a0_1) := (blk_cell BK8.out 1).trans rfl)
              | (go_at_call 49; refine (bollardref03_number.calls k A8 c8 b1 2 1 (a0_1.size : Int) b2 _ (Kd.R_reads' HR8.out).2.2 (Kd.R_reads' HR8.out).2.1 H2.out).mono ?_; rintro e w9 ⟨v9, rfl, hr9, hb9⟩; have HO9 := Aside0.mk (Kd.own_of_R hr9); have HS9 := Aside0.mk HB8.out.size; have HB9 := Aside0.mk (below_then HB8.out HB8.out.size hb9); have BK9 := Aside0.mk (blk_below (g := gb) (o := .cells #[.int .i64 a0_0, .string a0_1] 27 (0, 0)) BK8.out hb9); clear hr9 hb9 HB8 BK8 HR8 hcz0 hcz1; have hcz0 : w9.cell? ⟨gb, 0, none⟩ = some (.int .i64 a0_0) := (blk_cell BK9.out 0).trans rfl; have hcz1 : w9.cell? ⟨gb, 1, none⟩ = some (.string a0_1) := (blk_cell BK9.out 1).trans rfl))
            obtain ⟨g, cap, cur, hv9, hbg, hheap, hle, hmax, hcs, htk⟩ := Rd.own_open HO9.out (by have := HL.out; omega)
            subst hv9
            rw [HL.out] at hle htk ⊢
            have hc3 : ¬ cap = 3 := by omega
            have hcopy := Lib.run_copy_row_string (P := Try.prog) w9.drew 22 9 3 5 g 3 13 (cap - 3) a0_1 cur 5 Try.underlying22 (by rw [hi, Option.map_some, hz1]) hheap hsz (by omega)
            go_region
            go_wp2
            go_ret2
            exact ⟨_, rfl, Rd.name_R (W := w9.drew) (Nat.le_trans HS9.out hbg) hheap hle hmax hcs htk HL.out hsz, below_setRow (below_drew1 HB9.out) (Nat.le_trans HS9.out hbg) _⟩
          · subst ht
            have n1 : (a0_1.toList == [46]) = true := beq_iff_eq.mpr hn1
            clear hn1
            go_enter Try.func32, Try.ntmps32
            go_wp2_with (first
              | ((with_reducible refine gate_dst (N := 1) rfl ?_); refine box_event ?hg (N := 1) ?hd (cs := #[.int .i64 a0_0, .string a0_1]) (t := 27) ?hr ?_; (case hd => rfl); (case hg => rfl); (case hr => first | (go_simp; done) | (go_simp; rfl)); intro gb hg w6 hbox hb; have HB := Aside0.mk hb; have GE := Aside0.mk (show w.heap.size ≤ gb by rw [hg]; exact Nat.le_refl _); have BK := Aside0.mk hbox; clear hb hbox hg; have hcz0 : w6.cell? ⟨gb, 0, none⟩ = some (.int .i64 a0_0) := (blk_cell BK.out 0).trans rfl; have hcz1 : w6.cell? ⟨gb, 1, none⟩ = some (.string a0_1) := (blk_cell BK.out 1).trans rfl)
              | ((with_reducible refine gate_dst (N := 5) rfl ?_); refine wpList_make_full _ rfl (.const (.int .i64 16)) (.const (.int .i64 16)) 22 rfl w.heap.size 5 i0 (.int .u8 0) 1 Try.underlying22 hi hz0 hz1 .i64 .i64 16 16 16 rfl rfl rfl rfl (by rw [hz2]; omega) (by simp only [maxLen]; omega) HB.out.size ?_; intro w1 hown hg1; have HH := Aside0.mk (Rd.made_block hown); have BK1 := Aside0.mk (blk_grown (g := gb) BK.out hg1 (by simp)); have HB1 := Aside0.mk (HB.out.grown hg1 HB.out.size (fun k hk => by cases hk)); have GT := Aside0.mk HB.out.size; clear hown hg1 BK HB hcz0 hcz1; have hcz0 : w1.cell? ⟨gb, 0, none⟩ = some (.int .i64 a0_0) := (blk_cell BK1.out 0).trans rfl; have hcz1 : w1.cell? ⟨gb, 1, none⟩ = some (.string a0_1) := (blk_cell BK1.out 1).trans rfl)
              | (go_at_call 48; refine (bollardref03_IsName.calls k a0_1 _ _ HT.out).mono ?_; rintro e w7 ⟨rfl, ⟨nd, rfl⟩⟩)
              | (go_at_call 49; refine (HN1.out _ _ (Kd.C_drewN (Kd.R_reads' (Rd.R_bytes (base := w.heap.size) (ok := fun _ => True) (List.replicate 16 0) HH.out GT.out (by decide) trivial)).2.2 _)).mono ?_; clear HN1; rintro e w8 ⟨v8, rfl, hr8, hb8⟩; have HR8 := Aside0.mk hr8; have HB8 := Aside0.mk (below_then (pw_below_drewN HB1.out nd) HB1.out.size hb8); have BK8 := Aside0.mk (blk_below (g := gb) (o := .cells #[.int .i64 a0_0, .string a0_1] 27 (0, 0)) (blk_drewN BK1.out nd) hb8); clear hr8 hb8 HB1 BK1 hcz0 hcz1; obtain ⟨A8, c8, e8⟩ := Kd.R_slice HR8.out; subst e8; have hcz0 : w8.cell? ⟨gb, 0, none⟩ = some (.int .i64 a0_0) := (blk_cell BK8.out 0).trans rfl; have hcz1 : w8.cell? ⟨gb, 1, none⟩ = some (.string a0_1) := (blk_cell BK8.out 1).trans rfl)
              | (go_at_call 49; refine (bollardref03_number.calls k A8 c8 b1 2 1 (a0_1.size : Int) b2 _ (Kd.R_reads' HR8.out).2.2 (Kd.R_reads' HR8.out).2.1 H2.out).mono ?_; rintro e w9 ⟨v9, rfl, hr9, hb9⟩; have HO9 := Aside0.mk (Kd.own_of_R hr9); have HS9 := Aside0.mk HB8.out.size; have HB9 := Aside0.mk (below_then HB8.out HB8.out.size hb9); have BK9 := Aside0.mk (blk_below (g := gb) (o := .cells #[.int .i64 a0_0, .string a0_1] 27 (0, 0)) BK8.out hb9); clear hr9 hb9 HB8 BK8 HR8 hcz0 hcz1; have hcz0 : w9.cell? ⟨gb, 0, none⟩ = some (.int .i64 a0_0) := (blk_cell BK9.out 0).trans rfl; have hcz1 : w9.cell? ⟨gb, 1, none⟩ = some (.string a0_1) := (blk_cell BK9.out 1).trans rfl))
            obtain ⟨g, cap, cur, hv9, hbg, hheap, hle, hmax, hcs, htk⟩ := Rd.own_open HO9.out (by have := HL.out; omega)
            subst hv9
            rw [HL.out] at hle htk ⊢
            have hc3 : ¬ cap = 3 := by omega
            have hcopy := Lib.run_copy_row_string (P := Try.prog) w9.drew 22 9 3 5 g 3 13 (cap - 3) a0_1 cur 5 Try.underlying22 (by rw [hi, Option.map_some, hz1]) hheap hsz (by omega)
            go_region
            go_wp2
            go_ret2
            exact ⟨_, rfl, Rd.name_R (W := w9.drew) (Nat.le_trans HS9.out hbg) hheap hle hmax hcs htk HL.out hsz, below_setRow (below_drew1 HB9.out) (Nat.le_trans HS9.out hbg) _⟩
          · subst ht
            have n1 : (a0_1.toList == [46]) = false := beq_eq_false_iff_ne.mpr hn1
            have n2 : (a0_1.toList == [46, 46]) = true := beq_iff_eq.mpr hn2
            clear hn1 hn2
            go_enter Try.func32, Try.ntmps32
            go_wp2_with (first
              | ((with_reducible refine gate_dst (N := 1) rfl ?_); refine box_event ?hg (N := 1) ?hd (cs := #[.int .i64 a0_0, .string a0_1]) (t := 27) ?hr ?_; (case hd => rfl); (case hg => rfl); (case hr => first | (go_simp; done) | (go_simp; rfl)); intro gb hg w6 hbox hb; have HB := Aside0.mk hb; have GE := Aside0.mk (show w.heap.size ≤ gb by rw [hg]; exact Nat.le_refl _); have BK := Aside0.mk hbox; clear hb hbox hg; have hcz0 : w6.cell? ⟨gb, 0, none⟩ = some (.int .i64 a0_0) := (blk_cell BK.out 0).trans rfl; have hcz1 : w6.cell? ⟨gb, 1, none⟩ = some (.string a0_1) := (blk_cell BK.out 1).trans rfl)
              | ((with_reducible refine gate_dst (N := 5) rfl ?_); refine wpList_make_full _ rfl (.const (.int .i64 16)) (.const (.int .i64 16)) 22 rfl w.heap.size 5 i0 (.int .u8 0) 1 Try.underlying22 hi hz0 hz1 .i64 .i64 16 16 16 rfl rfl rfl rfl (by rw [hz2]; omega) (by simp only [maxLen]; omega) HB.out.size ?_; intro w1 hown hg1; have HH := Aside0.mk (Rd.made_block hown); have BK1 := Aside0.mk (blk_grown (g := gb) BK.out hg1 (by simp)); have HB1 := Aside0.mk (HB.out.grown hg1 HB.out.size (fun k hk => by cases hk)); have GT := Aside0.mk HB.out.size; clear hown hg1 BK HB hcz0 hcz1; have hcz0 : w1.cell? ⟨gb, 0, none⟩ = some (.int .i64 a0_0) := (blk_cell BK1.out 0).trans rfl; have hcz1 : w1.cell? ⟨gb, 1, none⟩ = some (.string a0_1) := (blk_cell BK1.out 1).trans rfl)
              | (go_at_call 48; refine (bollardref03_IsName.calls k a0_1 _ _ HT.out).mono ?_; rintro e w7 ⟨rfl, ⟨nd, rfl⟩⟩)
              | (go_at_call 49; refine (HN1.out _ _ (Kd.C_drewN (Kd.R_reads' (Rd.R_bytes (base := w.heap.size) (ok := fun _ => True) (List.replicate 16 0) HH.out GT.out (by decide) trivial)).2.2 _)).mono ?_; clear HN1; rintro e w8 ⟨v8, rfl, hr8, hb8⟩; have HR8 := Aside0.mk hr8; have HB8 := Aside0.mk (below_then (pw_below_drewN HB1.out nd) HB1.out.size hb8); have BK8 := Aside0.mk (blk_below (g := gb) (o := .cells #[.int .i64 a0_0, .string a0_1] 27 (0, 0)) (blk_drewN BK1.out nd) hb8); clear hr8 hb8 HB1 BK1 hcz0 hcz1; obtain ⟨A8, c8, e8⟩ := Kd.R_slice HR8.out; subst e8; have hcz0 : w8.cell? ⟨gb, 0, none⟩ = some (.int .i64 a0_0) := (blk_cell BK8.out 0).trans rfl; have hcz1 : w8.cell? ⟨gb, 1, none⟩ = some (.string a0_1) := (blk_cell BK8.out 1).trans rfl)
              | (go_at_call 49; refine (bollardref03_number.calls k A8 c8 b1 2 1 (a0_1.size : Int) b2 _ (Kd.R_reads' HR8.out).2.2 (Kd.R_reads' HR8.out).2.1 H2.out).mono ?_; rintro e w9 ⟨v9, rfl, hr9, hb9⟩; have HO9 := Aside0.mk (Kd.own_of_R hr9); have HS9 := Aside0.mk HB8.out.size; have HB9 := Aside0.mk (below_then HB8.out HB8.out.size hb9); have BK9 := Aside0.mk (blk_below (g := gb) (o := .cells #[.int .i64 a0_0, .string a0_1] 27 (0, 0)) BK8.out hb9); clear hr9 hb9 HB8 BK8 HR8 hcz0 hcz1; have hcz0 : w9.cell? ⟨gb, 0, none⟩ = some (.int .i64 a0_0) := (blk_cell BK9.out 0).trans rfl; have hcz1 : w9.cell? ⟨gb, 1, none⟩ = some (.string a0_1) := (blk_cell BK9.out 1).trans rfl))
            obtain ⟨g, cap, cur, hv9, hbg, hheap, hle, hmax, hcs, htk⟩ := Rd.own_open HO9.out (by have := HL.out; omega)
            subst hv9
            rw [HL.out] at hle htk ⊢
            have hc3 : ¬ cap = 3 := by omega
            have hcopy := Lib.run_copy_row_string (P := Try.prog) w9.drew 22 9 3 5 g 3 13 (cap - 3) a0_1 cur 5 Try.underlying22 (by rw [hi, Option.map_some, hz1]) hheap hsz (by omega)
            go_region
            go_wp2
            go_ret2
            exact ⟨_, rfl, Rd.name_R (W := w9.drew) (Nat.le_trans HS9.out hbg) hheap hle hmax hcs htk HL.out hsz, below_setRow (below_drew1 HB9.out) (Nat.le_trans HS9.out hbg) _⟩
        · rw [if_neg hlen] at h
          cases h
      · rw [if_neg hn] at h
        simp only [Option.some.injEq, Prod.mk.injEq] at h
        obtain ⟨rfl, rfl⟩ := h
        obtain rfl : t = false := by cases t; rfl; exact absurd (.inl rfl) hn
        have n1 : (a0_1.toList == [46]) = false := by rw [beq_eq_false_iff_ne]; intro e; exact hn (.inr (.inl e))
        have n2 : (a0_1.toList == [46, 46]) = false := by rw [beq_eq_false_iff_ne]; intro e; exact hn (.inr (.inr e))
        clear hn
        go_enter Try.func32, Try.ntmps32
        go_wp2_with (first
          | ((with_reducible refine gate_dst (N := 1) rfl ?_); refine box_event ?hg (N := 1) ?hd (cs := #[.int .i64 a0_0, .string a0_1]) (t := 27) ?hr ?_; (case hd => rfl); (case hg => rfl); (case hr => first | (go_simp; done) | (go_simp; rfl)); intro gb hg w6 hbox hb; have HB := Aside0.mk hb; have GE := Aside0.mk (show w.heap.size ≤ gb by rw [hg]; exact Nat.le_refl _); have BK := Aside0.mk hbox; clear hb hbox hg; have hcz0 : w6.cell? ⟨gb, 0, none⟩ = some (.int .i64 a0_0) := (blk_cell BK.out 0).trans rfl; have hcz1 : w6.cell? ⟨gb, 1, none⟩ = some (.string a0_1) := (blk_cell BK.out 1).trans rfl)
          | ((with_reducible refine gate_dst (N := 5) rfl ?_); refine wpList_make_full _ rfl (.const (.int .i64 16)) (.const (.int .i64 16)) 22 rfl w.heap.size 5 i0 (.int .u8 0) 1 Try.underlying22 hi hz0 hz1 .i64 .i64 16 16 16 rfl rfl rfl rfl (by rw [hz2]; omega) (by simp only [maxLen]; omega) HB.out.size ?_; intro w1 hown hg1; have HH := Aside0.mk (Rd.made_block hown); have BK1 := Aside0.mk (blk_grown (g := gb) BK.out hg1 (by simp)); have HB1 := Aside0.mk (HB.out.grown hg1 HB.out.size (fun k hk => by cases hk)); have GT := Aside0.mk HB.out.size; clear hown hg1 BK HB hcz0 hcz1; have hcz0 : w1.cell? ⟨gb, 0, none⟩ = some (.int .i64 a0_0) := (blk_cell BK1.out 0).trans rfl; have hcz1 : w1.cell? ⟨gb, 1, none⟩ = some (.string a0_1) := (blk_cell BK1.out 1).trans rfl)
          | (go_at_call 48; refine (bollardref03_IsName.calls k a0_1 false _ HT.out).mono ?_; rintro e w7 ⟨rfl, ⟨nd, rfl⟩⟩))
        go_ret2
        exact ⟨_, rfl, Kd.R_nil _ _ _ _ _, by repeat (first | exact HB1.out | apply pw_below_drewN)⟩

end Go.Proofs.Ytnbkbmhiajfbpaa.XDirsBack
