-- Written by a program of this session (wip/tools)
import Derived.Test.YtnbkbmhiajfbpaaXDirsTurnsx0
import Derived.Test.YtnbkbmhiajfbpaaXDirsTurnsx4
namespace Go.Proofs.Ytnbkbmhiajfbpaa.XDirsTurns
open Go.RowKit Go.Proofs.YtnbkbmhiajfbpaaW.PrintWords Go.Proofs.YtnbkbmhiajfbpaaW.PrintLast Go.Proofs.YtnbkbmhiajfbpaaW.PrintMore
attribute [local go_sem] max2_int min2_int max_two min_two max_three min_three max_four min_four   -- for this text's walks alone
set_option linter.unusedVariables false
set_option linter.unusedSimpArgs false


/-! ### bollardref03_EncodeEntry: function 32 -/
def bollardref03_EncodeEntry.f (k : Nat) (a0_0 : Int) (a0_1 : ByteArray) : Option (List Int × Int) := if a0_0 = 0 ∧ a0_1.toList = [] then some (List.replicate 16 0, 0) else (if a0_0 < 1 ∨ 511 < a0_0 then some (([] : List Int), 1) else ((bollardref03_IsName.f k a0_1).bind fun t => (if t = true ∨ a0_1.toList = [46] ∨ a0_1.toList = [46, 46] then ((bollardref03_number.f k (List.replicate 16 0) 0 2 a0_0).bind fun b1 => ((bollardref03_number.f k b1 2 1 (a0_1.size : Int)).bind fun b2 => (if b2.length = 16 ∧ a0_1.size ≤ 13 then some (b2.take 3 ++ bytesOf a0_1 ++ b2.drop (3 + a0_1.size), 0) else none))) else some (([] : List Int), 1))))
theorem bollardref03_EncodeEntry.mono : ∀ a0 a1 k, LeO (bollardref03_EncodeEntry.f k a0 a1) (bollardref03_EncodeEntry.f (k + 1) a0 a1) := by
  intro a0 a1 k
  unfold bollardref03_EncodeEntry.f
  exact LeO.ite (LeO.refl _) (LeO.ite (LeO.refl _) (LeO.bind (bollardref03_IsName.mono _ _) (fun _ => LeO.ite (LeO.bind (bollardref03_number.mono _ _ _ _ _) (fun _ => LeO.bind (bollardref03_number.mono _ _ _ _ _) (fun _ => LeO.refl _))) (LeO.refl _))))
set_option maxHeartbeats 8000000 in
set_option maxRecDepth 100000 in
theorem bollardref03_EncodeEntry.calls (k : Nat) (a0_0 : Int) (a0_1 : ByteArray) (r1 : List Int) (r2 : Int) (w : World) (h : bollardref03_EncodeEntry.f k a0_0 a0_1 = some (r1, r2)) :
    Calls Try.prog 32 #[.agg #[.int .i64 a0_0, .string a0_1]] w fun e w' => ∃ v0_ : Value, e = .returned (.tuple #[v0_, .int .i64 r2]) ∧ Kd.R (Kd.int .u8) 5 w' w.heap.size (fun _ => True) v0_ r1 ∧ Below w.heap.size w w' := by
  unfold bollardref03_EncodeEntry.f at h
  obtain ⟨i0, hi, hz0, hz1, hz2⟩ := info_parts info5
  by_cases hz : a0_0 = 0 ∧ a0_1.toList = []
  · rw [if_pos hz] at h
    simp only [Option.some.injEq, Prod.mk.injEq] at h
    obtain ⟨rfl, rfl⟩ := h
    obtain ⟨rfl, hs⟩ := hz
    have hb8 : a0_1.toList.isEmpty = true := by rw [hs]; rfl
    clear hs
    go_enter Try.func32, Try.ntmps32
    go_wp2_with (first
      | ((with_reducible refine gate_dst (N := 1) rfl ?_); refine box_event ?hg (N := 1) ?hd (cs := #[.int .i64 0, .string a0_1]) (t := 27) ?hr ?_; (case hd => rfl); (case hg => rfl); (case hr => first | (go_simp; done) | (go_simp; rfl)); intro gb hg w6 hbox hb; have HB := Aside0.mk hb; have GE := Aside0.mk (show w.heap.size ≤ gb by rw [hg]; exact Nat.le_refl _); have BK := Aside0.mk hbox; clear hb hbox hg; have hcz0 : w6.cell? ⟨gb, 0, none⟩ = some (.int .i64 0) := (blk_cell BK.out 0).trans rfl; have hcz1 : w6.cell? ⟨gb, 1, none⟩ = some (.string a0_1) := (blk_cell BK.out 1).trans rfl)
      | ((with_reducible refine gate_dst (N := 5) rfl ?_); refine wpList_make_full _ rfl (.const (.int .i64 16)) (.const (.int .i64 16)) 22 rfl w.heap.size 5 i0 (.int .u8 0) 1 Try.underlying22 hi hz0 hz1 .i64 .i64 16 16 16 rfl rfl rfl rfl (by rw [hz2]; omega) (by simp only [maxLen]; omega) HB.out.size ?_; intro w1 hown hg1; have HH := Aside0.mk (Rd.made_block hown); have BK1 := Aside0.mk (blk_grown (g := gb) BK.out hg1 (by simp)); have HB1 := Aside0.mk (HB.out.grown hg1 HB.out.size (fun k hk => by cases hk)); have GT := Aside0.mk HB.out.size; clear hown hg1 BK HB hcz0 hcz1; have hcz0 : w1.cell? ⟨gb, 0, none⟩ = some (.int .i64 0) := (blk_cell BK1.out 0).trans rfl; have hcz1 : w1.cell? ⟨gb, 1, none⟩ = some (.string a0_1) := (blk_cell BK1.out 1).trans rfl))
    go_ret2
    have hR := Rd.R_bytes (ok := fun _ => True) (List.replicate 16 0) HH.out GT.out (by decide) trivial
    rw [List.length_replicate] at hR
    refine ⟨.slice (some ⟨w6.heap.size, 0, none⟩) 16 16, rfl, hR, HB1.out⟩
  · rw [if_neg hz] at h
    have hb8 : (a0_0 == 0 && a0_1.toList.isEmpty) = false := by
      rw [Bool.and_eq_false_iff, beq_eq_false_iff_ne]
      by_cases h0 : a0_0 = 0
      · right
        cases hl : a0_1.toList with
        | nil => exact absurd ⟨h0, hl⟩ hz
        | cons x t => rfl
      · exact .inl h0
    clear hz
    by_cases hr : a0_0 < 1 ∨ 511 < a0_0
    · rw [if_pos hr] at h
      simp only [Option.some.injEq, Prod.mk.injEq] at h
      obtain ⟨rfl, rfl⟩ := h
      rcases hr with hr | hr
      · have c1 : decide (a0_0 < 1) = true := decide_eq_true hr
        have hq : (a0_0 == 0) = false ∨ ((a0_0 == 0) = true ∧ a0_1.toList.isEmpty = false) := by
          rw [Bool.and_eq_false_iff] at hb8
          cases h0 : (a0_0 == 0)
          · exact .inl rfl
          · rcases hb8 with h | h
            · rw [h0] at h; cases h
            · exact .inr ⟨rfl, h⟩
        clear hb8
        rcases hq with hb0 | ⟨hb0, hbE⟩
        all_goals
          go_enter Try.func32, Try.ntmps32
          go_wp2_with (first
            | ((with_reducible refine gate_dst (N := 1) rfl ?_); refine box_event ?hg (N := 1) ?hd (cs := #[.int .i64 a0_0, .string a0_1]) (t := 27) ?hr ?_; (case hd => rfl); (case hg => rfl); (case hr => first | (go_simp; done) | (go_simp; rfl)); intro gb hg w6 hbox hb; have HB := Aside0.mk hb; have GE := Aside0.mk (show w.heap.size ≤ gb by rw [hg]; exact Nat.le_refl _); have BK := Aside0.mk hbox; clear hb hbox hg; have hcz0 : w6.cell? ⟨gb, 0, none⟩ = some (.int .i64 a0_0) := (blk_cell BK.out 0).trans rfl; have hcz1 : w6.cell? ⟨gb, 1, none⟩ = some (.string a0_1) := (blk_cell BK.out 1).trans rfl)
            | ((with_reducible refine gate_dst (N := 5) rfl ?_); refine wpList_make_full _ rfl (.const (.int .i64 16)) (.const (.int .i64 16)) 22 rfl w.heap.size 5 i0 (.int .u8 0) 1 Try.underlying22 hi hz0 hz1 .i64 .i64 16 16 16 rfl rfl rfl rfl (by rw [hz2]; omega) (by simp only [maxLen]; omega) HB.out.size ?_; intro w1 hown hg1; have HH := Aside0.mk (Rd.made_block hown); have BK1 := Aside0.mk (blk_grown (g := gb) BK.out hg1 (by simp)); have HB1 := Aside0.mk (HB.out.grown hg1 HB.out.size (fun k hk => by cases hk)); have GT := Aside0.mk HB.out.size; clear hown hg1 BK HB hcz0 hcz1; have hcz0 : w1.cell? ⟨gb, 0, none⟩ = some (.int .i64 a0_0) := (blk_cell BK1.out 0).trans rfl; have hcz1 : w1.cell? ⟨gb, 1, none⟩ = some (.string a0_1) := (blk_cell BK1.out 1).trans rfl))
          go_ret2
          exact ⟨_, rfl, Kd.R_nil _ _ _ _ _, HB1.out⟩
      · have c0 : decide (a0_0 < 1) = false := decide_eq_false (by omega)
        have c1 : decide (511 < a0_0) = true := decide_eq_true hr
        have hb0 : (a0_0 == 0) = false := beq_eq_false_iff_ne.mpr (by omega)
        clear hb8
        go_enter Try.func32, Try.ntmps32
        go_wp2_with (first
          | ((with_reducible refine gate_dst (N := 1) rfl ?_); refine box_event ?hg (N := 1) ?hd (cs := #[.int .i64 a0_0, .string a0_1]) (t := 27) ?hr ?_; (case hd => rfl); (case hg => rfl); (case hr => first | (go_simp; done) | (go_simp; rfl)); intro gb hg w6 hbox hb; have HB := Aside0.mk hb; have GE := Aside0.mk (show w.heap.size ≤ gb by rw [hg]; exact Nat.le_refl _); have BK := Aside0.mk hbox; clear hb hbox hg; have hcz0 : w6.cell? ⟨gb, 0, none⟩ = some (.int .i64 a0_0) := (blk_cell BK.out 0).trans rfl; have hcz1 : w6.cell? ⟨gb, 1, none⟩ = some (.string a0_1) := (blk_cell BK.out 1).trans rfl)
          | ((with_reducible refine gate_dst (N := 5) rfl ?_); refine wpList_make_full _ rfl (.const (.int .i64 16)) (.const (.int .i64 16)) 22 rfl w.heap.size 5 i0 (.int .u8 0) 1 Try.underlying22 hi hz0 hz1 .i64 .i64 16 16 16 rfl rfl rfl rfl (by rw [hz2]; omega) (by simp only [maxLen]; omega) HB.out.size ?_; intro w1 hown hg1; have HH := Aside0.mk (Rd.made_block hown); have BK1 := Aside0.mk (blk_grown (g := gb) BK.out hg1 (by simp)); have HB1 := Aside0.mk (HB.out.grown hg1 HB.out.size (fun k hk => by cases hk)); have GT := Aside0.mk HB.out.size; clear hown hg1 BK HB hcz0 hcz1; have hcz0 : w1.cell? ⟨gb, 0, none⟩ = some (.int .i64 a0_0) := (blk_cell BK1.out 0).trans rfl; have hcz1 : w1.cell? ⟨gb, 1, none⟩ = some (.string a0_1) := (blk_cell BK1.out 1).trans rfl))
        go_ret2
        exact ⟨_, rfl, Kd.R_nil _ _ _ _ _, HB1.out⟩
    · rw [if_neg hr] at h
      have c0 : decide (a0_0 < 1) = false := decide_eq_false (by omega)
      have c1 : decide (511 < a0_0) = false := decide_eq_false (by omega)
      replace h := Option.bind_eq_some_iff.mp h
      obtain ⟨t, ht, h⟩ := h
      have hb0 : (a0_0 == 0) = false := beq_eq_false_iff_ne.mpr (by omega)
      clear hr hb8
      have HT := Aside0.mk ht
      clear ht
      by_cases hn : t = true ∨ a0_1.toList = [46] ∨ a0_1.toList = [46, 46]
      · rw [if_pos hn] at h
        replace h := Option.bind_eq_some_iff.mp h
        obtain ⟨b1, hb1, h⟩ := h
        replace h := Option.bind_eq_some_iff.mp h
        obtain ⟨b2, hb2, h⟩ := h
        by_cases hlen : b2.length = 16 ∧ a0_1.size ≤ 13
        · rw [if_pos hlen] at h
          simp only [Option.some.injEq, Prod.mk.injEq] at h
          obtain ⟨rfl, rfl⟩ := h
          have HL := Aside0.mk hlen.1
          have HS := Aside0.mk hlen.2
          have hsz : a0_1.size ≤ 13 := hlen.2
          have HN1 := Aside0.mk (fun (W : World) (A : Option Addr) (hC : Kd.C (Kd.int .u8) W A (List.replicate 16 (0 : Int)).length (List.replicate 16 0)) => bollardref03_number.calls k A 16 (List.replicate 16 0) 0 2 a0_0 b1 W hC (by decide) hb1)
          rw [List.length_replicate] at HN1
          have H2 := Aside0.mk hb2
          have hh : (t = true) ∨ (t = false ∧ a0_1.toList = [46]) ∨ (t = false ∧ a0_1.toList ≠ [46] ∧ a0_1.toList = [46, 46]) := by
            cases t
            · by_cases e : a0_1.toList = [46]
              · exact .inr (.inl ⟨rfl, e⟩)
              · rcases hn with h | h | h
                · cases h
                · exact absurd h e
                · exact .inr (.inr ⟨rfl, e, h⟩)
            · exact .inl rfl
          clear hlen hb1 hb2 hn
          rcases hh with ht | ⟨ht, hn1⟩ | ⟨ht, hn1, hn2⟩
          · subst ht
            go_enter Try.func32, Try.ntmps32
            go_wp2_with (first
              | ((with_reducible refine gate_dst (N := 1) rfl ?_); refine box_event ?hg (N := 1) ?hd (cs := #[.int .i64 a0_0, .string a0_1]) (t := 27) ?hr ?_; (case hd => rfl); (case hg => rfl); (case hr => first | (go_simp; done) | (go_simp; rfl)); intro gb hg w6 hbox hb; have HB := Aside0.mk hb; have GE := Aside0.mk (show w.heap.size ≤ gb by rw [hg]; exact Nat.le_refl _); have BK := Aside0.mk hbox; clear hb hbox hg; have hcz0 : w6.cell? ⟨gb, 0, none⟩ = some (.int .i64 a0_0) := (blk_cell BK.out 0).trans rfl; have hcz1 : w6.cell? ⟨gb, 1, none⟩ = some (.string a0_1) := (blk_cell BK.out 1).trans rfl)
              | ((with_reducible refine gate_dst (N := 5) rfl ?_); refine wpList_make_full _ rfl (.const (.int .i64 16)) (.const (.int .i64 16)) 22 rfl w.heap.size 5 i0 (.int .u8 0) 1 Try.underlying22 hi hz0 hz1 .i64 .i64 16 16 16 rfl rfl rfl rfl (by rw [hz2]; omega) (by simp only [maxLen]; omega) HB.out.size ?_; intro w1 hown hg1; have HH := Aside0.mk (Rd.made_block hown); have BK1 := Aside0.mk (blk_grown (g := gb) BK.out hg1 (by simp)); have HB1 := Aside0.mk (HB.out.grown hg1 HB.out.size (fun k hk => by cases hk)); have GT := Aside0.mk HB.out.size; clear hown hg1 BK HB hcz0 hcz1; have hcz0 : w1.cell? ⟨gb, 0, none⟩ = some (.int .i64 a0_0) := (blk_cell BK1.out 0).trans rfl; have hcz1 : w1.cell? ⟨gb, 1, none⟩ = some (.string a0_1) := (blk_cell BK1.out 1).trans rfl)
              | (go_at_call 48; refine (bollardref03_IsName.calls k a0_1 _ _ HT.out).mono ?_; rintro e w7 ⟨rfl, ⟨nd, rfl⟩⟩)
              | (go_at_call 49; refine (HN1.out _ _ (Kd.C_drewN (Kd.R_reads' (Rd.R_bytes (base := w.heap.size) (ok := fun _ => True) (List.replicate 16 0) HH.out GT.out (by decide) trivial)).2.2 _)).mono ?_; clear HN1; rintro e w8 ⟨v8, rfl, hr8, hb8⟩; have HR8 := Aside0.mk hr8; have HB8 := Aside0.mk (below_then (pw_below_drewN HB1.out nd) HB1.out.size hb8); have BK8 := Aside0.mk (blk_below (g := gb) (o := .cells #[.int .i64 a0_0, .string a0_1] 27 (0, 0)) (blk_drewN BK1.out nd) hb8); clear hr8 hb8 HB1 BK1 hcz0 hcz1; obtain ⟨A8, c8, e8⟩ := Kd.R_slice HR8.out; subst e8; have hcz0 : w8.cell? ⟨gb, 0, none⟩ = some (.int .i64 a0_0) := (blk_cell BK8.out 0).trans rfl; have hcz1 : w8.cell? ⟨gb, 1, none⟩ = some (.string a0_1) := (blk_cell BK8.out 1).trans rfl)
              | (go_at_call 49; refine (bollardref03_number.calls k A8 c8 b1 2 1 (a0_1.size : Int) b2 _ (Kd.R_reads' HR8.out).2.2 (Kd.R_reads' HR8.out).2.1 H2.out).mono ?_; rintro e w9 ⟨v9, rfl, hr9, hb9⟩; have HO9 := Aside0.mk (Kd.own_of_R hr9); have HS9 := Aside0.mk HB8.out.size; have HB9 := Aside0.mk (below_then HB8.out HB8.out.size hb9); have BK9 := Aside0.mk (blk_below (g := gb) (o := .cells #[.int .i64 a0_0, .string a0_1] 27 (0, 0)) BK8.out hb9); clear hr9 hb9 HB8 BK8 HR8 hcz0 hcz1; have hcz0 : w9.cell? ⟨gb, 0, none⟩ = some (.int .i64 a0_0) := (blk_cell BK9.out 0).trans rfl; have hcz1 : w9.cell? ⟨gb, 1, none⟩ = some (.string a0_1) := (blk_cell BK9.out 1).trans rfl))
            obtain ⟨g, cap, cur, hv9, hbg, hheap, hle, hmax, hcs, htk⟩ := Rd.own_open HO9.out (by have := HL.out; omega)
            subst hv9
            rw [HL.out] at hle htk ⊢
            have hc3 : ¬ cap = 3 := by omega
            have hcopy := Lib.run_copy_row_string (P := Try.prog) w9.drew 22 9 3 5 g 3 13 (cap - 3) a0_1 cur 5 Try.underlying22 (by rw [hi, Option.map_some, hz1]) hheap hsz (by omega)
            go_region
            go_wp2
            go_ret2
            exact ⟨_, rfl, Rd.name_R (W := w9.drew) (Nat.le_trans HS9.out hbg) hheap hle hmax hcs htk HL.out hsz, below_setRow (below_drew1 HB9.out) (Nat.le_trans HS9.out hbg) _⟩
          · subst ht
            have n1 : (a0_1.toList == [46]) = true := beq_iff_eq.mpr hn1
            clear hn1
            go_enter Try.func32, Try.ntmps32
            go_wp2_with (first
              | ((with_reducible refine gate_dst (N := 1) rfl ?_); refine box_event ?hg (N := 1) ?hd (cs := #[.int .i64 a0_0, .string a0_1]) (t := 27) ?hr ?_; (case hd => rfl); (case hg => rfl); (case hr => first | (go_simp; done) | (go_simp; rfl)); intro gb hg w6 hbox hb; have HB := Aside0.mk hb; have GE := Aside0.mk (show w.heap.size ≤ gb by rw [hg]; exact Nat.le_refl _); have BK := Aside0.mk hbox; clear hb hbox hg; have hcz0 : w6.cell? ⟨gb, 0, none⟩ = some (.int .i64 a0_0) := (blk_cell BK.out 0).trans rfl; have hcz1 : w6.cell? ⟨gb, 1, none⟩ = some (.string a0_1) := (blk_cell BK.out 1).trans rfl)
              | ((with_reducible refine gate_dst (N := 5) rfl ?_); refine wpList_make_full _ rfl (.const (.int .i64 16)) (.const (.int .i64 16)) 22 rfl w.heap.size 5 i0 (.int .u8 0) 1 Try.underlying22 hi hz0 hz1 .i64 .i64 16 16 16 rfl rfl rfl rfl (by rw [hz2]; omega) (by simp only [maxLen]; omega) HB.out.size ?_; intro w1 hown hg1; have HH := Aside0.mk (Rd.made_block hown); have BK1 := Aside0.mk (blk_grown (g := gb) BK.out hg1 (by simp)); have HB1 := Aside0.mk (HB.out.grown hg1 HB.out.size (fun k hk => by cases hk)); have GT := Aside0.mk HB.out.size; clear hown hg1 BK HB hcz0 hcz1; have hcz0 : w1.cell? ⟨gb, 0, none⟩ = some (.int .i64 a0_0) := (blk_cell BK1.out 0).trans rfl; have hcz1 : w1.cell? ⟨gb, 1, none⟩ = some (.string a0_1) := (blk_cell BK1.out 1).trans rfl)
              | (go_at_call 48; refine (bollardref03_IsName.calls k a0_1 _ _ HT.out).mono ?_; rintro e w7 ⟨rfl, ⟨nd, rfl⟩⟩)
              | (go_at_call 49; refine (HN1.out _ _ (Kd.C_drewN (Kd.R_reads' (Rd.R_bytes (base := w.heap.size) (ok := fun _ => True) (List.replicate 16 0) HH.out GT.out (by decide) trivial)).2.2 _)).mono ?_; clear HN1; rintro e w8 ⟨v8, rfl, hr8, hb8⟩; have HR8 := Aside0.mk hr8; have HB8 := Aside0.mk (below_then (pw_below_drewN HB1.out nd) HB1.out.size hb8); have BK8 := Aside0.mk (blk_below (g := gb) (o := .cells #[.int .i64 a0_0, .string a0_1] 27 (0, 0)) (blk_drewN BK1.out nd) hb8); clear hr8 hb8 HB1 BK1 hcz0 hcz1; obtain ⟨A8, c8, e8⟩ := Kd.R_slice HR8.out; subst e8; have hcz0 : w8.cell? ⟨gb, 0, none⟩ = some (.int .i64 a0_0) := (blk_cell BK8.out 0).trans rfl; have hcz1 : w8.cell? ⟨gb, 1, none⟩ = some (.string a0_1) := (blk_cell BK8.out 1).trans rfl)
              | (go_at_call 49; refine (bollardref03_number.calls k A8 c8 b1 2 1 (a0_1.size : Int) b2 _ (Kd.R_reads' HR8.out).2.2 (Kd.R_reads' HR8.out).2.1 H2.out).mono ?_; rintro e w9 ⟨v9, rfl, hr9, hb9⟩; have HO9 := Aside0.mk (Kd.own_of_R hr9); have HS9 := Aside0.mk HB8.out.size; have HB9 := Aside0.mk (below_then HB8.out HB8.out.size hb9); have BK9 := Aside0.mk (blk_below (g := gb) (o := .cells #[.int .i64 a0_0, .string a0_1] 27 (0, 0)) BK8.out hb9); clear hr9 hb9 HB8 BK8 HR8 hcz0 hcz1; have hcz0 : w9.cell? ⟨gb, 0, none⟩ = some (.int .i64 a0_0) := (blk_cell BK9.out 0).trans rfl; have hcz1 : w9.cell? ⟨gb, 1, none⟩ = some (.string a0_1) := (blk_cell BK9.out 1).trans rfl))
            obtain ⟨g, cap, cur, hv9, hbg, hheap, hle, hmax, hcs, htk⟩ := Rd.own_open HO9.out (by have := HL.out; omega)
            subst hv9
            rw [HL.out] at hle htk ⊢
            have hc3 : ¬ cap = 3 := by omega
            have hcopy := Lib.run_copy_row_string (P := Try.prog) w9.drew 22 9 3 5 g 3 13 (cap - 3) a0_1 cur 5 Try.underlying22 (by rw [hi, Option.map_some, hz1]) hheap hsz (by omega)
            go_region
            go_wp2
            go_ret2
            exact ⟨_, rfl, Rd.name_R (W := w9.drew) (Nat.le_trans HS9.out hbg) hheap hle hmax hcs htk HL.out hsz, below_setRow (below_drew1 HB9.out) (Nat.le_trans HS9.out hbg) _⟩
          · subst ht
            have n1 : (a0_1.toList == [46]) = false := beq_eq_false_iff_ne.mpr hn1
            have n2 : (a0_1.toList == [46, 46]) = true := beq_iff_eq.mpr hn2
            clear hn1 hn2
            go_enter Try.func32, Try.ntmps32
            go_wp2_with (first
              | ((with_reducible refine gate_dst (N := 1) rfl ?_); refine box_event ?hg (N := 1) ?hd (cs := #[.int .i64 a0_0, .string a0_1]) (t := 27) ?hr ?_; (case hd => rfl); (case hg => rfl); (case hr => first | (go_simp; done) | (go_simp; rfl)); intro gb hg w6 hbox hb; have HB := Aside0.mk hb; have GE := Aside0.mk (show w.heap.size ≤ gb by rw [hg]; exact Nat.le_refl _); have BK := Aside0.mk hbox; clear hb hbox hg; have hcz0 : w6.cell? ⟨gb, 0, none⟩ = some (.int .i64 a0_0) := (blk_cell BK.out 0).trans rfl; have hcz1 : w6.cell? ⟨gb, 1, none⟩ = some (.string a0_1) := (blk_cell BK.out 1).trans rfl)
              | ((with_reducible refine gate_dst (N := 5) rfl ?_); refine wpList_make_full _ rfl (.const (.int .i64 16)) (.const (.int .i64 16)) 22 rfl w.heap.size 5 i0 (.int .u8 0) 1 Try.underlying22 hi hz0 hz1 .i64 .i64 16 16 16 rfl rfl rfl rfl (by rw [hz2]; omega) (by simp only [maxLen]; omega) HB.out.size ?_; intro w1 hown hg1; have HH := Aside0.mk (Rd.made_block hown); have BK1 := Aside0.mk (blk_grown (g := gb) BK.out hg1 (by simp)); have HB1 := Aside0.mk (HB.out.grown hg1 HB.out.size (fun k hk => by cases hk)); have GT := Aside0.mk HB.out.size; clear hown hg1 BK HB hcz0 hcz1; have hcz0 : w1.cell? ⟨gb, 0, none⟩ = some (.int .i64 a0_0) := (blk_cell BK1.out 0).trans rfl; have hcz1 : w1.cell? ⟨gb, 1, none⟩ = some (.string a0_1) := (blk_cell BK1.out 1).trans rfl)
              | (go_at_call 48; refine (bollardref03_IsName.calls k a0_1 _ _ HT.out).mono ?_; rintro e w7 ⟨rfl, ⟨nd, rfl⟩⟩)
              | (go_at_call 49; refine (HN1.out _ _ (Kd.C_drewN (Kd.R_reads' (Rd.R_bytes (base := w.heap.size) (ok := fun _ => True) (List.replicate 16 0) HH.out GT.out (by decide) trivial)).2.2 _)).mono ?_; clear HN1; rintro e w8 ⟨v8, rfl, hr8, hb8⟩; have HR8 := Aside0.mk hr8; have HB8 := Aside0.mk (below_then (pw_below_drewN HB1.out nd) HB1.out.size hb8); have BK8 := Aside0.mk (blk_below (g := gb) (o := .cells #[.int .i64 a0_0, .string a0_1] 27 (0, 0)) (blk_drewN BK1.out nd) hb8); clear hr8 hb8 HB1 BK1 hcz0 hcz1; obtain ⟨A8, c8, e8⟩ := Kd.R_slice HR8.out; subst e8; have hcz0 : w8.cell? ⟨gb, 0, none⟩ = some (.int .i64 a0_0) := (blk_cell BK8.out 0).trans rfl; have hcz1 : w8.cell? ⟨gb, 1, none⟩ = some (.string a0_1) := (blk_cell BK8.out 1).trans rfl)
              | (go_at_call 49; refine (bollardref03_number.calls k A8 c8 b1 2 1 (a0_1.size : Int) b2 _ (Kd.R_reads' HR8.out).2.2 (Kd.R_reads' HR8.out).2.1 H2.out).mono ?_; rintro e w9 ⟨v9, rfl, hr9, hb9⟩; have HO9 := Aside0.mk (Kd.own_of_R hr9); have HS9 := Aside0.mk HB8.out.size; have HB9 := Aside0.mk (below_then HB8.out HB8.out.size hb9); have BK9 := Aside0.mk (blk_below (g := gb) (o := .cells #[.int .i64 a0_0, .string a0_1] 27 (0, 0)) BK8.out hb9); clear hr9 hb9 HB8 BK8 HR8 hcz0 hcz1; have hcz0 : w9.cell? ⟨gb, 0, none⟩ = some (.int .i64 a0_0) := (blk_cell BK9.out 0).trans rfl; have hcz1 : w9.cell? ⟨gb, 1, none⟩ = some (.string a0_1) := (blk_cell BK9.out 1).trans rfl))
            obtain ⟨g, cap, cur, hv9, hbg, hheap, hle, hmax, hcs, htk⟩ := Rd.own_open HO9.out (by have := HL.out; omega)
            subst hv9
            rw [HL.out] at hle htk ⊢
            have hc3 : ¬ cap = 3 := by omega
            have hcopy := Lib.run_copy_row_string (P := Try.prog) w9.drew 22 9 3 5 g 3 13 (cap - 3) a0_1 cur 5 Try.underlying22 (by rw [hi, Option.map_some, hz1]) hheap hsz (by omega)
            go_region
            go_wp2
            go_ret2
            exact ⟨_, rfl, Rd.name_R (W := w9.drew) (Nat.le_trans HS9.out hbg) hheap hle hmax hcs htk HL.out hsz, below_setRow (below_drew1 HB9.out) (Nat.le_trans HS9.out hbg) _⟩
        · rw [if_neg hlen] at h
          cases h
      · rw [if_neg hn] at h
        simp only [Option.some.injEq, Prod.mk.injEq] at h
        obtain ⟨rfl, rfl⟩ := h
        obtain rfl : t = false := by cases t; rfl; exact absurd (.inl rfl) hn
        have n1 : (a0_1.toList == [46]) = false := by rw [beq_eq_false_iff_ne]; intro e; exact hn (.inr (.inl e))
        have n2 : (a0_1.toList == [46, 46]) = false := by rw [beq_eq_false_iff_ne]; intro e; exact hn (.inr (.inr e))
        clear hn
        go_enter Try.func32, Try.ntmps32
        go_wp2_with (first
          | ((with_reducible refine gate_dst (N := 1) rfl ?_); refine box_event ?hg (N := 1) ?hd (cs := #[.int .i64 a0_0, .string a0_1]) (t := 27) ?hr ?_; (case hd => rfl); (case hg => rfl); (case hr => first | (go_simp; done) | (go_simp; rfl)); intro gb hg w6 hbox hb; have HB := Aside0.mk hb; have GE := Aside0.mk (show w.heap.size ≤ gb by rw [hg]; exact Nat.le_refl _); have BK := Aside0.mk hbox; clear hb hbox hg; have hcz0 : w6.cell? ⟨gb, 0, none⟩ = some (.int .i64 a0_0) := (blk_cell BK.out 0).trans rfl; have hcz1 : w6.cell? ⟨gb, 1, none⟩ = some (.string a0_1) := (blk_cell BK.out 1).trans rfl)
          | ((with_reducible refine gate_dst (N := 5) rfl ?_); refine wpList_make_full _ rfl (.const (.int .i64 16)) (.const (.int .i64 16)) 22 rfl w.heap.size 5 i0 (.int .u8 0) 1 Try.underlying22 hi hz0 hz1 .i64 .i64 16 16 16 rfl rfl rfl rfl (by rw [hz2]; omega) (by simp only [maxLen]; omega) HB.out.size ?_; intro w1 hown hg1; have HH := Aside0.mk (Rd.made_block hown); have BK1 := Aside0.mk (blk_grown (g := gb) BK.out hg1 (by simp)); have HB1 := Aside0.mk (HB.out.grown hg1 HB.out.size (fun k hk => by cases hk)); have GT := Aside0.mk HB.out.size; clear hown hg1 BK HB hcz0 hcz1; have hcz0 : w1.cell? ⟨gb, 0, none⟩ = some (.int .i64 a0_0) := (blk_cell BK1.out 0).trans rfl; have hcz1 : w1.cell? ⟨gb, 1, none⟩ = some (.string a0_1) := (blk_cell BK1.out 1).trans rfl)
          | (go_at_call 48; refine (bollardref03_IsName.calls k a0_1 false _ HT.out).mono ?_; rintro e w7 ⟨rfl, ⟨nd, rfl⟩⟩))
        go_ret2
        exact ⟨_, rfl, Kd.R_nil _ _ _ _ _, by repeat (first | exact HB1.out | apply pw_below_drewN)⟩

/-! ### bollardref01_Get: function 57 -/
mutual
def bollardref01_Get.j0 : Nat → List Int → Int → Int → Bool → Option (Int × Int)
  | 0, _, _, _, _ => none
  | k + 1, x0, x1, x2, x19 => if x19 = true then (some (0, 1)) else (if x1 > (wrap64 ((x0.length : Int) - x2)) then (some (0, 10)) else (bollardref01_Get.l0 k x0 x1 0 (wrap64 (x2 - 1))))
def bollardref01_Get.l0 : Nat → List Int → Int → Int → Int → Option (Int × Int)
  | 0, _, _, _, _ => none
  | k + 1, x0, x1, x8, x9 => if x9 ≥ 0 then (if 0 ≤ (wrap64 (x1 + x9)) then (if (wrap64 (x1 + x9)) < (x0.length : Int) then (bollardref01_Get.l0 k x0 x1 (wrap64 ((wrap64 (x8 * 256)) + (wrap64 (rd x0 (wrap64 (x1 + x9)))))) (wrap64 (x9 - 1))) else (none)) else (none)) else (some (x8, 0))
end
def bollardref01_Get.f (k : Nat) (l0 : List Int) (a1 : Int) (a2 : Int) : Option (Int × Int) := if a2 < 1 then (bollardref01_Get.j0 k l0 a1 a2 true) else (if a2 > 4 then (bollardref01_Get.j0 k l0 a1 a2 true) else (bollardref01_Get.j0 k l0 a1 a2 (decide (a1 < 0))))
theorem bollardref01_Get.mono_l : ∀ k, (∀ y0 y1 y2 y3, LeO (bollardref01_Get.j0 k y0 y1 y2 y3) (bollardref01_Get.j0 (k + 1) y0 y1 y2 y3)) ∧ (∀ y0 y1 y2 y3, LeO (bollardref01_Get.l0 k y0 y1 y2 y3) (bollardref01_Get.l0 (k + 1) y0 y1 y2 y3))
  | 0 => ⟨fun _ _ _ _ r h => by simp [bollardref01_Get.j0] at h, fun _ _ _ _ r h => by simp [bollardref01_Get.l0] at h⟩
  | k + 1 => by
    obtain ⟨ih0, ih1⟩ := bollardref01_Get.mono_l k
    refine ⟨?_, ?_⟩
    · intro y0 y1 y2 y3
      unfold bollardref01_Get.j0
      repeat' first
      | (with_reducible exact ih0 _ _ _ _)
      | (with_reducible exact ih1 _ _ _ _)
      | (with_reducible exact LeO.refl _)
      | (with_reducible exact LeO.none _)
      | (with_reducible refine LeO.ite ?_ ?_)
      | (with_reducible refine LeO.bind ?_ (fun _ => ?_))
      | exact ih0 _ _ _ _
      | exact ih1 _ _ _ _
      | exact LeO.none _
      | refine LeO.ite ?_ ?_
      | refine LeO.bind ?_ (fun _ => ?_)
    · intro y0 y1 y2 y3
      unfold bollardref01_Get.l0
      repeat' first
      | (with_reducible exact ih0 _ _ _ _)
      | (with_reducible exact ih1 _ _ _ _)
      | (with_reducible exact LeO.refl _)
      | (with_reducible exact LeO.none _)
      | (with_reducible refine LeO.ite ?_ ?_)
      | (with_reducible refine LeO.bind ?_ (fun _ => ?_))
      | exact ih0 _ _ _ _
      | exact ih1 _ _ _ _
      | exact LeO.none _
      | refine LeO.ite ?_ ?_
      | refine LeO.bind ?_ (fun _ => ?_)
theorem bollardref01_Get.mono : ∀ a0 a1 a2 k, LeO (bollardref01_Get.f k a0 a1 a2) (bollardref01_Get.f (k + 1) a0 a1 a2) := by
  intro a0 a1 a2 k
  obtain ⟨ih0, ih1⟩ := bollardref01_Get.mono_l k
  unfold bollardref01_Get.f
  repeat' first
      | (with_reducible exact ih0 _ _ _ _)
      | (with_reducible exact ih1 _ _ _ _)
      | (with_reducible exact LeO.refl _)
      | (with_reducible exact LeO.none _)
      | (with_reducible refine LeO.ite ?_ ?_)
      | (with_reducible refine LeO.bind ?_ (fun _ => ?_))
      | exact ih0 _ _ _ _
      | exact ih1 _ _ _ _
      | exact LeO.none _
      | refine LeO.ite ?_ ?_
      | refine LeO.bind ?_ (fun _ => ?_)
set_option maxHeartbeats 8000000 in
set_option maxRecDepth 100000 in
theorem bollardref01_Get.calls (k : Nat) (A0 : Option Addr) (c0 : Nat) (l0 : List Int) (a1 : Int) (a2 : Int) (r1 : Int) (r2 : Int) (w : World) (hr0 : Kd.C (Kd.int .u8) w A0 l0.length l0) (hc0 : l0.length ≤ c0) (h : bollardref01_Get.f k l0 a1 a2 = some (r1, r2)) :
    Calls Try.prog 57 #[.slice A0 l0.length c0, .int .i64 a1, .int .i64 a2] w fun e w' => e = .returned (.tuple #[.int .i64 r1, .int .i64 r2]) ∧ Drawn0 w w' := by
  have HR0 := Aside0.mk hr0
  have HC0 := Aside0.mk hc0
  clear hr0 hc0
  have H : (if a2 < 1 then (bollardref01_Get.j0 k l0 a1 a2 true) else (if a2 > 4 then (bollardref01_Get.j0 k l0 a1 a2 true) else (bollardref01_Get.j0 k l0 a1 a2 (decide (a1 < 0))))) = some (r1, r2) := h
  clear h
  have HC4 := Aside0.mk H
  clear H
  go_enter Try.func57, Try.ntmps57
  go_upto_region 1 with (fail)
  go_cut [19] (fun v19 wc => ∃ (kq : Nat) (x19_3 : Bool), v19 = .bool x19_3 ∧ Aside0 (bollardref01_Get.j0 kq l0 a1 a2 x19_3 = some (r1, r2)) ∧ Aside0 (kq ≤ k) ∧ Drawn0 w wc)
  case first =>
    have H := HC4.out
    clear HC4
    by_cases c5 : a2 < 1
    · rw [if_pos c5] at H
      have c5b0 : decide (a2 < 1) = true := decide_eq_true c5
      clear c5
      (first | rw [c5b0] | (simp only [i64_w, i32_w]; rw [c5b0]) | skip)
      have H' := Aside0.mk H
      clear H
      go_wp2
      go_meet
      case rel => exact ⟨_, (true), (by first | rfl | (simp; done) | (simp [*]; done)), H', ⟨by first | omega | exact Nat.le_refl _⟩, by repeat (first | exact Drawn0.refl _ | apply Drawn0.step)⟩
    · rw [if_neg c5] at H
      have c5b0 : decide (a2 < 1) = false := decide_eq_false c5
      clear c5
      (first | rw [c5b0] | (simp only [i64_w, i32_w]; rw [c5b0]) | skip)
      by_cases c6 : a2 > 4
      · rw [if_pos c6] at H
        have c6b0 : decide (4 < a2) = true := decide_eq_true c6
        clear c6
        have H' := Aside0.mk H
        clear H
        go_wp2
        go_meet
        case rel => exact ⟨_, (true), (by first | rfl | (simp; done) | (simp [*]; done)), H', ⟨by first | omega | exact Nat.le_refl _⟩, by repeat (first | exact Drawn0.refl _ | apply Drawn0.step)⟩
      · rw [if_neg c6] at H
        have c6b0 : decide (4 < a2) = false := decide_eq_false c6
        clear c6
        have H' := Aside0.mk H
        clear H
        go_wp2
        go_meet
        case rel => exact ⟨_, (decide (a1 < 0)), (by first | rfl | (simp; done) | (simp [*]; done)), H', ⟨by first | omega | exact Nat.le_refl _⟩, by repeat (first | exact Drawn0.refl _ | apply Drawn0.step)⟩
  case rest =>
    clear HC4
    try clear p2
    try clear c5
    try clear c5b0
    try clear c6
    try clear c6b0
    obtain ⟨kq, x19_3, rfl, HA, HJ3, ⟨mc3, rfl⟩⟩ := hcut
    cases kq with
    | zero => exact absurd HA.out (by simp [bollardref01_Get.j0])
    | succ kj3 =>
      have H := HA.out
      clear HA
      simp only [bollardref01_Get.j0] at H
      by_cases c7 : x19_3 = true
      · subst c7
        have H1 : (some (0, 1)) = some (r1, r2) := by rw [if_pos rfl] at H; exact H
        clear H
        have H := H1
        clear H1
        simp only [Option.some.injEq, Prod.mk.injEq] at H
        obtain ⟨rfl, rfl⟩ := H
        go_wp2
        go_ret2
        exact ⟨by first | rfl | (simp; done) | (simp [*]; done), by repeat (first | exact Drawn0.refl _ | apply Drawn0.step)⟩
      · replace c7 := Bool.eq_false_iff.mpr c7
        subst c7
        have H1 : (if a1 > (wrap64 ((l0.length : Int) - a2)) then (some (0, 10)) else (bollardref01_Get.l0 kj3 l0 a1 0 (wrap64 (a2 - 1)))) = some (r1, r2) := by rw [if_neg (show ¬ (false = true) by decide)] at H; exact H
        clear H
        have H := H1
        clear H1
        by_cases c8 : a1 > (wrap64 ((l0.length : Int) - a2))
        · rw [if_pos c8] at H
          have c8b0 : decide ((wrap64 ((l0.length : Int) - a2)) < a1) = true := decide_eq_true c8
          clear c8
          simp only [Option.some.injEq, Prod.mk.injEq] at H
          obtain ⟨rfl, rfl⟩ := H
          go_wp2
          go_ret2
          exact ⟨by first | rfl | (simp; done) | (simp [*]; done), by repeat (first | exact Drawn0.refl _ | apply Drawn0.step)⟩
        · rw [if_neg c8] at H
          have c8b0 : decide ((wrap64 ((l0.length : Int) - a2)) < a1) = false := decide_eq_false c8
          clear c8
          have H' := Aside0.mk H
          clear H
          go_wp2
          go_loopg [8, 9] kj3 (fun kq v8 v9 w' => ∃ (x8_2 : Int) (x9_2 : Int), v8 = .int .i64 x8_2 ∧ v9 = .int .i64 x9_2 ∧ Aside0 (bollardref01_Get.l0 kq l0 a1 x8_2 x9_2 = some (r1, r2)) ∧ Aside0 (kq ≤ kj3) ∧ Drawn0 w w')
          case atStart => exact ⟨(0), (wrap64 (a2 - 1)), (by first | rfl | (simp; done) | (simp [*]; done)), (by first | rfl | (simp; done) | (simp [*]; done)), H', ⟨Nat.le_refl _⟩, by repeat (first | exact Drawn0.refl _ | apply Drawn0.step)⟩
          case round =>
            clear H'
            try clear p2
            try clear c3
            try clear c5
            try clear c5b0
            try clear c6
            try clear c6b0
            try clear p6
            try clear c7
            try clear c8
            try clear c8b0
            try clear p2
            obtain ⟨x8_2, x9_2, rfl, rfl, HA, HK2, ⟨m2, rfl⟩⟩ := hrel
            cases gk with
            | zero => exact absurd HA.out (by simp [bollardref01_Get.l0])
            | succ k2 =>
              have H := HA.out
              clear HA
              simp only [bollardref01_Get.l0] at H
              by_cases c9 : x9_2 ≥ 0
              · rw [if_pos c9] at H
                have c9b0 : decide (0 ≤ x9_2) = true := decide_eq_true c9
                clear c9
                obtain ⟨ji10, hji10⟩ : ∃ j_ : Int, (wrap64 (a1 + x9_2)) = j_ := ⟨_, rfl⟩
                replace H : (if 0 ≤ (ji10) then (if (ji10) < (l0.length : Int) then (bollardref01_Get.l0 k2 l0 a1 (wrap64 ((wrap64 (x8_2 * 256)) + (wrap64 (rd l0 (ji10))))) (wrap64 (x9_2 - 1))) else (none)) else (none)) = some (r1, r2) := by first | (rw [hji10] at H; exact H) | (simp only [hji10] at H ⊢; exact H)
                have hji10w : (IntKind.i64.wrap (a1 + x9_2)) = ji10 := (i64_w _).trans hji10
                by_cases c11 : 0 ≤ (ji10)
                · rw [if_pos c11] at H
                  have c11b0 : decide (0 ≤ (ji10)) = true := decide_eq_true c11
                  clear c11
                  by_cases c12 : (ji10) < (l0.length : Int)
                  · rw [if_pos c12] at H
                    have c12b0 : decide ((ji10) < (l0.length : Int)) = true := decide_eq_true c12
                    clear c12
                    have H' := Aside0.mk H
                    clear H
                    have p164 : 0 ≤ ((ji10) : Int) := of_decide_eq_true (by first | (with_reducible assumption) | assumption)
                    have q164 : (ji10) < (l0.length : Int) := of_decide_eq_true (by first | (with_reducible assumption) | assumption)
                    obtain ⟨ad164, e164, hx164_0⟩ := Kd.at_int HR0.out (ji10) p164 q164
                    cases e164
                    replace p164 := eq_true p164
                    replace q164 := eq_true q164
                    go_wp2
                    go_roundg k2
                    case measure => have := HJ3.out; have := HK2.out; omega
                    case rel => exact ⟨(wrap64 ((wrap64 (x8_2 * 256)) + (wrap64 (rd l0 (ji10))))), (wrap64 (x9_2 - 1)), (by first | rfl | (simp; done) | (simp only [← hji10] <;> (first | rfl | simp)) | (simp [*]; done)), (by first | rfl | (simp; done) | (simp [*]; done)), H', ⟨by have := HJ3.out; have := HK2.out; omega⟩, by repeat (first | exact Drawn0.refl _ | apply Drawn0.step)⟩
                  · rw [if_neg c12] at H
                    exact absurd H (by simp)
                · rw [if_neg c11] at H
                  exact absurd H (by simp)
              · rw [if_neg c9] at H
                have c9b0 : decide (0 ≤ x9_2) = false := decide_eq_false c9
                clear c9
                simp only [Option.some.injEq, Prod.mk.injEq] at H
                obtain ⟨rfl, rfl⟩ := H
                go_wp2
                go_ret2
                exact ⟨by first | rfl | (simp; done) | (simp [*]; done), by repeat (first | exact Drawn0.refl _ | apply Drawn0.step)⟩

/-! ### bollardref03_get: function 43 -/
def bollardref03_get.f (k : Nat) (l0 : List Int) (a1 : Int) (a2 : Int) : Option (Int) := (bollardref01_Get.f k l0 a1 a2).bind fun bt165 => (some bt165.1)
theorem bollardref03_get.mono : ∀ a0 a1 a2 k, LeO (bollardref03_get.f k a0 a1 a2) (bollardref03_get.f (k + 1) a0 a1 a2) := by
  intro a0 a1 a2 k
  unfold bollardref03_get.f
  repeat' first
      | (with_reducible exact bollardref01_Get.mono _ _ _ _)
      | (with_reducible exact LeO.refl _)
      | (with_reducible exact LeO.none _)
      | (with_reducible refine LeO.ite ?_ ?_)
      | (with_reducible refine LeO.bind ?_ (fun _ => ?_))
      | exact bollardref01_Get.mono _ _ _ _
      | exact LeO.none _
      | refine LeO.ite ?_ ?_
      | refine LeO.bind ?_ (fun _ => ?_)
set_option maxHeartbeats 8000000 in
set_option maxRecDepth 100000 in
theorem bollardref03_get.calls (k : Nat) (A0 : Option Addr) (c0 : Nat) (l0 : List Int) (a1 : Int) (a2 : Int) (r : Int) (w : World) (hr0 : Kd.C (Kd.int .u8) w A0 l0.length l0) (hc0 : l0.length ≤ c0) (h : bollardref03_get.f k l0 a1 a2 = some r) :
    Calls Try.prog 43 #[.slice A0 l0.length c0, .int .i64 a1, .int .i64 a2] w fun e w' => e = .returned (.int .i64 r) ∧ Drawn0 w w' := by
  have HR0 := Aside0.mk hr0
  have HC0 := Aside0.mk hc0
  clear hr0 hc0
  have H : ((bollardref01_Get.f k l0 a1 a2).bind fun bt165 => (some bt165.1)) = some r := h
  clear h
  replace H := Option.bind_eq_some_iff.mp H
  obtain ⟨⟨t165, t166⟩, A40, H⟩ := H
  replace H : (some t165) = some r := H
  have A4 := Aside0.mk A40
  clear A40
  obtain rfl := Option.some.inj H
  go_enter Try.func43, Try.ntmps43
  go_wp2_with (first | ((with_reducible refine gate_callee (f := 57) rfl ?_); refine goesL_ (some 13) rfl rfl Try.func57 (by kernel_rfl) rfl #[.slice A0 l0.length c0, .int .i64 a1, .int .i64 a2] rfl (by (try simp only [List.map_toArray, List.map_cons, List.map_nil]); first | done | rfl | (simp only [List.length_drop, List.length_take]; rfl)) ?_; (with_reducible refine (bollardref01_Get.calls k _ _ l0 a1 a2 t165 t166 _ ?side1 ?side2 A4.out).mono ?_); (case side1 => repeat (first | exact HR0.out | (with_reducible refine Kd.C_alloc ?_ _) | (with_reducible refine Kd.C_drewN ?_ _) | (with_reducible refine Kd.C_drew ?_))); (case side2 => exact HC0.out); rintro e w' ⟨rfl, ⟨nd, rfl⟩⟩; refine ⟨_, rfl, ?_⟩))
  go_ret
  exact ⟨by first | rfl | (simp; done) | (simp [*]; done), by repeat (first | exact Drawn0.refl _ | apply Drawn0.step)⟩

/-! ### bollardref03_same: function 44 -/
def bollardref03_same.f (l0 : List Int) (l1 : List Int) : Option (Bool) := some ((strOfNums l0).toList == (strOfNums l1).toList)
set_option maxHeartbeats 8000000 in
set_option maxRecDepth 100000 in
theorem bollardref03_same.calls (A0 : Option Addr) (c0 : Nat) (l0 : List Int) (A1 : Option Addr) (c1 : Nat) (l1 : List Int) (r : Bool) (w : World) (hr0 : Kd.C (Kd.int .u8) w A0 l0.length l0) (hc0 : l0.length ≤ c0) (hr1 : Kd.C (Kd.int .u8) w A1 l1.length l1) (hc1 : l1.length ≤ c1) (h : bollardref03_same.f l0 l1 = some r) :
    Calls Try.prog 44 #[.slice A0 l0.length c0, .slice A1 l1.length c1] w fun e w' => e = .returned (.bool r) ∧ Drawn0 w w' := by
  have HR0 := Aside0.mk hr0
  have HC0 := Aside0.mk hc0
  clear hr0 hc0
  have HR1 := Aside0.mk hr1
  have HC1 := Aside0.mk hc1
  clear hr1 hc1
  have H : (some ((strOfNums l0).toList == (strOfNums l1).toList)) = some r := h
  clear h
  obtain rfl := Option.some.inj H
  have hcv3 := Kd.C_string (P := Try.prog) (A := A0) (c := c0) Try.underlying22 Try.underlying5 Try.underlying9 HR0.out
  have hcv4 := Kd.C_string (P := Try.prog) (A := A1) (c := c1) Try.underlying22 Try.underlying5 Try.underlying9 HR1.out
  go_enter Try.func44, Try.ntmps44
  go_wp2
  go_ret
  exact ⟨by first | rfl | (simp; done) | (simp [*]; done), by repeat (first | exact Drawn0.refl _ | apply Drawn0.step)⟩


/-! ### bollardref03_DecodeEntry: function 29 -/
def bollardref03_DecodeEntry.f (k : Nat) (l0 : List Int) : Option (Int × ByteArray × Int) := if (l0.length : Int) = 16 then (if 13 < rd l0 2 then some (0, ⟨#[]⟩, 6) else (if 0 ≤ rd l0 2 then ((bollardref03_get.f k l0 0 2).bind fun t => ((bollardref03_EncodeEntry.f k t (strOfNums ((l0.take (3 + rd l0 2).toNat).drop 3))).bind fun u => (if u.2 = 0 then ((bollardref03_same.f l0 u.1).bind fun s => (if s = true then some (t, strOfNums ((l0.take (3 + rd l0 2).toNat).drop 3), 0) else some (0, ⟨#[]⟩, 6))) else some (0, ⟨#[]⟩, 6)))) else none)) else some (0, ⟨#[]⟩, 6)
theorem bollardref03_DecodeEntry.mono : ∀ a0 k, LeO (bollardref03_DecodeEntry.f k a0) (bollardref03_DecodeEntry.f (k + 1) a0) := by
  intro a0 k
  unfold bollardref03_DecodeEntry.f
  exact LeO.ite (LeO.ite (LeO.refl _) (LeO.ite (LeO.bind (bollardref03_get.mono _ _ _ _) (fun _ => LeO.bind (bollardref03_EncodeEntry.mono _ _ _) (fun _ => LeO.refl _))) (LeO.refl _))) (LeO.refl _)
set_option maxHeartbeats 8000000 in
set_option maxRecDepth 100000 in
theorem bollardref03_DecodeEntry.calls (k : Nat) (A0 : Option Addr) (c0 : Nat) (l0 : List Int) (r1 : Int) (r2 : ByteArray) (r3 : Int) (w : World) (hr0 : Kd.C (Kd.int .u8) w A0 l0.length l0) (hc0 : l0.length ≤ c0) (h : bollardref03_DecodeEntry.f k l0 = some (r1, r2, r3)) :
    Calls Try.prog 29 #[.slice A0 l0.length c0] w fun e w' => e = .returned (.tuple #[.agg #[.int .i64 r1, .string r2], .int .i64 r3]) ∧ Below w.heap.size w w' := by
  have hu36 := Try.underlying27
  unfold bollardref03_DecodeEntry.f at h
  have HR0 := Aside0.mk hr0
  have HC0 := Aside0.mk hc0
  have HB := Aside0.mk (Below.refl w.heap.size w)
  clear hr0 hc0
  by_cases hlen : (l0.length : Int) = 16
  · rw [if_pos hlen] at h
    have hb0 : ((l0.length : Int) != 16) = false := bne_eq_false_iff_eq.mpr hlen
    have HLEN := Aside0.mk (show l0.length = 16 by omega)
    have q0 : ((2 : Int) < (l0.length : Int)) = True := eq_true (by omega)
    clear hlen
    obtain ⟨ad, e, hx⟩ := Kd.at_int HR0.out 2 (by decide) (by have := HLEN.out; omega)
    cases e
    by_cases hbig : 13 < rd l0 2
    · rw [if_pos hbig] at h
      have hbb : decide (13 < rd l0 2) = true := decide_eq_true hbig
      simp only [Option.some.injEq, Prod.mk.injEq] at h
      obtain ⟨rfl, rfl, rfl⟩ := h
      clear hbig
      go_enter Try.func29, Try.ntmps29
      go_wp2_with (first
        | ((with_reducible refine gate_dst (N := 2) rfl ?_); refine box_event ?hg (N := 2) ?hd (cs := #[.int .i64 0, .string ⟨#[]⟩]) (t := 27) ?hr ?_; (case hd => rfl); (case hg => rfl); (case hr => first | (go_simp; done) | (go_simp; rfl)); intro gb hg w1 hbox hb; have n0_ := Aside0.mk (below_step (w2 := w1) (by repeat (first | (with_reducible first | exact HB.out | apply below_alloc | apply pw_below_drewN | apply below_drew1) | exact HB.out)) hb); have BKb := Aside0.mk hbox; have GE := Aside0.mk (show w.heap.size ≤ gb by rw [hg]; exact Nat.le_refl _); clear HB; have HB := n0_; clear n0_ hb hbox hg; have hx1 : w1.cell? { block := ad.block, off := ad.off + 2, spot := none } = some (.int .u8 (rd l0 2)) := pw_cell_below HB.out hx; clear hx; have hcb0 : w1.cell? ⟨gb, 0, none⟩ = some (.int .i64 0) := (blk_cell BKb.out 0).trans rfl; have hcb1 : w1.cell? ⟨gb, 1, none⟩ = some (.string ⟨#[]⟩) := (blk_cell BKb.out 1).trans rfl; have hfb0 := blk_frozen BKb.out 0; have hfb1 := blk_frozen BKb.out 1))
      refine bodyPost_ret (results_ct rfl _ _ gb 27 #[.int .i64 0, .string ⟨#[]⟩] (0, 0) _ rfl (by (with_reducible repeat (first | refine blk_drewN ?_ _ | refine blk_drew ?_ | refine blk_alloc ?_ _)); refine blk_put (cs := #[.int .i64 0, .string ⟨#[]⟩]) ?_ 1 _ rfl; (with_reducible repeat (first | refine blk_drewN ?_ _ | refine blk_drew ?_ | refine blk_alloc ?_ _)); refine blk_put (cs := #[.int .i64 0, .string ⟨#[]⟩]) ?_ 0 _ rfl; (with_reducible repeat (first | refine blk_drewN ?_ _ | refine blk_drew ?_ | refine blk_alloc ?_ _)); exact BKb.out) hu36 rfl (by kernel_rfl)) rfl ?_
      exact ⟨rfl, by repeat (first | (with_reducible first | exact HB.out | apply below_alloc | apply pw_below_drewN | apply below_drew1 | refine below_set ?_ GE.out) | exact HB.out)⟩
    · rw [if_neg hbig] at h
      have hbb : decide (13 < rd l0 2) = false := decide_eq_false hbig
      by_cases hnn : 0 ≤ rd l0 2
      · rw [if_pos hnn] at h
        obtain ⟨t, ht, h2⟩ := Option.bind_eq_some_iff.mp h
        obtain ⟨⟨u1, u2⟩, hu, h3⟩ := Option.bind_eq_some_iff.mp h2
        have HT := Aside0.mk ht
        have HU := Aside0.mk hu
        have hw : IntKind.i64.wrap (3 + IntKind.i64.wrap (rd l0 2)) = 3 + rd l0 2 := by rw [IntKind.wrap_i64, IntKind.wrap_i64]; omega
        obtain ⟨i0, hi, hz0, hz1, hz2⟩ := info_parts info5
        obtain ⟨A1, hcut, hA1, hC1⟩ := print_mid_of (P := Try.prog) (Value.int .u8) 0 22 5 .i64 .i64 Try.underlying22 hi hz1 (some ad) c0 l0 3 (3 + rd l0 2) (by decide) (by omega) (by have := HLEN.out; omega) HC0.out
        have HC1 := Aside0.mk hC1
        have HA1 := Aside0.mk (Kd.C_of_reads (h1 := fun _ => rfl) (hA1 _ (Kd.reads_of_C HR0.out)))
        clear h h2 ht hu hnn hbig hA1 hC1
        obtain ⟨A1, n1, c1, hcut, HA1⟩ : ∃ (A1 : Option Addr) (n1 c1 : Nat), (∀ W : World, (Instr.slice 22 (.slice (some ad) l0.length c0) (some (.int .i64 3)) (some (.int .i64 (IntKind.i64.wrap (3 + IntKind.i64.wrap (rd l0 2))))) none).run Try.prog W = .ok (.slice A1 n1 c1) W) ∧ Aside0 (Kd.C (Kd.int .u8) w A1 n1 ((l0.take (3 + rd l0 2).toNat).drop 3)) := ⟨A1, _, _, by rw [hw]; exact hcut, ⟨HA1.out⟩⟩
        obtain ⟨nm, hnm⟩ : ∃ nm, strOfNums ((l0.take (3 + rd l0 2).toNat).drop 3) = nm := ⟨_, rfl⟩
        have HCV := Aside0.mk (fun (W : World) (h : Kd.C (Kd.int .u8) W A1 n1 ((l0.take (3 + rd l0 2).toNat).drop 3)) => (Kd.C_string (P := Try.prog) (A := A1) (c := c1) Try.underlying22 Try.underlying5 Try.underlying9 h).trans (by rw [hnm]))
        rw [hnm] at HU h3
        clear hnm hw
        by_cases hq : u2 = 0
        · rw [if_pos hq] at h3
          have hqb : (u2 != 0) = false := bne_eq_false_iff_eq.mpr hq
          clear hq
          obtain ⟨sm, hs, h4⟩ := Option.bind_eq_some_iff.mp h3
          have HS := Aside0.mk hs
          clear h3 hs
          by_cases hst : sm = true
          · subst hst
            rw [if_pos rfl] at h4
            simp only [Option.some.injEq, Prod.mk.injEq] at h4
            obtain ⟨rfl, rfl, rfl⟩ := h4
            go_enter Try.func29, Try.ntmps29
            go_wp2_with (first
              | ((with_reducible refine gate_dst (N := 2) rfl ?_); refine box_event ?hg (N := 2) ?hd (cs := #[.int .i64 0, .string ⟨#[]⟩]) (t := 27) ?hr ?_; (case hd => rfl); (case hg => rfl); (case hr => first | (go_simp; done) | (go_simp; rfl)); intro gb hg w1 hbox hb; have n0_ := Aside0.mk (below_step (w2 := w1) (by repeat (first | (with_reducible first | exact HB.out | apply below_alloc | apply pw_below_drewN | apply below_drew1) | exact HB.out)) hb); have BKb := Aside0.mk hbox; have GE := Aside0.mk (show w.heap.size ≤ gb by rw [hg]; exact Nat.le_refl _); clear HB; have HB := n0_; clear n0_ hb hbox hg; have hx1 : w1.cell? { block := ad.block, off := ad.off + 2, spot := none } = some (.int .u8 (rd l0 2)) := pw_cell_below HB.out hx; clear hx))
            have HX1 := Aside0.mk hx1
            have hnb : ∀ n : Nat, ((w1.drewN n).alloc (.cells #[.int .i64 0, .string ⟨#[]⟩] 27)).heap[w1.heap.size]? = some (.cells #[.int .i64 0, .string ⟨#[]⟩] 27 (0, 0)) := fun n => blk_new (w1.drewN n) _
            have hn0 : ∀ n : Nat, ((w1.drewN n).alloc (.cells #[.int .i64 0, .string ⟨#[]⟩] 27)).cell? ⟨w1.heap.size, 0, none⟩ = some (.int .i64 0) := fun n => (blk_cell (hnb n) 0).trans rfl
            have hn1 : ∀ n : Nat, ((w1.drewN n).alloc (.cells #[.int .i64 0, .string ⟨#[]⟩] 27)).cell? ⟨w1.heap.size, 1, none⟩ = some (.string ⟨#[]⟩) := fun n => (blk_cell (hnb n) 1).trans rfl
            have hz0 : ∀ n : Nat, ((w1.drewN n).alloc (.cells #[.int .i64 0, .string ⟨#[]⟩] 27)).frozen? ⟨w1.heap.size, 0, none⟩ = false := fun n => blk_frozen (hnb n) 0
            have hz1 : ∀ n : Nat, ((w1.drewN n).alloc (.cells #[.int .i64 0, .string ⟨#[]⟩] 27)).frozen? ⟨w1.heap.size, 1, none⟩ = false := fun n => blk_frozen (hnb n) 1
            clear hnb
            have hcv : (convert 22 9 (.slice A1 n1 c1)).run Try.prog w1 = .ok (.string nm) w1 := HCV.out _ (Kd.C_below HA1.out HB.out)
            go_region_held3 (fun X => X.cell? { block := ad.block, off := ad.off + 2, spot := none } = some (.int .u8 (rd l0 2)) ∧ (convert 22 9 (.slice A1 n1 c1)).run Try.prog X = .ok (.string nm) X) (first | (refine ⟨pw_cell_below (w := w1) (by repeat (first | exact Below.refl _ _ | apply below_alloc | apply pw_below_drewN | apply below_drew1 | refine below_set ?_ (Nat.le_refl _))) HX1.out, HCV.out _ (Kd.C_below (Kd.C_below HA1.out HB.out) (by repeat (first | exact Below.refl _ _ | apply below_alloc | apply pw_below_drewN | apply below_drew1 | refine below_set ?_ (Nat.le_refl _))))⟩) | fail) (first | (go_at_call 43; refine (bollardref03_get.calls k (some ad) c0 l0 0 2 t _ (by repeat (first | exact Kd.C_below HR0.out HB.out | refine Kd.C_alloc ?_ _ | refine Kd.C_drewN ?_ _ | refine Kd.C_drew ?_)) HC0.out HT.out).mono ?_; rintro e w' ⟨rfl, ⟨nd, rfl⟩⟩) | fail)
            all_goals (go_wp2_with (first
              | (go_at_call 32; clear hn0 hn1 hz0 hz1; refine (bollardref03_EncodeEntry.calls k t nm u1 u2 _ HU.out).mono ?_; rintro e w7 ⟨v0, rfl, hr7, hb7⟩; have HR7 := Aside0.mk hr7; have HW7 := Aside0.mk (below_step (w := w1) (w2 := w7) (by repeat (first | exact Below.refl _ _ | apply below_alloc | apply pw_below_drewN | apply below_drew1 | refine below_set ?_ (Nat.le_refl _))) hb7); have BKe := Aside0.mk (blk_below (g := w1.heap.size) (w1 := w7) (o := .cells #[.int .i64 t, .string nm] 27 (0, 0)) (by (with_reducible repeat (first | refine blk_drewN ?_ _ | refine blk_drew ?_)); refine blk_put (cs := #[.int .i64 t, .string ⟨#[]⟩]) ?_ 1 _ rfl; (with_reducible repeat (first | refine blk_drewN ?_ _ | refine blk_drew ?_)); refine blk_put (cs := #[.int .i64 0, .string ⟨#[]⟩]) ?_ 0 _ rfl; (with_reducible repeat (first | refine blk_drewN ?_ _ | refine blk_drew ?_)); exact blk_new _ _) hb7); clear hr7 hb7; have n0_ := Aside0.mk (blk_below BKb.out HW7.out); clear BKb; have BKb := n0_; clear n0_; have n0_ := Aside0.mk (below_then (w2 := w7) HB.out HB.out.size HW7.out); clear HB; have HB := n0_; clear n0_; obtain ⟨A7, c7, e7⟩ := Kd.R_slice HR7.out; subst e7; have hce0 : w7.cell? ⟨w1.heap.size, 0, none⟩ = some (.int .i64 t) := (blk_cell BKe.out 0).trans rfl; have hce1 : w7.cell? ⟨w1.heap.size, 1, none⟩ = some (.string nm) := (blk_cell BKe.out 1).trans rfl; have hfe0 := blk_frozen BKe.out 0; have hfe1 := blk_frozen BKe.out 1; have hcb0 : w7.cell? ⟨gb, 0, none⟩ = some (.int .i64 0) := (blk_cell BKb.out 0).trans rfl; have hcb1 : w7.cell? ⟨gb, 1, none⟩ = some (.string ⟨#[]⟩) := (blk_cell BKb.out 1).trans rfl; have hfb0 := blk_frozen BKb.out 0; have hfb1 := blk_frozen BKb.out 1)
              | (go_at_call 44; refine (bollardref03_same.calls (some ad) c0 l0 A7 c7 u1 true _ (by repeat (first | exact Kd.C_below HR0.out HB.out | refine Kd.C_drewN ?_ _ | refine Kd.C_drew ?_)) HC0.out (by repeat (first | exact (Kd.R_reads' HR7.out).2.2 | refine Kd.C_drewN ?_ _ | refine Kd.C_drew ?_)) (Kd.R_reads' HR7.out).2.1 HS.out).mono ?_; rintro e w9 ⟨rfl, m9, rfl⟩)))
            all_goals (refine bodyPost_ret (results_ct rfl _ _ gb 27 #[.int .i64 t, .string nm] (0, 0) _ rfl (by (with_reducible repeat (first | refine blk_drewN ?_ _ | refine blk_drew ?_ | refine blk_alloc ?_ _)); refine blk_put (cs := #[.int .i64 t, .string ⟨#[]⟩]) ?_ 1 _ rfl; (with_reducible repeat (first | refine blk_drewN ?_ _ | refine blk_drew ?_ | refine blk_alloc ?_ _)); refine blk_put (cs := #[.int .i64 0, .string ⟨#[]⟩]) ?_ 0 _ rfl; (with_reducible repeat (first | refine blk_drewN ?_ _ | refine blk_drew ?_ | refine blk_alloc ?_ _)); exact BKb.out) hu36 rfl (by kernel_rfl)) rfl ?_)
            all_goals (exact ⟨rfl, by repeat (first | (with_reducible first | exact HB.out | apply below_alloc | apply pw_below_drewN | apply below_drew1 | refine below_set ?_ GE.out) | exact HB.out)⟩)
          · obtain rfl : sm = false := by cases sm; rfl; exact absurd rfl hst
            rw [if_neg (by decide)] at h4
            simp only [Option.some.injEq, Prod.mk.injEq] at h4
            obtain ⟨rfl, rfl, rfl⟩ := h4
            go_enter Try.func29, Try.ntmps29
            go_wp2_with (first
              | ((with_reducible refine gate_dst (N := 2) rfl ?_); refine box_event ?hg (N := 2) ?hd (cs := #[.int .i64 0, .string ⟨#[]⟩]) (t := 27) ?hr ?_; (case hd => rfl); (case hg => rfl); (case hr => first | (go_simp; done) | (go_simp; rfl)); intro gb hg w1 hbox hb; have n0_ := Aside0.mk (below_step (w2 := w1) (by repeat (first | (with_reducible first | exact HB.out | apply below_alloc | apply pw_below_drewN | apply below_drew1) | exact HB.out)) hb); have BKb := Aside0.mk hbox; have GE := Aside0.mk (show w.heap.size ≤ gb by rw [hg]; exact Nat.le_refl _); clear HB; have HB := n0_; clear n0_ hb hbox hg; have hx1 : w1.cell? { block := ad.block, off := ad.off + 2, spot := none } = some (.int .u8 (rd l0 2)) := pw_cell_below HB.out hx; clear hx))
            have HX1 := Aside0.mk hx1
            have hnb : ∀ n : Nat, ((w1.drewN n).alloc (.cells #[.int .i64 0, .string ⟨#[]⟩] 27)).heap[w1.heap.size]? = some (.cells #[.int .i64 0, .string ⟨#[]⟩] 27 (0, 0)) := fun n => blk_new (w1.drewN n) _
            have hn0 : ∀ n : Nat, ((w1.drewN n).alloc (.cells #[.int .i64 0, .string ⟨#[]⟩] 27)).cell? ⟨w1.heap.size, 0, none⟩ = some (.int .i64 0) := fun n => (blk_cell (hnb n) 0).trans rfl
            have hn1 : ∀ n : Nat, ((w1.drewN n).alloc (.cells #[.int .i64 0, .string ⟨#[]⟩] 27)).cell? ⟨w1.heap.size, 1, none⟩ = some (.string ⟨#[]⟩) := fun n => (blk_cell (hnb n) 1).trans rfl
            have hz0 : ∀ n : Nat, ((w1.drewN n).alloc (.cells #[.int .i64 0, .string ⟨#[]⟩] 27)).frozen? ⟨w1.heap.size, 0, none⟩ = false := fun n => blk_frozen (hnb n) 0
            have hz1 : ∀ n : Nat, ((w1.drewN n).alloc (.cells #[.int .i64 0, .string ⟨#[]⟩] 27)).frozen? ⟨w1.heap.size, 1, none⟩ = false := fun n => blk_frozen (hnb n) 1
            clear hnb
            have hcv : (convert 22 9 (.slice A1 n1 c1)).run Try.prog w1 = .ok (.string nm) w1 := HCV.out _ (Kd.C_below HA1.out HB.out)
            go_region_held3 (fun X => X.cell? { block := ad.block, off := ad.off + 2, spot := none } = some (.int .u8 (rd l0 2)) ∧ (convert 22 9 (.slice A1 n1 c1)).run Try.prog X = .ok (.string nm) X) (first | (refine ⟨pw_cell_below (w := w1) (by repeat (first | exact Below.refl _ _ | apply below_alloc | apply pw_below_drewN | apply below_drew1 | refine below_set ?_ (Nat.le_refl _))) HX1.out, HCV.out _ (Kd.C_below (Kd.C_below HA1.out HB.out) (by repeat (first | exact Below.refl _ _ | apply below_alloc | apply pw_below_drewN | apply below_drew1 | refine below_set ?_ (Nat.le_refl _))))⟩) | fail) (first | (go_at_call 43; refine (bollardref03_get.calls k (some ad) c0 l0 0 2 t _ (by repeat (first | exact Kd.C_below HR0.out HB.out | refine Kd.C_alloc ?_ _ | refine Kd.C_drewN ?_ _ | refine Kd.C_drew ?_)) HC0.out HT.out).mono ?_; rintro e w' ⟨rfl, ⟨nd, rfl⟩⟩) | fail)
            all_goals (go_wp2_with (first
              | (go_at_call 32; clear hn0 hn1 hz0 hz1; refine (bollardref03_EncodeEntry.calls k t nm u1 u2 _ HU.out).mono ?_; rintro e w7 ⟨v0, rfl, hr7, hb7⟩; have HR7 := Aside0.mk hr7; have HW7 := Aside0.mk (below_step (w := w1) (w2 := w7) (by repeat (first | exact Below.refl _ _ | apply below_alloc | apply pw_below_drewN | apply below_drew1 | refine below_set ?_ (Nat.le_refl _))) hb7); have BKe := Aside0.mk (blk_below (g := w1.heap.size) (w1 := w7) (o := .cells #[.int .i64 t, .string nm] 27 (0, 0)) (by (with_reducible repeat (first | refine blk_drewN ?_ _ | refine blk_drew ?_)); refine blk_put (cs := #[.int .i64 t, .string ⟨#[]⟩]) ?_ 1 _ rfl; (with_reducible repeat (first | refine blk_drewN ?_ _ | refine blk_drew ?_)); refine blk_put (cs := #[.int .i64 0, .string ⟨#[]⟩]) ?_ 0 _ rfl; (with_reducible repeat (first | refine blk_drewN ?_ _ | refine blk_drew ?_)); exact blk_new _ _) hb7); clear hr7 hb7; have n0_ := Aside0.mk (blk_below BKb.out HW7.out); clear BKb; have BKb := n0_; clear n0_; have n0_ := Aside0.mk (below_then (w2 := w7) HB.out HB.out.size HW7.out); clear HB; have HB := n0_; clear n0_; obtain ⟨A7, c7, e7⟩ := Kd.R_slice HR7.out; subst e7; have hce0 : w7.cell? ⟨w1.heap.size, 0, none⟩ = some (.int .i64 t) := (blk_cell BKe.out 0).trans rfl; have hce1 : w7.cell? ⟨w1.heap.size, 1, none⟩ = some (.string nm) := (blk_cell BKe.out 1).trans rfl; have hfe0 := blk_frozen BKe.out 0; have hfe1 := blk_frozen BKe.out 1; have hcb0 : w7.cell? ⟨gb, 0, none⟩ = some (.int .i64 0) := (blk_cell BKb.out 0).trans rfl; have hcb1 : w7.cell? ⟨gb, 1, none⟩ = some (.string ⟨#[]⟩) := (blk_cell BKb.out 1).trans rfl; have hfb0 := blk_frozen BKb.out 0; have hfb1 := blk_frozen BKb.out 1)
              | (go_at_call 44; refine (bollardref03_same.calls (some ad) c0 l0 A7 c7 u1 false _ (by repeat (first | exact Kd.C_below HR0.out HB.out | refine Kd.C_drewN ?_ _ | refine Kd.C_drew ?_)) HC0.out (by repeat (first | exact (Kd.R_reads' HR7.out).2.2 | refine Kd.C_drewN ?_ _ | refine Kd.C_drew ?_)) (Kd.R_reads' HR7.out).2.1 HS.out).mono ?_; rintro e w9 ⟨rfl, m9, rfl⟩)))
            all_goals (refine bodyPost_ret (results_ct rfl _ _ gb 27 #[.int .i64 0, .string ⟨#[]⟩] (0, 0) _ rfl (by (with_reducible repeat (first | refine blk_drewN ?_ _ | refine blk_drew ?_ | refine blk_alloc ?_ _)); refine blk_put (cs := #[.int .i64 0, .string ⟨#[]⟩]) ?_ 1 _ rfl; (with_reducible repeat (first | refine blk_drewN ?_ _ | refine blk_drew ?_ | refine blk_alloc ?_ _)); refine blk_put (cs := #[.int .i64 0, .string ⟨#[]⟩]) ?_ 0 _ rfl; (with_reducible repeat (first | refine blk_drewN ?_ _ | refine blk_drew ?_ | refine blk_alloc ?_ _)); exact BKb.out) hu36 rfl (by kernel_rfl)) rfl ?_)
            all_goals (exact ⟨rfl, by repeat (first | (with_reducible first | exact HB.out | apply below_alloc | apply pw_below_drewN | apply below_drew1 | refine below_set ?_ GE.out) | exact HB.out)⟩)
        · rw [if_neg hq] at h3
          have hqb : (u2 != 0) = true := bne_iff_ne.mpr hq
          simp only [Option.some.injEq, Prod.mk.injEq] at h3
          obtain ⟨rfl, rfl, rfl⟩ := h3
          clear hq
          go_enter Try.func29, Try.ntmps29
          go_wp2_with (first
            | ((with_reducible refine gate_dst (N := 2) rfl ?_); refine box_event ?hg (N := 2) ?hd (cs := #[.int .i64 0, .string ⟨#[]⟩]) (t := 27) ?hr ?_; (case hd => rfl); (case hg => rfl); (case hr => first | (go_simp; done) | (go_simp; rfl)); intro gb hg w1 hbox hb; have n0_ := Aside0.mk (below_step (w2 := w1) (by repeat (first | (with_reducible first | exact HB.out | apply below_alloc | apply pw_below_drewN | apply below_drew1) | exact HB.out)) hb); have BKb := Aside0.mk hbox; have GE := Aside0.mk (show w.heap.size ≤ gb by rw [hg]; exact Nat.le_refl _); clear HB; have HB := n0_; clear n0_ hb hbox hg; have hx1 : w1.cell? { block := ad.block, off := ad.off + 2, spot := none } = some (.int .u8 (rd l0 2)) := pw_cell_below HB.out hx; clear hx))
          have HX1 := Aside0.mk hx1
          have hnb : ∀ n : Nat, ((w1.drewN n).alloc (.cells #[.int .i64 0, .string ⟨#[]⟩] 27)).heap[w1.heap.size]? = some (.cells #[.int .i64 0, .string ⟨#[]⟩] 27 (0, 0)) := fun n => blk_new (w1.drewN n) _
          have hn0 : ∀ n : Nat, ((w1.drewN n).alloc (.cells #[.int .i64 0, .string ⟨#[]⟩] 27)).cell? ⟨w1.heap.size, 0, none⟩ = some (.int .i64 0) := fun n => (blk_cell (hnb n) 0).trans rfl
          have hn1 : ∀ n : Nat, ((w1.drewN n).alloc (.cells #[.int .i64 0, .string ⟨#[]⟩] 27)).cell? ⟨w1.heap.size, 1, none⟩ = some (.string ⟨#[]⟩) := fun n => (blk_cell (hnb n) 1).trans rfl
          have hz0 : ∀ n : Nat, ((w1.drewN n).alloc (.cells #[.int .i64 0, .string ⟨#[]⟩] 27)).frozen? ⟨w1.heap.size, 0, none⟩ = false := fun n => blk_frozen (hnb n) 0
          have hz1 : ∀ n : Nat, ((w1.drewN n).alloc (.cells #[.int .i64 0, .string ⟨#[]⟩] 27)).frozen? ⟨w1.heap.size, 1, none⟩ = false := fun n => blk_frozen (hnb n) 1
          clear hnb
          have hcv : (convert 22 9 (.slice A1 n1 c1)).run Try.prog w1 = .ok (.string nm) w1 := HCV.out _ (Kd.C_below HA1.out HB.out)
          go_region_held3 (fun X => X.cell? { block := ad.block, off := ad.off + 2, spot := none } = some (.int .u8 (rd l0 2)) ∧ (convert 22 9 (.slice A1 n1 c1)).run Try.prog X = .ok (.string nm) X) (first | (refine ⟨pw_cell_below (w := w1) (by repeat (first | exact Below.refl _ _ | apply below_alloc | apply pw_below_drewN | apply below_drew1 | refine below_set ?_ (Nat.le_refl _))) HX1.out, HCV.out _ (Kd.C_below (Kd.C_below HA1.out HB.out) (by repeat (first | exact Below.refl _ _ | apply below_alloc | apply pw_below_drewN | apply below_drew1 | refine below_set ?_ (Nat.le_refl _))))⟩) | fail) (first | (go_at_call 43; refine (bollardref03_get.calls k (some ad) c0 l0 0 2 t _ (by repeat (first | exact Kd.C_below HR0.out HB.out | refine Kd.C_alloc ?_ _ | refine Kd.C_drewN ?_ _ | refine Kd.C_drew ?_)) HC0.out HT.out).mono ?_; rintro e w' ⟨rfl, ⟨nd, rfl⟩⟩) | fail)
          all_goals (go_wp2_with (first
            | (go_at_call 32; clear hn0 hn1 hz0 hz1; refine (bollardref03_EncodeEntry.calls k t nm u1 u2 _ HU.out).mono ?_; rintro e w7 ⟨v0, rfl, hr7, hb7⟩; have HR7 := Aside0.mk hr7; have HW7 := Aside0.mk (below_step (w := w1) (w2 := w7) (by repeat (first | exact Below.refl _ _ | apply below_alloc | apply pw_below_drewN | apply below_drew1 | refine below_set ?_ (Nat.le_refl _))) hb7); have BKe := Aside0.mk (blk_below (g := w1.heap.size) (w1 := w7) (o := .cells #[.int .i64 t, .string nm] 27 (0, 0)) (by (with_reducible repeat (first | refine blk_drewN ?_ _ | refine blk_drew ?_)); refine blk_put (cs := #[.int .i64 t, .string ⟨#[]⟩]) ?_ 1 _ rfl; (with_reducible repeat (first | refine blk_drewN ?_ _ | refine blk_drew ?_)); refine blk_put (cs := #[.int .i64 0, .string ⟨#[]⟩]) ?_ 0 _ rfl; (with_reducible repeat (first | refine blk_drewN ?_ _ | refine blk_drew ?_)); exact blk_new _ _) hb7); clear hr7 hb7; have n0_ := Aside0.mk (blk_below BKb.out HW7.out); clear BKb; have BKb := n0_; clear n0_; have n0_ := Aside0.mk (below_then (w2 := w7) HB.out HB.out.size HW7.out); clear HB; have HB := n0_; clear n0_; obtain ⟨A7, c7, e7⟩ := Kd.R_slice HR7.out; subst e7; have hce0 : w7.cell? ⟨w1.heap.size, 0, none⟩ = some (.int .i64 t) := (blk_cell BKe.out 0).trans rfl; have hce1 : w7.cell? ⟨w1.heap.size, 1, none⟩ = some (.string nm) := (blk_cell BKe.out 1).trans rfl; have hfe0 := blk_frozen BKe.out 0; have hfe1 := blk_frozen BKe.out 1; have hcb0 : w7.cell? ⟨gb, 0, none⟩ = some (.int .i64 0) := (blk_cell BKb.out 0).trans rfl; have hcb1 : w7.cell? ⟨gb, 1, none⟩ = some (.string ⟨#[]⟩) := (blk_cell BKb.out 1).trans rfl; have hfb0 := blk_frozen BKb.out 0; have hfb1 := blk_frozen BKb.out 1)))
          all_goals (refine bodyPost_ret (results_ct rfl _ _ gb 27 #[.int .i64 0, .string ⟨#[]⟩] (0, 0) _ rfl (by (with_reducible repeat (first | refine blk_drewN ?_ _ | refine blk_drew ?_ | refine blk_alloc ?_ _)); refine blk_put (cs := #[.int .i64 0, .string ⟨#[]⟩]) ?_ 1 _ rfl; (with_reducible repeat (first | refine blk_drewN ?_ _ | refine blk_drew ?_ | refine blk_alloc ?_ _)); refine blk_put (cs := #[.int .i64 0, .string ⟨#[]⟩]) ?_ 0 _ rfl; (with_reducible repeat (first | refine blk_drewN ?_ _ | refine blk_drew ?_ | refine blk_alloc ?_ _)); exact BKb.out) hu36 rfl (by kernel_rfl)) rfl ?_)
          all_goals (exact ⟨rfl, by repeat (first | (with_reducible first | exact HB.out | apply below_alloc | apply pw_below_drewN | apply below_drew1 | refine below_set ?_ GE.out) | exact HB.out)⟩)
      · rw [if_neg hnn] at h
        cases h
  · rw [if_neg hlen] at h
    have hb0 : ((l0.length : Int) != 16) = true := bne_iff_ne.mpr hlen
    simp only [Option.some.injEq, Prod.mk.injEq] at h
    obtain ⟨rfl, rfl, rfl⟩ := h
    clear hlen
    go_enter Try.func29, Try.ntmps29
    go_wp2_with (first
      | ((with_reducible refine gate_dst (N := 2) rfl ?_); refine box_event ?hg (N := 2) ?hd (cs := #[.int .i64 0, .string ⟨#[]⟩]) (t := 27) ?hr ?_; (case hd => rfl); (case hg => rfl); (case hr => first | (go_simp; done) | (go_simp; rfl)); intro gb hg w1 hbox hb; have n0_ := Aside0.mk (below_step (w2 := w1) (by repeat (first | (with_reducible first | exact HB.out | apply below_alloc | apply pw_below_drewN | apply below_drew1) | exact HB.out)) hb); have BKb := Aside0.mk hbox; have GE := Aside0.mk (show w.heap.size ≤ gb by rw [hg]; exact Nat.le_refl _); clear HB; have HB := n0_; clear n0_ hb hbox hg; have hcb0 : w1.cell? ⟨gb, 0, none⟩ = some (.int .i64 0) := (blk_cell BKb.out 0).trans rfl; have hcb1 : w1.cell? ⟨gb, 1, none⟩ = some (.string ⟨#[]⟩) := (blk_cell BKb.out 1).trans rfl; have hfb0 := blk_frozen BKb.out 0; have hfb1 := blk_frozen BKb.out 1))
    refine bodyPost_ret (results_ct rfl _ _ gb 27 #[.int .i64 0, .string ⟨#[]⟩] (0, 0) _ rfl (by (with_reducible repeat (first | refine blk_drewN ?_ _ | refine blk_drew ?_ | refine blk_alloc ?_ _)); refine blk_put (cs := #[.int .i64 0, .string ⟨#[]⟩]) ?_ 1 _ rfl; (with_reducible repeat (first | refine blk_drewN ?_ _ | refine blk_drew ?_ | refine blk_alloc ?_ _)); refine blk_put (cs := #[.int .i64 0, .string ⟨#[]⟩]) ?_ 0 _ rfl; (with_reducible repeat (first | refine blk_drewN ?_ _ | refine blk_drew ?_ | refine blk_alloc ?_ _)); exact BKb.out) hu36 rfl (by kernel_rfl)) rfl ?_
    exact ⟨rfl, by repeat (first | (with_reducible first | exact HB.out | apply below_alloc | apply pw_below_drewN | apply below_drew1 | refine below_set ?_ GE.out) | exact HB.out)⟩

/-! ### bollardref12_clash: function 30 -/
mutual
def bollardref12_clash.l0 : Nat → List (S27) → List (S27) → Int → Int → Option (Bool)
  | 0, _, _, _, _ => none
  | k + 1, x0, x7, x8, x9 => if x9 < x8 then (if 0 ≤ x9 then (if x9 < (x7.length : Int) then (if x9 ≤ (x0.length : Int) then ((some (x0.take (x9 : Int).toNat : List (S27))).bind fun y169 => (bollardref12_clash.l1 k x0 x7 x8 x9 y169 (y169.length : Int) 0 ((rd_T27 x7 x9).f0) ((rd_T27 x7 x9).f1))) else (none)) else (none)) else (none)) else (some false)
def bollardref12_clash.l1 : Nat → List (S27) → List (S27) → Int → Int → List (S27) → Int → Int → Int → ByteArray → Option (Bool)
  | 0, _, _, _, _, _, _, _, _, _ => none
  | k + 1, x0, x7, x8, x9, x16, x17, x18, x169000, x169001 => if x18 < x17 then (if 0 ≤ x18 then (if x18 < (x16.length : Int) then (if x169000 = 0 then (bollardref12_clash.l1 k x0 x7 x8 x9 x16 x17 (wrap64 (x18 + 1)) x169000 x169001) else (if ((rd_T27 x16 x18).f0) = 0 then (bollardref12_clash.l1 k x0 x7 x8 x9 x16 x17 (wrap64 (x18 + 1)) x169000 x169001) else (if x169001.toList = ((rd_T27 x16 x18).f1).toList then (some true) else (bollardref12_clash.l1 k x0 x7 x8 x9 x16 x17 (wrap64 (x18 + 1)) x169000 x169001)))) else (none)) else (none)) else (bollardref12_clash.l0 k x0 x7 x8 (wrap64 (x9 + 1)))
end
def bollardref12_clash.f (k : Nat) (l0 : List (S27)) : Option (Bool) := bollardref12_clash.l0 k l0 l0 (l0.length : Int) 0
theorem bollardref12_clash.mono_l : ∀ k, (∀ y0 y1 y2 y3, LeO (bollardref12_clash.l0 k y0 y1 y2 y3) (bollardref12_clash.l0 (k + 1) y0 y1 y2 y3)) ∧ (∀ y0 y1 y2 y3 y4 y5 y6 y7 y8, LeO (bollardref12_clash.l1 k y0 y1 y2 y3 y4 y5 y6 y7 y8) (bollardref12_clash.l1 (k + 1) y0 y1 y2 y3 y4 y5 y6 y7 y8))
  | 0 => ⟨fun _ _ _ _ r h => by simp [bollardref12_clash.l0] at h, fun _ _ _ _ _ _ _ _ _ r h => by simp [bollardref12_clash.l1] at h⟩
  | k + 1 => by
    obtain ⟨ih0, ih1⟩ := bollardref12_clash.mono_l k
    refine ⟨?_, ?_⟩
    · intro y0 y1 y2 y3
      unfold bollardref12_clash.l0
      repeat' first
      | (with_reducible exact ih0 _ _ _ _)
      | (with_reducible exact ih1 _ _ _ _ _ _ _ _ _)
      | (with_reducible exact LeO.refl _)
      | (with_reducible exact LeO.none _)
      | (with_reducible refine LeO.ite ?_ ?_)
      | (with_reducible refine LeO.bind ?_ (fun _ => ?_))
      | exact ih0 _ _ _ _
      | exact ih1 _ _ _ _ _ _ _ _ _
      | exact LeO.none _
      | refine LeO.ite ?_ ?_
      | refine LeO.bind ?_ (fun _ => ?_)
    · intro y0 y1 y2 y3 y4 y5 y6 y7 y8
      unfold bollardref12_clash.l1
      repeat' first
      | (with_reducible exact ih0 _ _ _ _)
      | (with_reducible exact ih1 _ _ _ _ _ _ _ _ _)
      | (with_reducible exact LeO.refl _)
      | (with_reducible exact LeO.none _)
      | (with_reducible refine LeO.ite ?_ ?_)
      | (with_reducible refine LeO.bind ?_ (fun _ => ?_))
      | exact ih0 _ _ _ _
      | exact ih1 _ _ _ _ _ _ _ _ _
      | exact LeO.none _
      | refine LeO.ite ?_ ?_
      | refine LeO.bind ?_ (fun _ => ?_)
theorem bollardref12_clash.mono : ∀ a0 k, LeO (bollardref12_clash.f k a0) (bollardref12_clash.f (k + 1) a0) := by
  intro a0 k
  obtain ⟨ih0, ih1⟩ := bollardref12_clash.mono_l k
  unfold bollardref12_clash.f
  repeat' first
      | (with_reducible exact ih0 _ _ _ _)
      | (with_reducible exact ih1 _ _ _ _ _ _ _ _ _)
      | (with_reducible exact LeO.refl _)
      | (with_reducible exact LeO.none _)
      | (with_reducible refine LeO.ite ?_ ?_)
      | (with_reducible refine LeO.bind ?_ (fun _ => ?_))
      | exact ih0 _ _ _ _
      | exact ih1 _ _ _ _ _ _ _ _ _
      | exact LeO.none _
      | refine LeO.ite ?_ ?_
      | refine LeO.bind ?_ (fun _ => ?_)
set_option maxHeartbeats 8000000 in
set_option maxRecDepth 100000 in
theorem bollardref12_clash.calls (k : Nat) (A0 : Option Addr) (c0 : Nat) (l0 : List (S27)) (r : Bool) (w : World) (hr0 : Kd.C k27 w A0 l0.length l0) (hc0 : l0.length ≤ c0) (h : bollardref12_clash.f k l0 = some r) :
    Calls Try.prog 30 #[.slice A0 l0.length c0] w fun e w' => e = .returned (.bool r) ∧ Below w.heap.size w w' := by
  have hu27 := Try.underlying27
  have HR0 := Aside0.mk hr0
  have HC0 := Aside0.mk hc0
  clear hr0 hc0
  have HB := Aside0.mk (Below.refl w.heap.size w)
  have H : (bollardref12_clash.l0 k l0 l0 (l0.length : Int) 0) = some r := h
  clear h
  have H' := Aside0.mk H
  clear H
  go_enter Try.func30, Try.ntmps30
  go_wp2
  go_loopg [9] k (fun kq v9 w' => ∃ (x9_1 : Int), v9 = .int .i64 x9_1 ∧ Aside0 (bollardref12_clash.l0 kq l0 l0 (l0.length : Int) x9_1 = some r) ∧ Aside0 (kq ≤ k) ∧ Aside0 (Below w.heap.size w w'))
  case atStart => exact ⟨(0), (by first | rfl | (simp; done) | (simp [*]; done)), H', ⟨Nat.le_refl _⟩, ⟨by repeat (first | (with_reducible first | exact HB.out | apply below_alloc | apply pw_below_drewN | apply below_drew1) | exact HB.out)⟩⟩
  case round =>
    clear H'
    obtain ⟨x9_1, rfl, HA, HK1, HB⟩ := hrel
    cases gk with
    | zero => exact absurd HA.out (by simp [bollardref12_clash.l0])
    | succ k1 =>
      have H := HA.out
      clear HA
      simp only [bollardref12_clash.l0] at H
      by_cases c2 : x9_1 < (l0.length : Int)
      · rw [if_pos c2] at H
        have c2b0 : decide (x9_1 < (l0.length : Int)) = true := decide_eq_true c2
        clear c2
        by_cases c3 : 0 ≤ x9_1
        · rw [if_pos c3] at H
          have c3b0 : decide (0 ≤ x9_1) = true := decide_eq_true c3
          clear c3
          by_cases c4 : x9_1 < (l0.length : Int)
          · rw [if_pos c4] at H
            have c4b0 : decide (x9_1 < (l0.length : Int)) = true := decide_eq_true c4
            clear c4
            have c5b0 := eq_true (of_decide_eq_true (by first | (with_reducible assumption) | assumption) : 0 ≤ x9_1)
            by_cases c6 : x9_1 ≤ (l0.length : Int)
            · rw [if_pos c6] at H
              have c6b0 := eq_true c6
              have c6b1 : decide (x9_1 ≤ (l0.length : Int)) = true := decide_eq_true c6
              clear c6
              obtain ⟨y169, hy169⟩ : ∃ y_ : List (S27), y_ = (l0.take (x9_1 : Int).toNat) := ⟨_, rfl⟩
              replace H : (bollardref12_clash.l1 k1 l0 l0 (l0.length : Int) x9_1 y169 (y169.length : Int) 0 ((rd_T27 l0 x9_1).f0) ((rd_T27 l0 x9_1).f1)) = some r := by first | (rw [hy169]; with_reducible exact H) | (have H2_ := (Option.bind_some _ _).symm.trans H; rw [hy169]; with_reducible exact H2_) | (have H2_ := (Option.bind_some _ _).symm.trans H; with_reducible exact H2_) | with_reducible exact H | (rw [hy169]; exact H) | exact H
              have Ny169 := Aside0.mk hy169
              clear hy169
              have H' := Aside0.mk H
              clear H
              have p167 : 0 ≤ (x9_1 : Int) := of_decide_eq_true (by first | (with_reducible assumption) | assumption)
              have q167 : x9_1 < (l0.length : Int) := of_decide_eq_true (by first | (with_reducible assumption) | assumption)
              obtain ⟨ad167, e167, hx167_0, hx167_1⟩ := at_T27 HR0.out x9_1 p167 q167
              cases e167
              replace hx167_0 := (HB.out.cell (World.block_lt_of_cell? w _ hx167_0)).trans hx167_0
              replace hx167_1 := (HB.out.cell (World.block_lt_of_cell? w _ hx167_1)).trans hx167_1
              replace p167 := eq_true p167
              replace q167 := eq_true q167
              go_wp2_with (first | ((with_reducible refine gate_dst (N := 4) rfl ?_); refine box_event ?hg (N := 4) ?hd (cs := #[.int .i64 0, .string (⟨#[]⟩ : ByteArray)]) (t := 27) ?hr ?_; (case hd => rfl); (case hg => rfl); (case hr => first | (go_simp; done) | (go_simp; rfl)); intro gb168 hg w7 hbox hb; have n0_ := Aside0.mk (below_step (by repeat (first | (with_reducible first | exact HB.out | apply below_alloc | apply pw_below_drewN | apply below_drew1) | exact HB.out)) hb); have n1_ := Aside0.mk (hbox); have n2_ := Aside0.mk ((by rw [hg]; exact (below_size (by repeat (first | (with_reducible first | exact HB.out | apply below_alloc | apply pw_below_drewN | apply below_drew1) | exact HB.out))) : w.heap.size ≤ gb168)); have n3_ := Aside0.mk ((by rw [hg]; exact (below_size (by repeat (first | (with_reducible first | exact HB.out | apply below_alloc | apply pw_below_drewN | apply below_drew1) | exact HB.out))) : w.heap.size ≤ gb168)); clear HB; have HB := n0_; have BK168 := n1_; have GW168 := n2_; have GE168 := n3_; clear n0_ n1_ n2_ n3_; clear hb hbox hg; have hcz8_0 : w7.cell? ⟨gb168, 0, none⟩ = some (.int .i64 0) := (blk_cell BK168.out 0).trans rfl; have hcz8_1 : w7.cell? ⟨gb168, 1, none⟩ = some (.string (⟨#[]⟩ : ByteArray)) := (blk_cell BK168.out 1).trans rfl; have hfz8_0 := blk_frozen BK168.out 0; have hfz8_1 := blk_frozen BK168.out 1) | ((with_reducible refine gate_store (t := 27) (p := 4) rfl ?_); refine store_event (t := 27) (p := 4) (v := ?vo_w9) (w1 := ((w7.setCell ⟨gb168, 0, none⟩ (.int .i64 ((rd_T27 l0 x9_1).f0))).setCell ⟨gb168, 1, none⟩ (.string ((rd_T27 l0 x9_1).f1)))) ?hg ?ho ?hn ?hr ?_; (case ho => rfl); (case hg => rfl); (case hn => rfl); (case hr => first | (go_simp; done) | (go_simp; rfl)); intro w9 hw; have n0_ : Aside0 (w9.heap[gb168]? = some (.cells #[.int .i64 ((rd_T27 l0 x9_1).f0), .string ((rd_T27 l0 x9_1).f1)] 27 (0, 0))) := ⟨(by rw [hw]; exact (by (with_reducible repeat (first | refine blk_drewN ?_ _ | refine blk_drew ?_ | refine blk_alloc ?_ _)); refine blk_put (cs := #[.int .i64 ((rd_T27 l0 x9_1).f0), .string (⟨#[]⟩ : ByteArray)]) ?_ 1 _ rfl; (with_reducible repeat (first | refine blk_drewN ?_ _ | refine blk_drew ?_ | refine blk_alloc ?_ _)); refine blk_put (cs := #[.int .i64 0, .string (⟨#[]⟩ : ByteArray)]) ?_ 0 _ rfl; (with_reducible repeat (first | refine blk_drewN ?_ _ | refine blk_drew ?_ | refine blk_alloc ?_ _)); exact BK168.out))⟩; have n1_ : Aside0 (Below w.heap.size w w9) := ⟨(by rw [hw]; exact (by repeat (first | (with_reducible first | exact HB.out | apply below_alloc | apply pw_below_drewN | apply below_drew1 | refine below_set ?_ GE168.out) | exact HB.out)))⟩; clear hw; clear BK168; clear HB; have BK168 := n0_; have HB := n1_; clear n0_ n1_; have q10 : (x9_1 : Int) ≤ ((l0.length : Int) : Int) := of_decide_eq_true (by first | (with_reducible assumption) | assumption); obtain ⟨i010, hi010, _, hsz10, _⟩ := info_parts info27; have hroom10 : l0.length ≤ c0 := HC0.out; have hC10 : Kd.C k27 _ (some ad167) l0.length l0 := HR0.out; have hcut10 := cut_to (P := Try.prog) 23 27 .i64 Try.underlying23 hi010 (some ad167) l0.length c0 x9_1 (of_decide_eq_true (by first | (with_reducible assumption) | assumption)) q10 hroom10; have hr10 := Kd.C_take (m := (x9_1 : Int).toNat) hC10 (by omega); have hy10 : y169.length = (x9_1 : Int).toNat := (by rw [Ny169.out, List.length_take]; omega); rw [← Ny169.out] at hr10; rw [← hy10] at hcut10; have HR172 := Aside0.mk hr10; have HC172 := Aside0.mk (show y169.length ≤ c0 from by omega); clear hr10 hC10 hroom10 hi010 hsz10; have KY10 := Aside0.mk hy10; clear hy10; replace q10 := eq_true q10))
              go_loopg [18] k1 (fun kq v18 w' => ∃ (x18_2 : Int), v18 = .int .i64 x18_2 ∧ Aside0 (bollardref12_clash.l1 kq l0 l0 (l0.length : Int) x9_1 y169 (y169.length : Int) x18_2 ((rd_T27 l0 x9_1).f0) ((rd_T27 l0 x9_1).f1) = some r) ∧ Aside0 (kq ≤ k1) ∧ Aside0 (w'.heap[gb168]? = some (.cells #[.int .i64 ((rd_T27 l0 x9_1).f0), .string ((rd_T27 l0 x9_1).f1)] 27 (0, 0))) ∧ Aside0 (Below w.heap.size w w'))
              case atStart => exact ⟨(0), (by first | rfl | (simp; done) | (simp [*]; done)), H', ⟨Nat.le_refl _⟩, ⟨by (with_reducible repeat (first | refine blk_drewN ?_ _ | refine blk_drew ?_ | refine blk_alloc ?_ _)); exact BK168.out⟩, ⟨by repeat (first | (with_reducible first | exact HB.out | apply below_alloc | apply pw_below_drewN | apply below_drew1 | refine below_set ?_ GE168.out) | exact HB.out)⟩⟩
              case round =>
                clear H'
                try clear p1
                try clear q1
                try clear hx1
                try clear c2
                try clear c2b0
                try clear p2
                try clear c3
                try clear c3b0
                try clear c4
                try clear c4b0
                try clear c5
                try clear c5b0
                try clear c6
                try clear c6b0
                try clear c6b1
                try clear q10
                try clear hcz8_0
                try clear hcz8_1
                try clear hfz8_0
                try clear hfz8_1
                try clear hx167_0
                try clear hx167_1
                try clear p167
                try clear q10
                try clear q167
                obtain ⟨x18_2, rfl, HA, HK2, BK168, HB⟩ := hrel
                cases gk with
                | zero => exact absurd HA.out (by simp [bollardref12_clash.l1])
                | succ k2 =>
                  have H := HA.out
                  clear HA
                  simp only [bollardref12_clash.l1] at H
                  by_cases c11 : x18_2 < (y169.length : Int)
                  · rw [if_pos c11] at H
                    have c11b0 : decide (x18_2 < (y169.length : Int)) = true := decide_eq_true c11
                    clear c11
                    by_cases c12 : 0 ≤ x18_2
                    · rw [if_pos c12] at H
                      have c12b0 : decide (0 ≤ x18_2) = true := decide_eq_true c12
                      clear c12
                      by_cases c13 : x18_2 < (y169.length : Int)
                      · rw [if_pos c13] at H
                        have c13b0 : decide (x18_2 < (y169.length : Int)) = true := decide_eq_true c13
                        clear c13
                        by_cases c14 : ((rd_T27 l0 x9_1).f0) = 0
                        · rw [if_pos c14] at H
                          have c14b0 : (((rd_T27 l0 x9_1).f0) == 0) = true := beq_iff_eq.mpr c14
                          have c14b1 : (((rd_T27 l0 x9_1).f0) != 0) = false := bne_eq_false_iff_eq.mpr c14
                          clear c14
                          have H' := Aside0.mk H
                          clear H
                          have p173 : 0 ≤ (x18_2 : Int) := of_decide_eq_true (by first | (with_reducible assumption) | assumption)
                          have q173 : x18_2 < (y169.length : Int) := of_decide_eq_true (by first | (with_reducible assumption) | assumption)
                          obtain ⟨ad173, e173, hx173_0, hx173_1⟩ := at_T27 HR172.out x18_2 p173 q173
                          obtain rfl : ad167 = ad173 := (by injection e173)
                          replace hx173_0 := (HB.out.cell (World.block_lt_of_cell? w _ hx173_0)).trans hx173_0
                          replace hx173_1 := (HB.out.cell (World.block_lt_of_cell? w _ hx173_1)).trans hx173_1
                          replace p173 := eq_true p173
                          replace q173 := eq_true q173
                          go_wp2_with (first | ((with_reducible refine gate_dst (N := 6) rfl ?_); refine box_event ?hg (N := 6) ?hd (cs := #[.int .i64 0, .string (⟨#[]⟩ : ByteArray)]) (t := 27) ?hr ?_; (case hd => rfl); (case hg => rfl); (case hr => first | (go_simp; done) | (go_simp; rfl)); intro gb174 hg w15 hbox hb; have n0_ := Aside0.mk (blk_below (g := gb168) (o := .cells #[.int .i64 ((rd_T27 l0 x9_1).f0), .string ((rd_T27 l0 x9_1).f1)] 27 (0, 0)) (by (with_reducible repeat (first | refine blk_drewN ?_ _ | refine blk_drew ?_ | refine blk_alloc ?_ _)); exact BK168.out) hb); have n1_ := Aside0.mk (below_step (by repeat (first | (with_reducible first | exact HB.out | apply below_alloc | apply pw_below_drewN | apply below_drew1 | refine below_set ?_ GE168.out) | exact HB.out)) hb); have n2_ := Aside0.mk (hbox); have n3_ := Aside0.mk ((by rw [hg]; exact (below_size (by repeat (first | (with_reducible first | exact HB.out | apply below_alloc | apply pw_below_drewN | apply below_drew1 | refine below_set ?_ GE168.out) | exact HB.out))) : w.heap.size ≤ gb174)); have n4_ := Aside0.mk ((by rw [hg]; exact (below_size (by repeat (first | (with_reducible first | exact HB.out | apply below_alloc | apply pw_below_drewN | apply below_drew1 | refine below_set ?_ GE168.out) | exact HB.out))) : w.heap.size ≤ gb174)); have n5_ := Aside0.mk ((by rw [hg]; exact Nat.ne_of_lt (blk_lt (g := gb168) (o := .cells #[.int .i64 ((rd_T27 l0 x9_1).f0), .string ((rd_T27 l0 x9_1).f1)] 27 (0, 0)) (by (with_reducible repeat (first | refine blk_drewN ?_ _ | refine blk_drew ?_ | refine blk_alloc ?_ _)); exact BK168.out)) : gb168 ≠ gb174)); have n6_ := Aside0.mk ((by rw [hg]; exact Nat.ne_of_gt (blk_lt (g := gb168) (o := .cells #[.int .i64 ((rd_T27 l0 x9_1).f0), .string ((rd_T27 l0 x9_1).f1)] 27 (0, 0)) (by (with_reducible repeat (first | refine blk_drewN ?_ _ | refine blk_drew ?_ | refine blk_alloc ?_ _)); exact BK168.out)) : gb174 ≠ gb168)); clear BK168; clear HB; have BK168 := n0_; have HB := n1_; have BK174 := n2_; have GW174 := n3_; have GE174 := n4_; have NB168_174 := n5_; have NB174_168 := n6_; clear n0_ n1_ n2_ n3_ n4_ n5_ n6_; clear hb hbox hg; have hnb16 := NB174_168.out; have hnc16 := NB168_174.out; have hcz17_0 : w15.cell? ⟨gb174, 0, none⟩ = some (.int .i64 0) := (blk_cell BK174.out 0).trans rfl; have hcz17_1 : w15.cell? ⟨gb174, 1, none⟩ = some (.string (⟨#[]⟩ : ByteArray)) := (blk_cell BK174.out 1).trans rfl; have hfz17_0 := blk_frozen BK174.out 0; have hfz17_1 := blk_frozen BK174.out 1; have hcz18_0 : w15.cell? ⟨gb168, 0, none⟩ = some (.int .i64 ((rd_T27 l0 x9_1).f0)) := (blk_cell BK168.out 0).trans rfl; have hcz18_1 : w15.cell? ⟨gb168, 1, none⟩ = some (.string ((rd_T27 l0 x9_1).f1)) := (blk_cell BK168.out 1).trans rfl; have hfz18_0 := blk_frozen BK168.out 0; have hfz18_1 := blk_frozen BK168.out 1))
                          go_roundg k2
                          case measure => have := HK1.out; have := HK2.out; omega
                          case rel => exact ⟨(wrap64 (x18_2 + 1)), (by first | rfl | (simp; done) | (simp [*]; done)), H', ⟨by have := HK1.out; have := HK2.out; omega⟩, ⟨by (with_reducible repeat (first | refine blk_drewN ?_ _ | refine blk_drew ?_ | refine blk_alloc ?_ _)); refine blk_far ?_ NB168_174.out _; (with_reducible repeat (first | refine blk_drewN ?_ _ | refine blk_drew ?_ | refine blk_alloc ?_ _)); refine blk_far ?_ NB168_174.out _; (with_reducible repeat (first | refine blk_drewN ?_ _ | refine blk_drew ?_ | refine blk_alloc ?_ _)); exact BK168.out⟩, ⟨by repeat (first | (with_reducible first | exact HB.out | apply below_alloc | apply pw_below_drewN | apply below_drew1 | refine below_set ?_ GE168.out | refine below_set ?_ GE174.out) | exact HB.out)⟩⟩
                        · rw [if_neg c14] at H
                          have c14b0 : (((rd_T27 l0 x9_1).f0) == 0) = false := beq_eq_false_iff_ne.mpr c14
                          have c14b1 : (((rd_T27 l0 x9_1).f0) != 0) = true := bne_iff_ne.mpr c14
                          by_cases c19 : ((rd_T27 y169 x18_2).f0) = 0
                          · rw [if_pos c19] at H
                            have c19b0 : (((rd_T27 y169 x18_2).f0) == 0) = true := beq_iff_eq.mpr c19
                            have c19b1 : (((rd_T27 y169 x18_2).f0) != 0) = false := bne_eq_false_iff_eq.mpr c19
                            clear c19
                            have H' := Aside0.mk H
                            clear H
                            have p173 : 0 ≤ (x18_2 : Int) := of_decide_eq_true (by first | (with_reducible assumption) | assumption)
                            have q173 : x18_2 < (y169.length : Int) := of_decide_eq_true (by first | (with_reducible assumption) | assumption)
                            obtain ⟨ad173, e173, hx173_0, hx173_1⟩ := at_T27 HR172.out x18_2 p173 q173
                            obtain rfl : ad167 = ad173 := (by injection e173)
                            replace hx173_0 := (HB.out.cell (World.block_lt_of_cell? w _ hx173_0)).trans hx173_0
                            replace hx173_1 := (HB.out.cell (World.block_lt_of_cell? w _ hx173_1)).trans hx173_1
                            replace p173 := eq_true p173
                            replace q173 := eq_true q173
                            go_wp2_with (first | ((with_reducible refine gate_dst (N := 6) rfl ?_); refine box_event ?hg (N := 6) ?hd (cs := #[.int .i64 0, .string (⟨#[]⟩ : ByteArray)]) (t := 27) ?hr ?_; (case hd => rfl); (case hg => rfl); (case hr => first | (go_simp; done) | (go_simp; rfl)); intro gb174 hg w20 hbox hb; have n0_ := Aside0.mk (blk_below (g := gb168) (o := .cells #[.int .i64 ((rd_T27 l0 x9_1).f0), .string ((rd_T27 l0 x9_1).f1)] 27 (0, 0)) (by (with_reducible repeat (first | refine blk_drewN ?_ _ | refine blk_drew ?_ | refine blk_alloc ?_ _)); exact BK168.out) hb); have n1_ := Aside0.mk (below_step (by repeat (first | (with_reducible first | exact HB.out | apply below_alloc | apply pw_below_drewN | apply below_drew1 | refine below_set ?_ GE168.out) | exact HB.out)) hb); have n2_ := Aside0.mk (hbox); have n3_ := Aside0.mk ((by rw [hg]; exact (below_size (by repeat (first | (with_reducible first | exact HB.out | apply below_alloc | apply pw_below_drewN | apply below_drew1 | refine below_set ?_ GE168.out) | exact HB.out))) : w.heap.size ≤ gb174)); have n4_ := Aside0.mk ((by rw [hg]; exact (below_size (by repeat (first | (with_reducible first | exact HB.out | apply below_alloc | apply pw_below_drewN | apply below_drew1 | refine below_set ?_ GE168.out) | exact HB.out))) : w.heap.size ≤ gb174)); have n5_ := Aside0.mk ((by rw [hg]; exact Nat.ne_of_lt (blk_lt (g := gb168) (o := .cells #[.int .i64 ((rd_T27 l0 x9_1).f0), .string ((rd_T27 l0 x9_1).f1)] 27 (0, 0)) (by (with_reducible repeat (first | refine blk_drewN ?_ _ | refine blk_drew ?_ | refine blk_alloc ?_ _)); exact BK168.out)) : gb168 ≠ gb174)); have n6_ := Aside0.mk ((by rw [hg]; exact Nat.ne_of_gt (blk_lt (g := gb168) (o := .cells #[.int .i64 ((rd_T27 l0 x9_1).f0), .string ((rd_T27 l0 x9_1).f1)] 27 (0, 0)) (by (with_reducible repeat (first | refine blk_drewN ?_ _ | refine blk_drew ?_ | refine blk_alloc ?_ _)); exact BK168.out)) : gb174 ≠ gb168)); clear BK168; clear HB; have BK168 := n0_; have HB := n1_; have BK174 := n2_; have GW174 := n3_; have GE174 := n4_; have NB168_174 := n5_; have NB174_168 := n6_; clear n0_ n1_ n2_ n3_ n4_ n5_ n6_; clear hb hbox hg; have hnb21 := NB174_168.out; have hnc21 := NB168_174.out; have hcz22_0 : w20.cell? ⟨gb174, 0, none⟩ = some (.int .i64 0) := (blk_cell BK174.out 0).trans rfl; have hcz22_1 : w20.cell? ⟨gb174, 1, none⟩ = some (.string (⟨#[]⟩ : ByteArray)) := (blk_cell BK174.out 1).trans rfl; have hfz22_0 := blk_frozen BK174.out 0; have hfz22_1 := blk_frozen BK174.out 1; have hcz23_0 : w20.cell? ⟨gb168, 0, none⟩ = some (.int .i64 ((rd_T27 l0 x9_1).f0)) := (blk_cell BK168.out 0).trans rfl; have hcz23_1 : w20.cell? ⟨gb168, 1, none⟩ = some (.string ((rd_T27 l0 x9_1).f1)) := (blk_cell BK168.out 1).trans rfl; have hfz23_0 := blk_frozen BK168.out 0; have hfz23_1 := blk_frozen BK168.out 1))
                            go_roundg k2
                            case measure => have := HK1.out; have := HK2.out; omega
                            case rel => exact ⟨(wrap64 (x18_2 + 1)), (by first | rfl | (simp; done) | (simp [*]; done)), H', ⟨by have := HK1.out; have := HK2.out; omega⟩, ⟨by (with_reducible repeat (first | refine blk_drewN ?_ _ | refine blk_drew ?_ | refine blk_alloc ?_ _)); refine blk_far ?_ NB168_174.out _; (with_reducible repeat (first | refine blk_drewN ?_ _ | refine blk_drew ?_ | refine blk_alloc ?_ _)); refine blk_far ?_ NB168_174.out _; (with_reducible repeat (first | refine blk_drewN ?_ _ | refine blk_drew ?_ | refine blk_alloc ?_ _)); exact BK168.out⟩, ⟨by repeat (first | (with_reducible first | exact HB.out | apply below_alloc | apply pw_below_drewN | apply below_drew1 | refine below_set ?_ GE168.out | refine below_set ?_ GE174.out) | exact HB.out)⟩⟩
                          · rw [if_neg c19] at H
                            have c19b0 : (((rd_T27 y169 x18_2).f0) == 0) = false := beq_eq_false_iff_ne.mpr c19
                            have c19b1 : (((rd_T27 y169 x18_2).f0) != 0) = true := bne_iff_ne.mpr c19
                            by_cases c24 : ((rd_T27 l0 x9_1).f1).toList = ((rd_T27 y169 x18_2).f1).toList
                            · rw [if_pos c24] at H
                              have c24b0 : (((rd_T27 l0 x9_1).f1).toList == ((rd_T27 y169 x18_2).f1).toList) = true := beq_iff_eq.mpr c24
                              have c24b1 : (((rd_T27 l0 x9_1).f1).toList != ((rd_T27 y169 x18_2).f1).toList) = false := bne_eq_false_iff_eq.mpr c24
                              clear c24
                              obtain rfl := Option.some.inj H
                              have p173 : 0 ≤ (x18_2 : Int) := of_decide_eq_true (by first | (with_reducible assumption) | assumption)
                              have q173 : x18_2 < (y169.length : Int) := of_decide_eq_true (by first | (with_reducible assumption) | assumption)
                              obtain ⟨ad173, e173, hx173_0, hx173_1⟩ := at_T27 HR172.out x18_2 p173 q173
                              obtain rfl : ad167 = ad173 := (by injection e173)
                              replace hx173_0 := (HB.out.cell (World.block_lt_of_cell? w _ hx173_0)).trans hx173_0
                              replace hx173_1 := (HB.out.cell (World.block_lt_of_cell? w _ hx173_1)).trans hx173_1
                              replace p173 := eq_true p173
                              replace q173 := eq_true q173
                              go_wp2_with (first | ((with_reducible refine gate_dst (N := 6) rfl ?_); refine box_event ?hg (N := 6) ?hd (cs := #[.int .i64 0, .string (⟨#[]⟩ : ByteArray)]) (t := 27) ?hr ?_; (case hd => rfl); (case hg => rfl); (case hr => first | (go_simp; done) | (go_simp; rfl)); intro gb174 hg w25 hbox hb; have n0_ := Aside0.mk (blk_below (g := gb168) (o := .cells #[.int .i64 ((rd_T27 l0 x9_1).f0), .string ((rd_T27 l0 x9_1).f1)] 27 (0, 0)) (by (with_reducible repeat (first | refine blk_drewN ?_ _ | refine blk_drew ?_ | refine blk_alloc ?_ _)); exact BK168.out) hb); have n1_ := Aside0.mk (below_step (by repeat (first | (with_reducible first | exact HB.out | apply below_alloc | apply pw_below_drewN | apply below_drew1 | refine below_set ?_ GE168.out) | exact HB.out)) hb); have n2_ := Aside0.mk (hbox); have n3_ := Aside0.mk ((by rw [hg]; exact (below_size (by repeat (first | (with_reducible first | exact HB.out | apply below_alloc | apply pw_below_drewN | apply below_drew1 | refine below_set ?_ GE168.out) | exact HB.out))) : w.heap.size ≤ gb174)); have n4_ := Aside0.mk ((by rw [hg]; exact (below_size (by repeat (first | (with_reducible first | exact HB.out | apply below_alloc | apply pw_below_drewN | apply below_drew1 | refine below_set ?_ GE168.out) | exact HB.out))) : w.heap.size ≤ gb174)); have n5_ := Aside0.mk ((by rw [hg]; exact Nat.ne_of_lt (blk_lt (g := gb168) (o := .cells #[.int .i64 ((rd_T27 l0 x9_1).f0), .string ((rd_T27 l0 x9_1).f1)] 27 (0, 0)) (by (with_reducible repeat (first | refine blk_drewN ?_ _ | refine blk_drew ?_ | refine blk_alloc ?_ _)); exact BK168.out)) : gb168 ≠ gb174)); have n6_ := Aside0.mk ((by rw [hg]; exact Nat.ne_of_gt (blk_lt (g := gb168) (o := .cells #[.int .i64 ((rd_T27 l0 x9_1).f0), .string ((rd_T27 l0 x9_1).f1)] 27 (0, 0)) (by (with_reducible repeat (first | refine blk_drewN ?_ _ | refine blk_drew ?_ | refine blk_alloc ?_ _)); exact BK168.out)) : gb174 ≠ gb168)); clear BK168; clear HB; have BK168 := n0_; have HB := n1_; have BK174 := n2_; have GW174 := n3_; have GE174 := n4_; have NB168_174 := n5_; have NB174_168 := n6_; clear n0_ n1_ n2_ n3_ n4_ n5_ n6_; clear hb hbox hg; have hnb26 := NB174_168.out; have hnc26 := NB168_174.out; have hcz27_0 : w25.cell? ⟨gb174, 0, none⟩ = some (.int .i64 0) := (blk_cell BK174.out 0).trans rfl; have hcz27_1 : w25.cell? ⟨gb174, 1, none⟩ = some (.string (⟨#[]⟩ : ByteArray)) := (blk_cell BK174.out 1).trans rfl; have hfz27_0 := blk_frozen BK174.out 0; have hfz27_1 := blk_frozen BK174.out 1; have hcz28_0 : w25.cell? ⟨gb168, 0, none⟩ = some (.int .i64 ((rd_T27 l0 x9_1).f0)) := (blk_cell BK168.out 0).trans rfl; have hcz28_1 : w25.cell? ⟨gb168, 1, none⟩ = some (.string ((rd_T27 l0 x9_1).f1)) := (blk_cell BK168.out 1).trans rfl; have hfz28_0 := blk_frozen BK168.out 0; have hfz28_1 := blk_frozen BK168.out 1))
                              go_ret
                              exact ⟨by first | rfl | (simp [errW_none, errW_some] <;> rfl) | (simp [*, errW_none, errW_some] <;> rfl), by repeat (first | (with_reducible first | exact HB.out | apply below_alloc | apply pw_below_drewN | apply below_drew1 | refine below_set ?_ GE168.out | refine below_set ?_ GE174.out) | exact HB.out)⟩
                            · rw [if_neg c24] at H
                              have c24b0 : (((rd_T27 l0 x9_1).f1).toList == ((rd_T27 y169 x18_2).f1).toList) = false := beq_eq_false_iff_ne.mpr c24
                              have c24b1 : (((rd_T27 l0 x9_1).f1).toList != ((rd_T27 y169 x18_2).f1).toList) = true := bne_iff_ne.mpr c24
                              have H' := Aside0.mk H
                              clear H
                              have p173 : 0 ≤ (x18_2 : Int) := of_decide_eq_true (by first | (with_reducible assumption) | assumption)
                              have q173 : x18_2 < (y169.length : Int) := of_decide_eq_true (by first | (with_reducible assumption) | assumption)
                              obtain ⟨ad173, e173, hx173_0, hx173_1⟩ := at_T27 HR172.out x18_2 p173 q173
                              obtain rfl : ad167 = ad173 := (by injection e173)
                              replace hx173_0 := (HB.out.cell (World.block_lt_of_cell? w _ hx173_0)).trans hx173_0
                              replace hx173_1 := (HB.out.cell (World.block_lt_of_cell? w _ hx173_1)).trans hx173_1
                              replace p173 := eq_true p173
                              replace q173 := eq_true q173
                              go_wp2_with (first | ((with_reducible refine gate_dst (N := 6) rfl ?_); refine box_event ?hg (N := 6) ?hd (cs := #[.int .i64 0, .string (⟨#[]⟩ : ByteArray)]) (t := 27) ?hr ?_; (case hd => rfl); (case hg => rfl); (case hr => first | (go_simp; done) | (go_simp; rfl)); intro gb174 hg w29 hbox hb; have n0_ := Aside0.mk (blk_below (g := gb168) (o := .cells #[.int .i64 ((rd_T27 l0 x9_1).f0), .string ((rd_T27 l0 x9_1).f1)] 27 (0, 0)) (by (with_reducible repeat (first | refine blk_drewN ?_ _ | refine blk_drew ?_ | refine blk_alloc ?_ _)); exact BK168.out) hb); have n1_ := Aside0.mk (below_step (by repeat (first | (with_reducible first | exact HB.out | apply below_alloc | apply pw_below_drewN | apply below_drew1 | refine below_set ?_ GE168.out) | exact HB.out)) hb); have n2_ := Aside0.mk (hbox); have n3_ := Aside0.mk ((by rw [hg]; exact (below_size (by repeat (first | (with_reducible first | exact HB.out | apply below_alloc | apply pw_below_drewN | apply below_drew1 | refine below_set ?_ GE168.out) | exact HB.out))) : w.heap.size ≤ gb174)); have n4_ := Aside0.mk ((by rw [hg]; exact (below_size (by repeat (first | (with_reducible first | exact HB.out | apply below_alloc | apply pw_below_drewN | apply below_drew1 | refine below_set ?_ GE168.out) | exact HB.out))) : w.heap.size ≤ gb174)); have n5_ := Aside0.mk ((by rw [hg]; exact Nat.ne_of_lt (blk_lt (g := gb168) (o := .cells #[.int .i64 ((rd_T27 l0 x9_1).f0), .string ((rd_T27 l0 x9_1).f1)] 27 (0, 0)) (by (with_reducible repeat (first | refine blk_drewN ?_ _ | refine blk_drew ?_ | refine blk_alloc ?_ _)); exact BK168.out)) : gb168 ≠ gb174)); have n6_ := Aside0.mk ((by rw [hg]; exact Nat.ne_of_gt (blk_lt (g := gb168) (o := .cells #[.int .i64 ((rd_T27 l0 x9_1).f0), .string ((rd_T27 l0 x9_1).f1)] 27 (0, 0)) (by (with_reducible repeat (first | refine blk_drewN ?_ _ | refine blk_drew ?_ | refine blk_alloc ?_ _)); exact BK168.out)) : gb174 ≠ gb168)); clear BK168; clear HB; have BK168 := n0_; have HB := n1_; have BK174 := n2_; have GW174 := n3_; have GE174 := n4_; have NB168_174 := n5_; have NB174_168 := n6_; clear n0_ n1_ n2_ n3_ n4_ n5_ n6_; clear hb hbox hg; have hnb30 := NB174_168.out; have hnc30 := NB168_174.out; have hcz31_0 : w29.cell? ⟨gb174, 0, none⟩ = some (.int .i64 0) := (blk_cell BK174.out 0).trans rfl; have hcz31_1 : w29.cell? ⟨gb174, 1, none⟩ = some (.string (⟨#[]⟩ : ByteArray)) := (blk_cell BK174.out 1).trans rfl; have hfz31_0 := blk_frozen BK174.out 0; have hfz31_1 := blk_frozen BK174.out 1; have hcz32_0 : w29.cell? ⟨gb168, 0, none⟩ = some (.int .i64 ((rd_T27 l0 x9_1).f0)) := (blk_cell BK168.out 0).trans rfl; have hcz32_1 : w29.cell? ⟨gb168, 1, none⟩ = some (.string ((rd_T27 l0 x9_1).f1)) := (blk_cell BK168.out 1).trans rfl; have hfz32_0 := blk_frozen BK168.out 0; have hfz32_1 := blk_frozen BK168.out 1))
                              go_roundg k2
                              case measure => have := HK1.out; have := HK2.out; omega
                              case rel => exact ⟨(wrap64 (x18_2 + 1)), (by first | rfl | (simp; done) | (simp [*]; done)), H', ⟨by have := HK1.out; have := HK2.out; omega⟩, ⟨by (with_reducible repeat (first | refine blk_drewN ?_ _ | refine blk_drew ?_ | refine blk_alloc ?_ _)); refine blk_far ?_ NB168_174.out _; (with_reducible repeat (first | refine blk_drewN ?_ _ | refine blk_drew ?_ | refine blk_alloc ?_ _)); refine blk_far ?_ NB168_174.out _; (with_reducible repeat (first | refine blk_drewN ?_ _ | refine blk_drew ?_ | refine blk_alloc ?_ _)); exact BK168.out⟩, ⟨by repeat (first | (with_reducible first | exact HB.out | apply below_alloc | apply pw_below_drewN | apply below_drew1 | refine below_set ?_ GE168.out | refine below_set ?_ GE174.out) | exact HB.out)⟩⟩
                      · rw [if_neg c13] at H
                        exact absurd H (by simp)
                    · rw [if_neg c12] at H
                      exact absurd H (by simp)
                  · rw [if_neg c11] at H
                    have c11b0 : decide (x18_2 < (y169.length : Int)) = false := decide_eq_false c11
                    clear c11
                    have H' := Aside0.mk H
                    clear H
                    go_wp2
                    go_roundg k2
                    case measure => have := HK1.out; have := HK2.out; omega
                    case rel => exact ⟨(wrap64 (x9_1 + 1)), (by first | rfl | (simp; done) | (simp [*]; done)), H', ⟨by have := HK1.out; have := HK2.out; omega⟩, ⟨by repeat (first | (with_reducible first | exact HB.out | apply below_alloc | apply pw_below_drewN | apply below_drew1 | refine below_set ?_ GE168.out) | exact HB.out)⟩⟩
            · rw [if_neg c6] at H
              exact absurd H (by simp)
          · rw [if_neg c4] at H
            exact absurd H (by simp)
        · rw [if_neg c3] at H
          exact absurd H (by simp)
      · rw [if_neg c2] at H
        have c2b0 : decide (x9_1 < (l0.length : Int)) = false := decide_eq_false c2
        clear c2
        obtain rfl := Option.some.inj H
        go_wp2
        go_ret
        exact ⟨by first | rfl | (simp [errW_none, errW_some] <;> rfl) | (simp [*, errW_none, errW_some] <;> rfl), by repeat (first | (with_reducible first | exact HB.out | apply below_alloc | apply pw_below_drewN | apply below_drew1) | exact HB.out)⟩

end Go.Proofs.Ytnbkbmhiajfbpaa.XDirsTurns
