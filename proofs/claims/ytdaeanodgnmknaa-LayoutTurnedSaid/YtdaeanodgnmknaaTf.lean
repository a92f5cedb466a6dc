/- Which inodes may be, and an inode's bytes: the reference's walks. -/
import Derived.Test.YtdaeanodgnmknaaTe
namespace Go.Proofs.Ytdaeanodgnmknaa.Ti
open Go.RowKit Go.Proofs.Ytdaeanodgnmknaa.Rd Go.Proofs.Ytdaeanodgnmknaa.XLayoutTurned Go.Proofs.YtdaeanodgnmknaaW.PrintWords Go.Proofs.YtdaeanodgnmknaaW.PrintLast Go.Proofs.YtdaeanodgnmknaaW.PrintMore
set_option linter.unusedVariables false
set_option linter.unusedSimpArgs false
theorem adr_yes {x : Int} (h : 0 ≤ x ∧ x ≤ 2047) : bollardref03_address.f x = some true := by
  unfold bollardref03_address.f
  rw [if_pos h.1, decide_eq_true (by omega)]
theorem adr_no {x : Int} (h : ¬ (0 ≤ x ∧ x ≤ 2047)) : bollardref03_address.f x = some false := by
  unfold bollardref03_address.f
  by_cases h0 : x ≥ 0
  · rw [if_pos h0, decide_eq_false (by omega)]
  · rw [if_neg h0]
theorem ok_no {m l s a b c d u v : Int} (h : rngD m l s a b c d u v = false) : okD m l s a b c d u v = false := by unfold okD; rw [h, Bool.and_false]
theorem rng_no {m l s a b c d u v : Int} (h : ¬ (0 ≤ m ∧ m ≤ 2 ∧ 0 ≤ l ∧ l ≤ 1000 ∧ 0 ≤ s ∧ s ≤ 532992 ∧ 0 ≤ a ∧ a ≤ 2047 ∧ 0 ≤ b ∧ b ≤ 2047 ∧ 0 ≤ c ∧ c ≤ 2047 ∧ 0 ≤ d ∧ d ≤ 2047 ∧ 0 ≤ u ∧ u ≤ 2047 ∧ 0 ≤ v ∧ v ≤ 2047)) : rngD m l s a b c d u v = false := decide_eq_false h
theorem ok_zero {m l s a b c d u v : Int} (h : m = 0) : okD m l s a b c d u v = zeroD m l s a b c d u v := by
  unfold okD mayD
  rw [if_pos h]
  cases hz : zeroD m l s a b c d u v
  · rfl
  · unfold zeroD at hz
    simp only [Bool.and_eq_true, beq_iff_eq] at hz
    obtain ⟨rfl, rfl, rfl, ⟨rfl, rfl, rfl, rfl⟩, rfl, rfl⟩ := hz
    rfl
theorem ok_one {m l s a b c d u v : Int} (h : m = 1) (h2 : rngD m l s a b c d u v = true) : okD m l s a b c d u v = true := by
  unfold okD mayD
  rw [if_neg (by omega), if_pos h, h2]; rfl
theorem ok_two {m l s a b c d u v : Int} (h : m = 2) (h2 : rngD m l s a b c d u v = true) : okD m l s a b c d u v = (Int.tmod s 128 == 0) := by
  unfold okD mayD
  rw [if_neg (by omega), if_neg (by omega), if_pos h, h2, Bool.and_true]
theorem ok_other {m l s a b c d u v : Int} (h0 : m ≠ 0) (h1 : m ≠ 1) (h2 : m ≠ 2) : okD m l s a b c d u v = false := by
  unfold okD mayD
  rw [if_neg h0, if_neg h1, if_neg h2]; rfl
set_option maxHeartbeats 8000000 in
set_option maxRecDepth 100000 in
theorem RmayDinode_call (m l s a b c d u v : Int) (w : World) :
    Calls Try.prog 58 #[.agg (dn m l s a b c d u v)] w fun e w' => e = .returned (.bool (okD m l s a b c d u v)) ∧ Below w.heap.size w w' := by
  have hu59 := Try.underlying59
  have HB := Aside0.mk (Below.refl w.heap.size w)
  by_cases h0 : m = 0
  · rw [ok_zero h0]
    have g0 : (m == 0) = true := beq_iff_eq.mpr h0
    clear h0
    go_enter Try.func58, Try.ntmps58
    go_wp2_with (first
      | ((with_reducible refine gate_dst (N := 1) rfl ?_); refine box_event ?hg (N := 1) ?hd (cs := dn m l s a b c d u v) (t := 59) ?hr ?_; (case hd => rfl); (case hg => rfl); (case hr => first | (go_simp; done) | (go_simp; rfl)); intro gb hg w1 hbox hb; have n0_ := Aside0.mk (below_step (w2 := w1) (by repeat (first | (with_reducible first | exact HB.out | apply below_alloc | apply pw_below_drewN | apply below_drew1) | exact HB.out)) hb); have BK := Aside0.mk hbox; clear HB; have HB := n0_; clear n0_ hb hbox hg; have hc0 : w1.cell? ⟨gb, 0, none⟩ = some (.int .i64 m) := (blk_cell BK.out 0).trans rfl; have hc1 : w1.cell? ⟨gb, 1, none⟩ = some (.int .i64 l) := (blk_cell BK.out 1).trans rfl; have hc2 : w1.cell? ⟨gb, 2, none⟩ = some (.int .i64 s) := (blk_cell BK.out 2).trans rfl; have hc3 : w1.cell? ⟨gb, 3, none⟩ = some (.int .i64 a) := (blk_cell BK.out 3).trans rfl; have hc4 : w1.cell? ⟨gb, 4, none⟩ = some (.int .i64 b) := (blk_cell BK.out 4).trans rfl; have hc5 : w1.cell? ⟨gb, 5, none⟩ = some (.int .i64 c) := (blk_cell BK.out 5).trans rfl; have hc6 : w1.cell? ⟨gb, 6, none⟩ = some (.int .i64 d) := (blk_cell BK.out 6).trans rfl; have hc7 : w1.cell? ⟨gb, 7, none⟩ = some (.int .i64 u) := (blk_cell BK.out 7).trans rfl; have hc8 : w1.cell? ⟨gb, 8, none⟩ = some (.int .i64 v) := (blk_cell BK.out 8).trans rfl)
      | ((with_reducible refine gate_dst (N := 8) rfl ?_); refine Gw.load_event rfl 59 (.tmp 1) rfl gb (dn m l s a b c d u v) 59 _ rfl (by (with_reducible repeat (first | refine blk_drewN ?_ _ | refine blk_drew ?_ | refine blk_alloc ?_ _)); exact BK.out) hu59 rfl (by kernel_rfl) ?_)
      | ((with_reducible refine gate_dst (N := 10) rfl ?_); refine Kd.event_run rfl (Gw.eql_yield rfl rfl rfl (by kernel_rfl) (dn_eql0 m l s a b c d u v _)) ?_))
    go_ret
    exact ⟨rfl, HB.out⟩
  · by_cases h12 : m = 1 ∨ m = 2
    · rcases h12 with h12 | h12
      · skip
        by_cases e0 : l < 0
        · rw [ok_no (rng_no (by omega))]
          have g0 : (m == 0) = false := beq_eq_false_iff_ne.mpr (by omega)
          have g1 : (m != 1) = false := by rw [bne_eq_false_iff_eq]; omega
          have g2 : (m != 2) = true := by rw [bne_iff_ne]; omega
          have q0 : decide (l < 0) = true := decide_eq_true e0
          clear h0 h12 e0
          go_enter Try.func58, Try.ntmps58
          go_wp2_with (first
            | ((with_reducible refine gate_dst (N := 1) rfl ?_); refine box_event ?hg (N := 1) ?hd (cs := dn m l s a b c d u v) (t := 59) ?hr ?_; (case hd => rfl); (case hg => rfl); (case hr => first | (go_simp; done) | (go_simp; rfl)); intro gb hg w1 hbox hb; have n0_ := Aside0.mk (below_step (w2 := w1) (by repeat (first | (with_reducible first | exact HB.out | apply below_alloc | apply pw_below_drewN | apply below_drew1) | exact HB.out)) hb); have BK := Aside0.mk hbox; clear HB; have HB := n0_; clear n0_ hb hbox hg; have hc0 : w1.cell? ⟨gb, 0, none⟩ = some (.int .i64 m) := (blk_cell BK.out 0).trans rfl; have hc1 : w1.cell? ⟨gb, 1, none⟩ = some (.int .i64 l) := (blk_cell BK.out 1).trans rfl; have hc2 : w1.cell? ⟨gb, 2, none⟩ = some (.int .i64 s) := (blk_cell BK.out 2).trans rfl; have hc3 : w1.cell? ⟨gb, 3, none⟩ = some (.int .i64 a) := (blk_cell BK.out 3).trans rfl; have hc4 : w1.cell? ⟨gb, 4, none⟩ = some (.int .i64 b) := (blk_cell BK.out 4).trans rfl; have hc5 : w1.cell? ⟨gb, 5, none⟩ = some (.int .i64 c) := (blk_cell BK.out 5).trans rfl; have hc6 : w1.cell? ⟨gb, 6, none⟩ = some (.int .i64 d) := (blk_cell BK.out 6).trans rfl; have hc7 : w1.cell? ⟨gb, 7, none⟩ = some (.int .i64 u) := (blk_cell BK.out 7).trans rfl; have hc8 : w1.cell? ⟨gb, 8, none⟩ = some (.int .i64 v) := (blk_cell BK.out 8).trans rfl))
          go_ret
          exact ⟨rfl, HB.out⟩
        · skip
          by_cases e1 : 1000 < l
          · rw [ok_no (rng_no (by omega))]
            have g0 : (m == 0) = false := beq_eq_false_iff_ne.mpr (by omega)
            have g1 : (m != 1) = false := by rw [bne_eq_false_iff_eq]; omega
            have g2 : (m != 2) = true := by rw [bne_iff_ne]; omega
            have q0 : decide (l < 0) = false := decide_eq_false e0
            have q1 : decide (1000 < l) = true := decide_eq_true e1
            clear h0 h12 e0 e1
            go_enter Try.func58, Try.ntmps58
            go_wp2_with (first
              | ((with_reducible refine gate_dst (N := 1) rfl ?_); refine box_event ?hg (N := 1) ?hd (cs := dn m l s a b c d u v) (t := 59) ?hr ?_; (case hd => rfl); (case hg => rfl); (case hr => first | (go_simp; done) | (go_simp; rfl)); intro gb hg w1 hbox hb; have n0_ := Aside0.mk (below_step (w2 := w1) (by repeat (first | (with_reducible first | exact HB.out | apply below_alloc | apply pw_below_drewN | apply below_drew1) | exact HB.out)) hb); have BK := Aside0.mk hbox; clear HB; have HB := n0_; clear n0_ hb hbox hg; have hc0 : w1.cell? ⟨gb, 0, none⟩ = some (.int .i64 m) := (blk_cell BK.out 0).trans rfl; have hc1 : w1.cell? ⟨gb, 1, none⟩ = some (.int .i64 l) := (blk_cell BK.out 1).trans rfl; have hc2 : w1.cell? ⟨gb, 2, none⟩ = some (.int .i64 s) := (blk_cell BK.out 2).trans rfl; have hc3 : w1.cell? ⟨gb, 3, none⟩ = some (.int .i64 a) := (blk_cell BK.out 3).trans rfl; have hc4 : w1.cell? ⟨gb, 4, none⟩ = some (.int .i64 b) := (blk_cell BK.out 4).trans rfl; have hc5 : w1.cell? ⟨gb, 5, none⟩ = some (.int .i64 c) := (blk_cell BK.out 5).trans rfl; have hc6 : w1.cell? ⟨gb, 6, none⟩ = some (.int .i64 d) := (blk_cell BK.out 6).trans rfl; have hc7 : w1.cell? ⟨gb, 7, none⟩ = some (.int .i64 u) := (blk_cell BK.out 7).trans rfl; have hc8 : w1.cell? ⟨gb, 8, none⟩ = some (.int .i64 v) := (blk_cell BK.out 8).trans rfl))
            go_ret
            exact ⟨rfl, HB.out⟩
          · skip
            by_cases e2 : s < 0
            · rw [ok_no (rng_no (by omega))]
              have g0 : (m == 0) = false := beq_eq_false_iff_ne.mpr (by omega)
              have g1 : (m != 1) = false := by rw [bne_eq_false_iff_eq]; omega
              have g2 : (m != 2) = true := by rw [bne_iff_ne]; omega
              have q0 : decide (l < 0) = false := decide_eq_false e0
              have q1 : decide (1000 < l) = false := decide_eq_false e1
              have q2 : decide (s < 0) = true := decide_eq_true e2
              clear h0 h12 e0 e1 e2
              go_enter Try.func58, Try.ntmps58
              go_wp2_with (first
                | ((with_reducible refine gate_dst (N := 1) rfl ?_); refine box_event ?hg (N := 1) ?hd (cs := dn m l s a b c d u v) (t := 59) ?hr ?_; (case hd => rfl); (case hg => rfl); (case hr => first | (go_simp; done) | (go_simp; rfl)); intro gb hg w1 hbox hb; have n0_ := Aside0.mk (below_step (w2 := w1) (by repeat (first | (with_reducible first | exact HB.out | apply below_alloc | apply pw_below_drewN | apply below_drew1) | exact HB.out)) hb); have BK := Aside0.mk hbox; clear HB; have HB := n0_; clear n0_ hb hbox hg; have hc0 : w1.cell? ⟨gb, 0, none⟩ = some (.int .i64 m) := (blk_cell BK.out 0).trans rfl; have hc1 : w1.cell? ⟨gb, 1, none⟩ = some (.int .i64 l) := (blk_cell BK.out 1).trans rfl; have hc2 : w1.cell? ⟨gb, 2, none⟩ = some (.int .i64 s) := (blk_cell BK.out 2).trans rfl; have hc3 : w1.cell? ⟨gb, 3, none⟩ = some (.int .i64 a) := (blk_cell BK.out 3).trans rfl; have hc4 : w1.cell? ⟨gb, 4, none⟩ = some (.int .i64 b) := (blk_cell BK.out 4).trans rfl; have hc5 : w1.cell? ⟨gb, 5, none⟩ = some (.int .i64 c) := (blk_cell BK.out 5).trans rfl; have hc6 : w1.cell? ⟨gb, 6, none⟩ = some (.int .i64 d) := (blk_cell BK.out 6).trans rfl; have hc7 : w1.cell? ⟨gb, 7, none⟩ = some (.int .i64 u) := (blk_cell BK.out 7).trans rfl; have hc8 : w1.cell? ⟨gb, 8, none⟩ = some (.int .i64 v) := (blk_cell BK.out 8).trans rfl))
              go_ret
              exact ⟨rfl, HB.out⟩
            · skip
              by_cases e3 : 532992 < s
              · rw [ok_no (rng_no (by omega))]
                have g0 : (m == 0) = false := beq_eq_false_iff_ne.mpr (by omega)
                have g1 : (m != 1) = false := by rw [bne_eq_false_iff_eq]; omega
                have g2 : (m != 2) = true := by rw [bne_iff_ne]; omega
                have q0 : decide (l < 0) = false := decide_eq_false e0
                have q1 : decide (1000 < l) = false := decide_eq_false e1
                have q2 : decide (s < 0) = false := decide_eq_false e2
                have q3 : decide (532992 < s) = true := decide_eq_true e3
                clear h0 h12 e0 e1 e2 e3
                go_enter Try.func58, Try.ntmps58
                go_wp2_with (first
                  | ((with_reducible refine gate_dst (N := 1) rfl ?_); refine box_event ?hg (N := 1) ?hd (cs := dn m l s a b c d u v) (t := 59) ?hr ?_; (case hd => rfl); (case hg => rfl); (case hr => first | (go_simp; done) | (go_simp; rfl)); intro gb hg w1 hbox hb; have n0_ := Aside0.mk (below_step (w2 := w1) (by repeat (first | (with_reducible first | exact HB.out | apply below_alloc | apply pw_below_drewN | apply below_drew1) | exact HB.out)) hb); have BK := Aside0.mk hbox; clear HB; have HB := n0_; clear n0_ hb hbox hg; have hc0 : w1.cell? ⟨gb, 0, none⟩ = some (.int .i64 m) := (blk_cell BK.out 0).trans rfl; have hc1 : w1.cell? ⟨gb, 1, none⟩ = some (.int .i64 l) := (blk_cell BK.out 1).trans rfl; have hc2 : w1.cell? ⟨gb, 2, none⟩ = some (.int .i64 s) := (blk_cell BK.out 2).trans rfl; have hc3 : w1.cell? ⟨gb, 3, none⟩ = some (.int .i64 a) := (blk_cell BK.out 3).trans rfl; have hc4 : w1.cell? ⟨gb, 4, none⟩ = some (.int .i64 b) := (blk_cell BK.out 4).trans rfl; have hc5 : w1.cell? ⟨gb, 5, none⟩ = some (.int .i64 c) := (blk_cell BK.out 5).trans rfl; have hc6 : w1.cell? ⟨gb, 6, none⟩ = some (.int .i64 d) := (blk_cell BK.out 6).trans rfl; have hc7 : w1.cell? ⟨gb, 7, none⟩ = some (.int .i64 u) := (blk_cell BK.out 7).trans rfl; have hc8 : w1.cell? ⟨gb, 8, none⟩ = some (.int .i64 v) := (blk_cell BK.out 8).trans rfl))
                go_ret
                exact ⟨rfl, HB.out⟩
              · skip
                have g0 : (m == 0) = false := beq_eq_false_iff_ne.mpr (by omega)
                have g1 : (m != 1) = false := by rw [bne_eq_false_iff_eq]; omega
                have g2 : (m != 2) = true := by rw [bne_iff_ne]; omega
                have q0 : decide (l < 0) = false := decide_eq_false e0
                have q1 : decide (1000 < l) = false := decide_eq_false e1
                have q2 : decide (s < 0) = false := decide_eq_false e2
                have q3 : decide (532992 < s) = false := decide_eq_false e3
                have RM := Aside0.mk (And.intro h12 (And.intro e0 (And.intro e1 (And.intro e2 e3))))
                clear h0 h12 e0 e1 e2 e3
                go_enter Try.func58, Try.ntmps58
                go_wp2_with (first
                  | ((with_reducible refine gate_dst (N := 1) rfl ?_); refine box_event ?hg (N := 1) ?hd (cs := dn m l s a b c d u v) (t := 59) ?hr ?_; (case hd => rfl); (case hg => rfl); (case hr => first | (go_simp; done) | (go_simp; rfl)); intro gb hg w1 hbox hb; have n0_ := Aside0.mk (below_step (w2 := w1) (by repeat (first | (with_reducible first | exact HB.out | apply below_alloc | apply pw_below_drewN | apply below_drew1) | exact HB.out)) hb); have BK := Aside0.mk hbox; clear HB; have HB := n0_; clear n0_ hb hbox hg; have hc0 : w1.cell? ⟨gb, 0, none⟩ = some (.int .i64 m) := (blk_cell BK.out 0).trans rfl; have hc1 : w1.cell? ⟨gb, 1, none⟩ = some (.int .i64 l) := (blk_cell BK.out 1).trans rfl; have hc2 : w1.cell? ⟨gb, 2, none⟩ = some (.int .i64 s) := (blk_cell BK.out 2).trans rfl; have hc3 : w1.cell? ⟨gb, 3, none⟩ = some (.int .i64 a) := (blk_cell BK.out 3).trans rfl; have hc4 : w1.cell? ⟨gb, 4, none⟩ = some (.int .i64 b) := (blk_cell BK.out 4).trans rfl; have hc5 : w1.cell? ⟨gb, 5, none⟩ = some (.int .i64 c) := (blk_cell BK.out 5).trans rfl; have hc6 : w1.cell? ⟨gb, 6, none⟩ = some (.int .i64 d) := (blk_cell BK.out 6).trans rfl; have hc7 : w1.cell? ⟨gb, 7, none⟩ = some (.int .i64 u) := (blk_cell BK.out 7).trans rfl; have hc8 : w1.cell? ⟨gb, 8, none⟩ = some (.int .i64 v) := (blk_cell BK.out 8).trans rfl))
                clear hc0 hc1 hc2 hc3 hc4 hc5 hc6 hc7 hc8
                go_loopw [41] (fun v41 w' => ∃ x : Int, v41 = .int .i64 x ∧ Aside0 ((x = 0) ∨ (x = 1 ∧ 0 ≤ a ∧ a ≤ 2047) ∨ (x = 2 ∧ 0 ≤ a ∧ a ≤ 2047 ∧ 0 ≤ b ∧ b ≤ 2047) ∨ (x = 3 ∧ 0 ≤ a ∧ a ≤ 2047 ∧ 0 ≤ b ∧ b ≤ 2047 ∧ 0 ≤ c ∧ c ≤ 2047) ∨ (x = 4 ∧ 0 ≤ a ∧ a ≤ 2047 ∧ 0 ≤ b ∧ b ≤ 2047 ∧ 0 ≤ c ∧ c ≤ 2047 ∧ 0 ≤ d ∧ d ≤ 2047)) ∧ Aside0 (w'.heap[gb]? = some (.cells (dn m l s a b c d u v) 59 (0, 0))) ∧ Aside0 (Below w.heap.size w w')) (fun v41 _ => (4 - intOf v41).toNat)
                case atStart => exact ⟨0, rfl, ⟨.inl rfl⟩, ⟨by (with_reducible repeat (first | refine blk_drewN ?_ _ | refine blk_drew ?_ | refine blk_alloc ?_ _)); exact BK.out⟩, ⟨by repeat (first | (with_reducible first | exact HB.out | apply below_alloc | apply pw_below_drewN | apply below_drew1) | exact HB.out)⟩⟩
                case round =>
                  clear HB BK
                  obtain ⟨x, rfl, HX, BK, HB⟩ := hrel
                  have HX2 := HX.out
                  clear HX
                  rcases HX2 with rfl | ⟨rfl, kk⟩ | ⟨rfl, kk⟩ | ⟨rfl, kk⟩ | ⟨rfl, kk⟩
                  · have hix := dn_ix0 a b c d
                    by_cases hx : 0 ≤ a ∧ a ≤ 2047
                    · have HAa := Aside0.mk (adr_yes hx)
                      have HXX := Aside0.mk hx
                      clear hx
                      go_wp2_with (first
                        | (go_at_call 49; refine (bollardref03_address.calls a true _ HAa.out).mono ?_; rintro e w' ⟨rfl, ⟨nd, rfl⟩⟩))
                      go_roundw
                      case measure => simp [intOf]
                      case rel => exact ⟨1, by first | rfl | simp, ⟨.inr (.inl ⟨rfl, HXX.out⟩)⟩, ⟨by (with_reducible repeat (first | refine blk_drewN ?_ _ | refine blk_drew ?_ | refine blk_alloc ?_ _)); exact BK.out⟩, ⟨by repeat (first | (with_reducible first | exact HB.out | apply below_alloc | apply pw_below_drewN | apply below_drew1) | exact HB.out)⟩⟩
                    · have HAa := Aside0.mk (adr_no hx)
                      have HE := Aside0.mk (show okD m l s a b c d u v = false from ok_no (rng_no (by omega)))
                      clear hx
                      go_wp2_with (first
                        | (go_at_call 49; refine (bollardref03_address.calls a false _ HAa.out).mono ?_; rintro e w' ⟨rfl, ⟨nd, rfl⟩⟩))
                      go_ret
                      exact ⟨by rw [HE.out]; rfl, by repeat (first | (with_reducible first | exact HB.out | apply below_alloc | apply pw_below_drewN | apply below_drew1) | exact HB.out)⟩
                  · have hix := dn_ix1 a b c d
                    have KK := Aside0.mk kk
                    clear kk
                    by_cases hx : 0 ≤ b ∧ b ≤ 2047
                    · have HAb := Aside0.mk (adr_yes hx)
                      have HXX := Aside0.mk hx
                      clear hx
                      go_wp2_with (first
                        | (go_at_call 49; refine (bollardref03_address.calls b true _ HAb.out).mono ?_; rintro e w' ⟨rfl, ⟨nd, rfl⟩⟩))
                      go_roundw
                      case measure => simp [intOf]
                      case rel => exact ⟨2, by first | rfl | simp, ⟨.inr (.inr (.inl ⟨rfl, by have h1_ := KK.out; have h2_ := HXX.out; omega⟩))⟩, ⟨by (with_reducible repeat (first | refine blk_drewN ?_ _ | refine blk_drew ?_ | refine blk_alloc ?_ _)); exact BK.out⟩, ⟨by repeat (first | (with_reducible first | exact HB.out | apply below_alloc | apply pw_below_drewN | apply below_drew1) | exact HB.out)⟩⟩
                    · have HAb := Aside0.mk (adr_no hx)
                      have HE := Aside0.mk (show okD m l s a b c d u v = false from ok_no (rng_no (by omega)))
                      clear hx
                      go_wp2_with (first
                        | (go_at_call 49; refine (bollardref03_address.calls b false _ HAb.out).mono ?_; rintro e w' ⟨rfl, ⟨nd, rfl⟩⟩))
                      go_ret
                      exact ⟨by rw [HE.out]; rfl, by repeat (first | (with_reducible first | exact HB.out | apply below_alloc | apply pw_below_drewN | apply below_drew1) | exact HB.out)⟩
                  · have hix := dn_ix2 a b c d
                    have KK := Aside0.mk kk
                    clear kk
                    by_cases hx : 0 ≤ c ∧ c ≤ 2047
                    · have HAc := Aside0.mk (adr_yes hx)
                      have HXX := Aside0.mk hx
                      clear hx
                      go_wp2_with (first
                        | (go_at_call 49; refine (bollardref03_address.calls c true _ HAc.out).mono ?_; rintro e w' ⟨rfl, ⟨nd, rfl⟩⟩))
                      go_roundw
                      case measure => simp [intOf]
                      case rel => exact ⟨3, by first | rfl | simp, ⟨.inr (.inr (.inr (.inl ⟨rfl, by have h1_ := KK.out; have h2_ := HXX.out; omega⟩)))⟩, ⟨by (with_reducible repeat (first | refine blk_drewN ?_ _ | refine blk_drew ?_ | refine blk_alloc ?_ _)); exact BK.out⟩, ⟨by repeat (first | (with_reducible first | exact HB.out | apply below_alloc | apply pw_below_drewN | apply below_drew1) | exact HB.out)⟩⟩
                    · have HAc := Aside0.mk (adr_no hx)
                      have HE := Aside0.mk (show okD m l s a b c d u v = false from ok_no (rng_no (by omega)))
                      clear hx
                      go_wp2_with (first
                        | (go_at_call 49; refine (bollardref03_address.calls c false _ HAc.out).mono ?_; rintro e w' ⟨rfl, ⟨nd, rfl⟩⟩))
                      go_ret
                      exact ⟨by rw [HE.out]; rfl, by repeat (first | (with_reducible first | exact HB.out | apply below_alloc | apply pw_below_drewN | apply below_drew1) | exact HB.out)⟩
                  · have hix := dn_ix3 a b c d
                    have KK := Aside0.mk kk
                    clear kk
                    by_cases hx : 0 ≤ d ∧ d ≤ 2047
                    · have HAd := Aside0.mk (adr_yes hx)
                      have HXX := Aside0.mk hx
                      clear hx
                      go_wp2_with (first
                        | (go_at_call 49; refine (bollardref03_address.calls d true _ HAd.out).mono ?_; rintro e w' ⟨rfl, ⟨nd, rfl⟩⟩))
                      go_roundw
                      case measure => simp [intOf]
                      case rel => exact ⟨4, by first | rfl | simp, ⟨.inr (.inr (.inr (.inr ⟨rfl, by have h1_ := KK.out; have h2_ := HXX.out; omega⟩)))⟩, ⟨by (with_reducible repeat (first | refine blk_drewN ?_ _ | refine blk_drew ?_ | refine blk_alloc ?_ _)); exact BK.out⟩, ⟨by repeat (first | (with_reducible first | exact HB.out | apply below_alloc | apply pw_below_drewN | apply below_drew1) | exact HB.out)⟩⟩
                    · have HAd := Aside0.mk (adr_no hx)
                      have HE := Aside0.mk (show okD m l s a b c d u v = false from ok_no (rng_no (by omega)))
                      clear hx
                      go_wp2_with (first
                        | (go_at_call 49; refine (bollardref03_address.calls d false _ HAd.out).mono ?_; rintro e w' ⟨rfl, ⟨nd, rfl⟩⟩))
                      go_ret
                      exact ⟨by rw [HE.out]; rfl, by repeat (first | (with_reducible first | exact HB.out | apply below_alloc | apply pw_below_drewN | apply below_drew1) | exact HB.out)⟩
                  · have KK := Aside0.mk kk
                    clear kk
                    have hc0 : wr.cell? ⟨gb, 0, none⟩ = some (.int .i64 m) := (blk_cell BK.out 0).trans rfl
                    have hc1 : wr.cell? ⟨gb, 1, none⟩ = some (.int .i64 l) := (blk_cell BK.out 1).trans rfl
                    have hc2 : wr.cell? ⟨gb, 2, none⟩ = some (.int .i64 s) := (blk_cell BK.out 2).trans rfl
                    have hc3 : wr.cell? ⟨gb, 3, none⟩ = some (.int .i64 a) := (blk_cell BK.out 3).trans rfl
                    have hc4 : wr.cell? ⟨gb, 4, none⟩ = some (.int .i64 b) := (blk_cell BK.out 4).trans rfl
                    have hc5 : wr.cell? ⟨gb, 5, none⟩ = some (.int .i64 c) := (blk_cell BK.out 5).trans rfl
                    have hc6 : wr.cell? ⟨gb, 6, none⟩ = some (.int .i64 d) := (blk_cell BK.out 6).trans rfl
                    have hc7 : wr.cell? ⟨gb, 7, none⟩ = some (.int .i64 u) := (blk_cell BK.out 7).trans rfl
                    have hc8 : wr.cell? ⟨gb, 8, none⟩ = some (.int .i64 v) := (blk_cell BK.out 8).trans rfl
                    by_cases hu : 0 ≤ u ∧ u ≤ 2047
                    · by_cases hv : 0 ≤ v ∧ v ≤ 2047
                      · have hr : rngD m l s a b c d u v = true := decide_eq_true (by have h1_ := KK.out; have h2_ := RM.out; omega)
                        have HE := Aside0.mk (ok_one RM.out.1 hr)
                        have HAu := Aside0.mk (adr_yes hu)
                        have HAv := Aside0.mk (adr_yes hv)
                        clear hu hv hr
                        go_wp2_with (first
                          | (have n_ := HAu.out; clear n_; go_at_call 49; refine (bollardref03_address.calls u true _ HAu.out).mono ?_; rintro e w' ⟨rfl, ⟨nd, rfl⟩⟩; clear HAu)
                          | (go_at_call 49; refine (bollardref03_address.calls v true _ HAv.out).mono ?_; rintro e w' ⟨rfl, ⟨nd, rfl⟩⟩))
                        go_ret
                        exact ⟨by rw [HE.out]; rfl, by repeat (first | (with_reducible first | exact HB.out | apply below_alloc | apply pw_below_drewN | apply below_drew1) | exact HB.out)⟩
                      · have HE := Aside0.mk (show okD m l s a b c d u v = false from ok_no (rng_no (by omega)))
                        have HAu := Aside0.mk (adr_yes hu)
                        have HAv := Aside0.mk (adr_no hv)
                        clear hu hv
                        go_wp2_with (first
                          | (have n_ := HAu.out; clear n_; go_at_call 49; refine (bollardref03_address.calls u true _ HAu.out).mono ?_; rintro e w' ⟨rfl, ⟨nd, rfl⟩⟩; clear HAu)
                          | (go_at_call 49; refine (bollardref03_address.calls v false _ HAv.out).mono ?_; rintro e w' ⟨rfl, ⟨nd, rfl⟩⟩))
                        go_ret
                        exact ⟨by rw [HE.out]; rfl, by repeat (first | (with_reducible first | exact HB.out | apply below_alloc | apply pw_below_drewN | apply below_drew1) | exact HB.out)⟩
                    · have HE := Aside0.mk (show okD m l s a b c d u v = false from ok_no (rng_no (by omega)))
                      have HAu := Aside0.mk (adr_no hu)
                      clear hu
                      go_wp2_with (first
                        | (go_at_call 49; refine (bollardref03_address.calls u false _ HAu.out).mono ?_; rintro e w' ⟨rfl, ⟨nd, rfl⟩⟩))
                      go_ret
                      exact ⟨by rw [HE.out]; rfl, by repeat (first | (with_reducible first | exact HB.out | apply below_alloc | apply pw_below_drewN | apply below_drew1) | exact HB.out)⟩
      · skip
        by_cases e0 : l < 0
        · rw [ok_no (rng_no (by omega))]
          have g0 : (m == 0) = false := beq_eq_false_iff_ne.mpr (by omega)
          have g1 : (m != 1) = true := by rw [bne_iff_ne]; omega
          have g2 : (m != 2) = false := by rw [bne_eq_false_iff_eq]; omega
          have q0 : decide (l < 0) = true := decide_eq_true e0
          clear h0 h12 e0
          go_enter Try.func58, Try.ntmps58
          go_wp2_with (first
            | ((with_reducible refine gate_dst (N := 1) rfl ?_); refine box_event ?hg (N := 1) ?hd (cs := dn m l s a b c d u v) (t := 59) ?hr ?_; (case hd => rfl); (case hg => rfl); (case hr => first | (go_simp; done) | (go_simp; rfl)); intro gb hg w1 hbox hb; have n0_ := Aside0.mk (below_step (w2 := w1) (by repeat (first | (with_reducible first | exact HB.out | apply below_alloc | apply pw_below_drewN | apply below_drew1) | exact HB.out)) hb); have BK := Aside0.mk hbox; clear HB; have HB := n0_; clear n0_ hb hbox hg; have hc0 : w1.cell? ⟨gb, 0, none⟩ = some (.int .i64 m) := (blk_cell BK.out 0).trans rfl; have hc1 : w1.cell? ⟨gb, 1, none⟩ = some (.int .i64 l) := (blk_cell BK.out 1).trans rfl; have hc2 : w1.cell? ⟨gb, 2, none⟩ = some (.int .i64 s) := (blk_cell BK.out 2).trans rfl; have hc3 : w1.cell? ⟨gb, 3, none⟩ = some (.int .i64 a) := (blk_cell BK.out 3).trans rfl; have hc4 : w1.cell? ⟨gb, 4, none⟩ = some (.int .i64 b) := (blk_cell BK.out 4).trans rfl; have hc5 : w1.cell? ⟨gb, 5, none⟩ = some (.int .i64 c) := (blk_cell BK.out 5).trans rfl; have hc6 : w1.cell? ⟨gb, 6, none⟩ = some (.int .i64 d) := (blk_cell BK.out 6).trans rfl; have hc7 : w1.cell? ⟨gb, 7, none⟩ = some (.int .i64 u) := (blk_cell BK.out 7).trans rfl; have hc8 : w1.cell? ⟨gb, 8, none⟩ = some (.int .i64 v) := (blk_cell BK.out 8).trans rfl))
          go_ret
          exact ⟨rfl, HB.out⟩
        · skip
          by_cases e1 : 1000 < l
          · rw [ok_no (rng_no (by omega))]
            have g0 : (m == 0) = false := beq_eq_false_iff_ne.mpr (by omega)
            have g1 : (m != 1) = true := by rw [bne_iff_ne]; omega
            have g2 : (m != 2) = false := by rw [bne_eq_false_iff_eq]; omega
            have q0 : decide (l < 0) = false := decide_eq_false e0
            have q1 : decide (1000 < l) = true := decide_eq_true e1
            clear h0 h12 e0 e1
            go_enter Try.func58, Try.ntmps58
            go_wp2_with (first
              | ((with_reducible refine gate_dst (N := 1) rfl ?_); refine box_event ?hg (N := 1) ?hd (cs := dn m l s a b c d u v) (t := 59) ?hr ?_; (case hd => rfl); (case hg => rfl); (case hr => first | (go_simp; done) | (go_simp; rfl)); intro gb hg w1 hbox hb; have n0_ := Aside0.mk (below_step (w2 := w1) (by repeat (first | (with_reducible first | exact HB.out | apply below_alloc | apply pw_below_drewN | apply below_drew1) | exact HB.out)) hb); have BK := Aside0.mk hbox; clear HB; have HB := n0_; clear n0_ hb hbox hg; have hc0 : w1.cell? ⟨gb, 0, none⟩ = some (.int .i64 m) := (blk_cell BK.out 0).trans rfl; have hc1 : w1.cell? ⟨gb, 1, none⟩ = some (.int .i64 l) := (blk_cell BK.out 1).trans rfl; have hc2 : w1.cell? ⟨gb, 2, none⟩ = some (.int .i64 s) := (blk_cell BK.out 2).trans rfl; have hc3 : w1.cell? ⟨gb, 3, none⟩ = some (.int .i64 a) := (blk_cell BK.out 3).trans rfl; have hc4 : w1.cell? ⟨gb, 4, none⟩ = some (.int .i64 b) := (blk_cell BK.out 4).trans rfl; have hc5 : w1.cell? ⟨gb, 5, none⟩ = some (.int .i64 c) := (blk_cell BK.out 5).trans rfl; have hc6 : w1.cell? ⟨gb, 6, none⟩ = some (.int .i64 d) := (blk_cell BK.out 6).trans rfl; have hc7 : w1.cell? ⟨gb, 7, none⟩ = some (.int .i64 u) := (blk_cell BK.out 7).trans rfl; have hc8 : w1.cell? ⟨gb, 8, none⟩ = some (.int .i64 v) := (blk_cell BK.out 8).trans rfl))
            go_ret
            exact ⟨rfl, HB.out⟩
          · skip
            by_cases e2 : s < 0
            · rw [ok_no (rng_no (by omega))]
              have g0 : (m == 0) = false := beq_eq_false_iff_ne.mpr (by omega)
              have g1 : (m != 1) = true := by rw [bne_iff_ne]; omega
              have g2 : (m != 2) = false := by rw [bne_eq_false_iff_eq]; omega
              have q0 : decide (l < 0) = false := decide_eq_false e0
              have q1 : decide (1000 < l) = false := decide_eq_false e1
              have q2 : decide (s < 0) = true := decide_eq_true e2
              clear h0 h12 e0 e1 e2
              go_enter Try.func58, Try.ntmps58
              go_wp2_with (first
                | ((with_reducible refine gate_dst (N := 1) rfl ?_); refine box_event ?hg (N := 1) ?hd (cs := dn m l s a b c d u v) (t := 59) ?hr ?_; (case hd => rfl); (case hg => rfl); (case hr => first | (go_simp; done) | (go_simp; rfl)); intro gb hg w1 hbox hb; have n0_ := Aside0.mk (below_step (w2 := w1) (by repeat (first | (with_reducible first | exact HB.out | apply below_alloc | apply pw_below_drewN | apply below_drew1) | exact HB.out)) hb); have BK := Aside0.mk hbox; clear HB; have HB := n0_; clear n0_ hb hbox hg; have hc0 : w1.cell? ⟨gb, 0, none⟩ = some (.int .i64 m) := (blk_cell BK.out 0).trans rfl; have hc1 : w1.cell? ⟨gb, 1, none⟩ = some (.int .i64 l) := (blk_cell BK.out 1).trans rfl; have hc2 : w1.cell? ⟨gb, 2, none⟩ = some (.int .i64 s) := (blk_cell BK.out 2).trans rfl; have hc3 : w1.cell? ⟨gb, 3, none⟩ = some (.int .i64 a) := (blk_cell BK.out 3).trans rfl; have hc4 : w1.cell? ⟨gb, 4, none⟩ = some (.int .i64 b) := (blk_cell BK.out 4).trans rfl; have hc5 : w1.cell? ⟨gb, 5, none⟩ = some (.int .i64 c) := (blk_cell BK.out 5).trans rfl; have hc6 : w1.cell? ⟨gb, 6, none⟩ = some (.int .i64 d) := (blk_cell BK.out 6).trans rfl; have hc7 : w1.cell? ⟨gb, 7, none⟩ = some (.int .i64 u) := (blk_cell BK.out 7).trans rfl; have hc8 : w1.cell? ⟨gb, 8, none⟩ = some (.int .i64 v) := (blk_cell BK.out 8).trans rfl))
              go_ret
              exact ⟨rfl, HB.out⟩
            · skip
              by_cases e3 : 532992 < s
              · rw [ok_no (rng_no (by omega))]
                have g0 : (m == 0) = false := beq_eq_false_iff_ne.mpr (by omega)
                have g1 : (m != 1) = true := by rw [bne_iff_ne]; omega
                have g2 : (m != 2) = false := by rw [bne_eq_false_iff_eq]; omega
                have q0 : decide (l < 0) = false := decide_eq_false e0
                have q1 : decide (1000 < l) = false := decide_eq_false e1
                have q2 : decide (s < 0) = false := decide_eq_false e2
                have q3 : decide (532992 < s) = true := decide_eq_true e3
                clear h0 h12 e0 e1 e2 e3
                go_enter Try.func58, Try.ntmps58
                go_wp2_with (first
                  | ((with_reducible refine gate_dst (N := 1) rfl ?_); refine box_event ?hg (N := 1) ?hd (cs := dn m l s a b c d u v) (t := 59) ?hr ?_; (case hd => rfl); (case hg => rfl); (case hr => first | (go_simp; done) | (go_simp; rfl)); intro gb hg w1 hbox hb; have n0_ := Aside0.mk (below_step (w2 := w1) (by repeat (first | (with_reducible first | exact HB.out | apply below_alloc | apply pw_below_drewN | apply below_drew1) | exact HB.out)) hb); have BK := Aside0.mk hbox; clear HB; have HB := n0_; clear n0_ hb hbox hg; have hc0 : w1.cell? ⟨gb, 0, none⟩ = some (.int .i64 m) := (blk_cell BK.out 0).trans rfl; have hc1 : w1.cell? ⟨gb, 1, none⟩ = some (.int .i64 l) := (blk_cell BK.out 1).trans rfl; have hc2 : w1.cell? ⟨gb, 2, none⟩ = some (.int .i64 s) := (blk_cell BK.out 2).trans rfl; have hc3 : w1.cell? ⟨gb, 3, none⟩ = some (.int .i64 a) := (blk_cell BK.out 3).trans rfl; have hc4 : w1.cell? ⟨gb, 4, none⟩ = some (.int .i64 b) := (blk_cell BK.out 4).trans rfl; have hc5 : w1.cell? ⟨gb, 5, none⟩ = some (.int .i64 c) := (blk_cell BK.out 5).trans rfl; have hc6 : w1.cell? ⟨gb, 6, none⟩ = some (.int .i64 d) := (blk_cell BK.out 6).trans rfl; have hc7 : w1.cell? ⟨gb, 7, none⟩ = some (.int .i64 u) := (blk_cell BK.out 7).trans rfl; have hc8 : w1.cell? ⟨gb, 8, none⟩ = some (.int .i64 v) := (blk_cell BK.out 8).trans rfl))
                go_ret
                exact ⟨rfl, HB.out⟩
              · skip
                have g0 : (m == 0) = false := beq_eq_false_iff_ne.mpr (by omega)
                have g1 : (m != 1) = true := by rw [bne_iff_ne]; omega
                have g2 : (m != 2) = false := by rw [bne_eq_false_iff_eq]; omega
                have q0 : decide (l < 0) = false := decide_eq_false e0
                have q1 : decide (1000 < l) = false := decide_eq_false e1
                have q2 : decide (s < 0) = false := decide_eq_false e2
                have q3 : decide (532992 < s) = false := decide_eq_false e3
                have RM := Aside0.mk (And.intro h12 (And.intro e0 (And.intro e1 (And.intro e2 e3))))
                clear h0 h12 e0 e1 e2 e3
                go_enter Try.func58, Try.ntmps58
                go_wp2_with (first
                  | ((with_reducible refine gate_dst (N := 1) rfl ?_); refine box_event ?hg (N := 1) ?hd (cs := dn m l s a b c d u v) (t := 59) ?hr ?_; (case hd => rfl); (case hg => rfl); (case hr => first | (go_simp; done) | (go_simp; rfl)); intro gb hg w1 hbox hb; have n0_ := Aside0.mk (below_step (w2 := w1) (by repeat (first | (with_reducible first | exact HB.out | apply below_alloc | apply pw_below_drewN | apply below_drew1) | exact HB.out)) hb); have BK := Aside0.mk hbox; clear HB; have HB := n0_; clear n0_ hb hbox hg; have hc0 : w1.cell? ⟨gb, 0, none⟩ = some (.int .i64 m) := (blk_cell BK.out 0).trans rfl; have hc1 : w1.cell? ⟨gb, 1, none⟩ = some (.int .i64 l) := (blk_cell BK.out 1).trans rfl; have hc2 : w1.cell? ⟨gb, 2, none⟩ = some (.int .i64 s) := (blk_cell BK.out 2).trans rfl; have hc3 : w1.cell? ⟨gb, 3, none⟩ = some (.int .i64 a) := (blk_cell BK.out 3).trans rfl; have hc4 : w1.cell? ⟨gb, 4, none⟩ = some (.int .i64 b) := (blk_cell BK.out 4).trans rfl; have hc5 : w1.cell? ⟨gb, 5, none⟩ = some (.int .i64 c) := (blk_cell BK.out 5).trans rfl; have hc6 : w1.cell? ⟨gb, 6, none⟩ = some (.int .i64 d) := (blk_cell BK.out 6).trans rfl; have hc7 : w1.cell? ⟨gb, 7, none⟩ = some (.int .i64 u) := (blk_cell BK.out 7).trans rfl; have hc8 : w1.cell? ⟨gb, 8, none⟩ = some (.int .i64 v) := (blk_cell BK.out 8).trans rfl))
                clear hc0 hc1 hc2 hc3 hc4 hc5 hc6 hc7 hc8
                go_loopw [41] (fun v41 w' => ∃ x : Int, v41 = .int .i64 x ∧ Aside0 ((x = 0) ∨ (x = 1 ∧ 0 ≤ a ∧ a ≤ 2047) ∨ (x = 2 ∧ 0 ≤ a ∧ a ≤ 2047 ∧ 0 ≤ b ∧ b ≤ 2047) ∨ (x = 3 ∧ 0 ≤ a ∧ a ≤ 2047 ∧ 0 ≤ b ∧ b ≤ 2047 ∧ 0 ≤ c ∧ c ≤ 2047) ∨ (x = 4 ∧ 0 ≤ a ∧ a ≤ 2047 ∧ 0 ≤ b ∧ b ≤ 2047 ∧ 0 ≤ c ∧ c ≤ 2047 ∧ 0 ≤ d ∧ d ≤ 2047)) ∧ Aside0 (w'.heap[gb]? = some (.cells (dn m l s a b c d u v) 59 (0, 0))) ∧ Aside0 (Below w.heap.size w w')) (fun v41 _ => (4 - intOf v41).toNat)
                case atStart => exact ⟨0, rfl, ⟨.inl rfl⟩, ⟨by (with_reducible repeat (first | refine blk_drewN ?_ _ | refine blk_drew ?_ | refine blk_alloc ?_ _)); exact BK.out⟩, ⟨by repeat (first | (with_reducible first | exact HB.out | apply below_alloc | apply pw_below_drewN | apply below_drew1) | exact HB.out)⟩⟩
                case round =>
                  clear HB BK
                  obtain ⟨x, rfl, HX, BK, HB⟩ := hrel
                  have HX2 := HX.out
                  clear HX
                  rcases HX2 with rfl | ⟨rfl, kk⟩ | ⟨rfl, kk⟩ | ⟨rfl, kk⟩ | ⟨rfl, kk⟩
                  · have hix := dn_ix0 a b c d
                    by_cases hx : 0 ≤ a ∧ a ≤ 2047
                    · have HAa := Aside0.mk (adr_yes hx)
                      have HXX := Aside0.mk hx
                      clear hx
                      go_wp2_with (first
                        | (go_at_call 49; refine (bollardref03_address.calls a true _ HAa.out).mono ?_; rintro e w' ⟨rfl, ⟨nd, rfl⟩⟩))
                      go_roundw
                      case measure => simp [intOf]
                      case rel => exact ⟨1, by first | rfl | simp, ⟨.inr (.inl ⟨rfl, HXX.out⟩)⟩, ⟨by (with_reducible repeat (first | refine blk_drewN ?_ _ | refine blk_drew ?_ | refine blk_alloc ?_ _)); exact BK.out⟩, ⟨by repeat (first | (with_reducible first | exact HB.out | apply below_alloc | apply pw_below_drewN | apply below_drew1) | exact HB.out)⟩⟩
                    · have HAa := Aside0.mk (adr_no hx)
                      have HE := Aside0.mk (show okD m l s a b c d u v = false from ok_no (rng_no (by omega)))
                      clear hx
                      go_wp2_with (first
                        | (go_at_call 49; refine (bollardref03_address.calls a false _ HAa.out).mono ?_; rintro e w' ⟨rfl, ⟨nd, rfl⟩⟩))
                      go_ret
                      exact ⟨by rw [HE.out]; rfl, by repeat (first | (with_reducible first | exact HB.out | apply below_alloc | apply pw_below_drewN | apply below_drew1) | exact HB.out)⟩
                  · have hix := dn_ix1 a b c d
                    have KK := Aside0.mk kk
                    clear kk
                    by_cases hx : 0 ≤ b ∧ b ≤ 2047
                    · have HAb := Aside0.mk (adr_yes hx)
                      have HXX := Aside0.mk hx
                      clear hx
                      go_wp2_with (first
                        | (go_at_call 49; refine (bollardref03_address.calls b true _ HAb.out).mono ?_; rintro e w' ⟨rfl, ⟨nd, rfl⟩⟩))
                      go_roundw
                      case measure => simp [intOf]
                      case rel => exact ⟨2, by first | rfl | simp, ⟨.inr (.inr (.inl ⟨rfl, by have h1_ := KK.out; have h2_ := HXX.out; omega⟩))⟩, ⟨by (with_reducible repeat (first | refine blk_drewN ?_ _ | refine blk_drew ?_ | refine blk_alloc ?_ _)); exact BK.out⟩, ⟨by repeat (first | (with_reducible first | exact HB.out | apply below_alloc | apply pw_below_drewN | apply below_drew1) | exact HB.out)⟩⟩
                    · have HAb := Aside0.mk (adr_no hx)
                      have HE := Aside0.mk (show okD m l s a b c d u v = false from ok_no (rng_no (by omega)))
                      clear hx
                      go_wp2_with (first
                        | (go_at_call 49; refine (bollardref03_address.calls b false _ HAb.out).mono ?_; rintro e w' ⟨rfl, ⟨nd, rfl⟩⟩))
                      go_ret
                      exact ⟨by rw [HE.out]; rfl, by repeat (first | (with_reducible first | exact HB.out | apply below_alloc | apply pw_below_drewN | apply below_drew1) | exact HB.out)⟩
                  · have hix := dn_ix2 a b c d
                    have KK := Aside0.mk kk
                    clear kk
                    by_cases hx : 0 ≤ c ∧ c ≤ 2047
                    · have HAc := Aside0.mk (adr_yes hx)
                      have HXX := Aside0.mk hx
                      clear hx
                      go_wp2_with (first
                        | (go_at_call 49; refine (bollardref03_address.calls c true _ HAc.out).mono ?_; rintro e w' ⟨rfl, ⟨nd, rfl⟩⟩))
                      go_roundw
                      case measure => simp [intOf]
                      case rel => exact ⟨3, by first | rfl | simp, ⟨.inr (.inr (.inr (.inl ⟨rfl, by have h1_ := KK.out; have h2_ := HXX.out; omega⟩)))⟩, ⟨by (with_reducible repeat (first | refine blk_drewN ?_ _ | refine blk_drew ?_ | refine blk_alloc ?_ _)); exact BK.out⟩, ⟨by repeat (first | (with_reducible first | exact HB.out | apply below_alloc | apply pw_below_drewN | apply below_drew1) | exact HB.out)⟩⟩
                    · have HAc := Aside0.mk (adr_no hx)
                      have HE := Aside0.mk (show okD m l s a b c d u v = false from ok_no (rng_no (by omega)))
                      clear hx
                      go_wp2_with (first
                        | (go_at_call 49; refine (bollardref03_address.calls c false _ HAc.out).mono ?_; rintro e w' ⟨rfl, ⟨nd, rfl⟩⟩))
                      go_ret
                      exact ⟨by rw [HE.out]; rfl, by repeat (first | (with_reducible first | exact HB.out | apply below_alloc | apply pw_below_drewN | apply below_drew1) | exact HB.out)⟩
                  · have hix := dn_ix3 a b c d
                    have KK := Aside0.mk kk
                    clear kk
                    by_cases hx : 0 ≤ d ∧ d ≤ 2047
                    · have HAd := Aside0.mk (adr_yes hx)
                      have HXX := Aside0.mk hx
                      clear hx
                      go_wp2_with (first
                        | (go_at_call 49; refine (bollardref03_address.calls d true _ HAd.out).mono ?_; rintro e w' ⟨rfl, ⟨nd, rfl⟩⟩))
                      go_roundw
                      case measure => simp [intOf]
                      case rel => exact ⟨4, by first | rfl | simp, ⟨.inr (.inr (.inr (.inr ⟨rfl, by have h1_ := KK.out; have h2_ := HXX.out; omega⟩)))⟩, ⟨by (with_reducible repeat (first | refine blk_drewN ?_ _ | refine blk_drew ?_ | refine blk_alloc ?_ _)); exact BK.out⟩, ⟨by repeat (first | (with_reducible first | exact HB.out | apply below_alloc | apply pw_below_drewN | apply below_drew1) | exact HB.out)⟩⟩
                    · have HAd := Aside0.mk (adr_no hx)
                      have HE := Aside0.mk (show okD m l s a b c d u v = false from ok_no (rng_no (by omega)))
                      clear hx
                      go_wp2_with (first
                        | (go_at_call 49; refine (bollardref03_address.calls d false _ HAd.out).mono ?_; rintro e w' ⟨rfl, ⟨nd, rfl⟩⟩))
                      go_ret
                      exact ⟨by rw [HE.out]; rfl, by repeat (first | (with_reducible first | exact HB.out | apply below_alloc | apply pw_below_drewN | apply below_drew1) | exact HB.out)⟩
                  · have KK := Aside0.mk kk
                    clear kk
                    have hc0 : wr.cell? ⟨gb, 0, none⟩ = some (.int .i64 m) := (blk_cell BK.out 0).trans rfl
                    have hc1 : wr.cell? ⟨gb, 1, none⟩ = some (.int .i64 l) := (blk_cell BK.out 1).trans rfl
                    have hc2 : wr.cell? ⟨gb, 2, none⟩ = some (.int .i64 s) := (blk_cell BK.out 2).trans rfl
                    have hc3 : wr.cell? ⟨gb, 3, none⟩ = some (.int .i64 a) := (blk_cell BK.out 3).trans rfl
                    have hc4 : wr.cell? ⟨gb, 4, none⟩ = some (.int .i64 b) := (blk_cell BK.out 4).trans rfl
                    have hc5 : wr.cell? ⟨gb, 5, none⟩ = some (.int .i64 c) := (blk_cell BK.out 5).trans rfl
                    have hc6 : wr.cell? ⟨gb, 6, none⟩ = some (.int .i64 d) := (blk_cell BK.out 6).trans rfl
                    have hc7 : wr.cell? ⟨gb, 7, none⟩ = some (.int .i64 u) := (blk_cell BK.out 7).trans rfl
                    have hc8 : wr.cell? ⟨gb, 8, none⟩ = some (.int .i64 v) := (blk_cell BK.out 8).trans rfl
                    by_cases hu : 0 ≤ u ∧ u ≤ 2047
                    · by_cases hv : 0 ≤ v ∧ v ≤ 2047
                      · have hr : rngD m l s a b c d u v = true := decide_eq_true (by have h1_ := KK.out; have h2_ := RM.out; omega)
                        have HE := Aside0.mk (ok_two RM.out.1 hr)
                        have HAu := Aside0.mk (adr_yes hu)
                        have HAv := Aside0.mk (adr_yes hv)
                        clear hu hv hr
                        go_wp2_with (first
                          | (have n_ := HAu.out; clear n_; go_at_call 49; refine (bollardref03_address.calls u true _ HAu.out).mono ?_; rintro e w' ⟨rfl, ⟨nd, rfl⟩⟩; clear HAu)
                          | (go_at_call 49; refine (bollardref03_address.calls v true _ HAv.out).mono ?_; rintro e w' ⟨rfl, ⟨nd, rfl⟩⟩))
                        go_ret
                        exact ⟨by rw [HE.out]; rfl, by repeat (first | (with_reducible first | exact HB.out | apply below_alloc | apply pw_below_drewN | apply below_drew1) | exact HB.out)⟩
                      · have HE := Aside0.mk (show okD m l s a b c d u v = false from ok_no (rng_no (by omega)))
                        have HAu := Aside0.mk (adr_yes hu)
                        have HAv := Aside0.mk (adr_no hv)
                        clear hu hv
                        go_wp2_with (first
                          | (have n_ := HAu.out; clear n_; go_at_call 49; refine (bollardref03_address.calls u true _ HAu.out).mono ?_; rintro e w' ⟨rfl, ⟨nd, rfl⟩⟩; clear HAu)
                          | (go_at_call 49; refine (bollardref03_address.calls v false _ HAv.out).mono ?_; rintro e w' ⟨rfl, ⟨nd, rfl⟩⟩))
                        go_ret
                        exact ⟨by rw [HE.out]; rfl, by repeat (first | (with_reducible first | exact HB.out | apply below_alloc | apply pw_below_drewN | apply below_drew1) | exact HB.out)⟩
                    · have HE := Aside0.mk (show okD m l s a b c d u v = false from ok_no (rng_no (by omega)))
                      have HAu := Aside0.mk (adr_no hu)
                      clear hu
                      go_wp2_with (first
                        | (go_at_call 49; refine (bollardref03_address.calls u false _ HAu.out).mono ?_; rintro e w' ⟨rfl, ⟨nd, rfl⟩⟩))
                      go_ret
                      exact ⟨by rw [HE.out]; rfl, by repeat (first | (with_reducible first | exact HB.out | apply below_alloc | apply pw_below_drewN | apply below_drew1) | exact HB.out)⟩
    · rw [ok_other h0 (fun h => h12 (.inl h)) (fun h => h12 (.inr h))]
      have g0 : (m == 0) = false := beq_eq_false_iff_ne.mpr (by omega)
      have g1 : (m != 1) = true := by rw [bne_iff_ne]; omega
      have g2 : (m != 2) = true := by rw [bne_iff_ne]; omega
      clear h0 h12
      go_enter Try.func58, Try.ntmps58
      go_wp2_with (first
        | ((with_reducible refine gate_dst (N := 1) rfl ?_); refine box_event ?hg (N := 1) ?hd (cs := dn m l s a b c d u v) (t := 59) ?hr ?_; (case hd => rfl); (case hg => rfl); (case hr => first | (go_simp; done) | (go_simp; rfl)); intro gb hg w1 hbox hb; have n0_ := Aside0.mk (below_step (w2 := w1) (by repeat (first | (with_reducible first | exact HB.out | apply below_alloc | apply pw_below_drewN | apply below_drew1) | exact HB.out)) hb); have BK := Aside0.mk hbox; clear HB; have HB := n0_; clear n0_ hb hbox hg; have hc0 : w1.cell? ⟨gb, 0, none⟩ = some (.int .i64 m) := (blk_cell BK.out 0).trans rfl; have hc1 : w1.cell? ⟨gb, 1, none⟩ = some (.int .i64 l) := (blk_cell BK.out 1).trans rfl; have hc2 : w1.cell? ⟨gb, 2, none⟩ = some (.int .i64 s) := (blk_cell BK.out 2).trans rfl; have hc3 : w1.cell? ⟨gb, 3, none⟩ = some (.int .i64 a) := (blk_cell BK.out 3).trans rfl; have hc4 : w1.cell? ⟨gb, 4, none⟩ = some (.int .i64 b) := (blk_cell BK.out 4).trans rfl; have hc5 : w1.cell? ⟨gb, 5, none⟩ = some (.int .i64 c) := (blk_cell BK.out 5).trans rfl; have hc6 : w1.cell? ⟨gb, 6, none⟩ = some (.int .i64 d) := (blk_cell BK.out 6).trans rfl; have hc7 : w1.cell? ⟨gb, 7, none⟩ = some (.int .i64 u) := (blk_cell BK.out 7).trans rfl; have hc8 : w1.cell? ⟨gb, 8, none⟩ = some (.int .i64 v) := (blk_cell BK.out 8).trans rfl))
      go_ret
      exact ⟨rfl, HB.out⟩
set_option maxHeartbeats 8000000 in
set_option maxRecDepth 100000 in
theorem REncodeDinode_call (m l s a b c d u v : Int) (w : World) :
    Calls Try.prog 33 #[.agg (dn m l s a b c d u v)] w fun e w' => ∃ v0_ : Value, e = .returned (.tuple #[v0_, .int .i64 (encD m l s a b c d u v).2]) ∧ Kd.R (Kd.int .u8) 5 w' w.heap.size (fun _ => True) v0_ (encD m l s a b c d u v).1 ∧ Below w.heap.size w w' := by
  have hu59 := Try.underlying59
  have HB := Aside0.mk (Below.refl w.heap.size w)
  unfold encD
  by_cases hok : okD m l s a b c d u v = true
  · rw [if_pos hok]
    have HM := Aside0.mk hok
    have hrg := okD_rng hok
    by_cases h0 : m = 0
    · rw [if_pos h0]
      have f0 : (m == 0) = true := beq_iff_eq.mpr h0
      clear h0 hok hrg
      go_enter Try.func33, Try.ntmps33
      go_wp2_with (first
        | ((with_reducible refine gate_dst (N := 1) rfl ?_); refine box_event ?hg (N := 1) ?hd (cs := dn m l s a b c d u v) (t := 59) ?hr ?_; (case hd => rfl); (case hg => rfl); (case hr => first | (go_simp; done) | (go_simp; rfl)); intro gb hg w1 hbox hb; have n0_ := Aside0.mk (below_step (w2 := w1) (by repeat (first | (with_reducible first | exact HB.out | apply below_alloc | apply pw_below_drewN | apply below_drew1) | exact HB.out)) hb); have BK := Aside0.mk hbox; clear HB; have HB := n0_; clear n0_ hb hbox hg; have hc0 : w1.cell? ⟨gb, 0, none⟩ = some (.int .i64 m) := (blk_cell BK.out 0).trans rfl; have hc1 : w1.cell? ⟨gb, 1, none⟩ = some (.int .i64 l) := (blk_cell BK.out 1).trans rfl; have hc2 : w1.cell? ⟨gb, 2, none⟩ = some (.int .i64 s) := (blk_cell BK.out 2).trans rfl; have hc3 : w1.cell? ⟨gb, 3, none⟩ = some (.int .i64 a) := (blk_cell BK.out 3).trans rfl; have hc4 : w1.cell? ⟨gb, 4, none⟩ = some (.int .i64 b) := (blk_cell BK.out 4).trans rfl; have hc5 : w1.cell? ⟨gb, 5, none⟩ = some (.int .i64 c) := (blk_cell BK.out 5).trans rfl; have hc6 : w1.cell? ⟨gb, 6, none⟩ = some (.int .i64 d) := (blk_cell BK.out 6).trans rfl; have hc7 : w1.cell? ⟨gb, 7, none⟩ = some (.int .i64 u) := (blk_cell BK.out 7).trans rfl; have hc8 : w1.cell? ⟨gb, 8, none⟩ = some (.int .i64 v) := (blk_cell BK.out 8).trans rfl)
        | ((with_reducible refine gate_dst (N := 7) rfl ?_); refine Gw.load_event rfl 59 (.tmp 1) rfl gb (dn m l s a b c d u v) 59 _ rfl (by (with_reducible repeat (first | refine blk_drewN ?_ _ | refine blk_drew ?_ | refine blk_alloc ?_ _)); exact BK.out) hu59 rfl (by kernel_rfl) ?_)
        | (go_at_call 58; clear hc0 hc1 hc2 hc3 hc4 hc5 hc6 hc7 hc8; refine (RmayDinode_call m l s a b c d u v _).mono ?_; rintro e w2 ⟨he, hb⟩; rw [HM.out] at he; subst he; have n0_ := Aside0.mk (blk_below (w1 := w2) (g := gb) (o := .cells (dn m l s a b c d u v) 59 (0, 0)) (by (with_reducible repeat (first | refine blk_drewN ?_ _ | refine blk_drew ?_ | refine blk_alloc ?_ _)); exact BK.out) hb); clear BK; have BK := n0_; clear n0_; have n0_ := Aside0.mk (below_step (w2 := w2) (by repeat (first | (with_reducible first | exact HB.out | apply below_alloc | apply pw_below_drewN | apply below_drew1) | exact HB.out)) hb); clear HB; have HB := n0_; clear n0_; clear hb; have hc0 : w2.cell? ⟨gb, 0, none⟩ = some (.int .i64 m) := (blk_cell BK.out 0).trans rfl; have hc1 : w2.cell? ⟨gb, 1, none⟩ = some (.int .i64 l) := (blk_cell BK.out 1).trans rfl; have hc2 : w2.cell? ⟨gb, 2, none⟩ = some (.int .i64 s) := (blk_cell BK.out 2).trans rfl; have hc3 : w2.cell? ⟨gb, 3, none⟩ = some (.int .i64 a) := (blk_cell BK.out 3).trans rfl; have hc4 : w2.cell? ⟨gb, 4, none⟩ = some (.int .i64 b) := (blk_cell BK.out 4).trans rfl; have hc5 : w2.cell? ⟨gb, 5, none⟩ = some (.int .i64 c) := (blk_cell BK.out 5).trans rfl; have hc6 : w2.cell? ⟨gb, 6, none⟩ = some (.int .i64 d) := (blk_cell BK.out 6).trans rfl; have hc7 : w2.cell? ⟨gb, 7, none⟩ = some (.int .i64 u) := (blk_cell BK.out 7).trans rfl; have hc8 : w2.cell? ⟨gb, 8, none⟩ = some (.int .i64 v) := (blk_cell BK.out 8).trans rfl)
        | ((with_reducible refine gate_dst (N := 10) rfl ?_); clear hc0 hc1 hc2 hc3 hc4 hc5 hc6 hc7 hc8; refine Kd.R_make (Kd.int .u8) _ 5 rfl (N := 10) rfl 26 _ _ rfl 32 rfl rfl Try.underlying26 (.int .u8 0) 1 Gw.infou8 rfl (by decide) (by omega) 0 (ok := fun _ => True) (okp := fun _ => True) rfl (fun _ hk => hk) trivial (by omega) (by omega) (Below.refl _ _) (Nat.le_refl _) ?_; intro v3 w3 ho hb hg_ hnew_; clear hg_ hnew_; have HO := Aside0.mk (show Kd.R (Kd.int .u8) 5 w3 w.heap.size (fun _ => True) v3 P0 from Kd.R_lower ho (below_size (by repeat (first | (with_reducible first | exact HB.out | apply below_alloc | apply pw_below_drewN | apply below_drew1) | exact HB.out)))); have n0_ := Aside0.mk (blk_below (w1 := w3) (g := gb) (o := .cells (dn m l s a b c d u v) 59 (0, 0)) (by (with_reducible repeat (first | refine blk_drewN ?_ _ | refine blk_drew ?_ | refine blk_alloc ?_ _)); exact BK.out) hb); clear BK; have BK := n0_; clear n0_; have n0_ := Aside0.mk (below_step (w2 := w3) (by repeat (first | (with_reducible first | exact HB.out | apply below_alloc | apply pw_below_drewN | apply below_drew1) | exact HB.out)) hb); clear HB; have HB := n0_; clear n0_; clear hb ho; obtain ⟨A0, c0, e0⟩ := Kd.R_slice HO.out; subst e0; have hc0 : w3.cell? ⟨gb, 0, none⟩ = some (.int .i64 m) := (blk_cell BK.out 0).trans rfl; have hc1 : w3.cell? ⟨gb, 1, none⟩ = some (.int .i64 l) := (blk_cell BK.out 1).trans rfl; have hc2 : w3.cell? ⟨gb, 2, none⟩ = some (.int .i64 s) := (blk_cell BK.out 2).trans rfl; have hc3 : w3.cell? ⟨gb, 3, none⟩ = some (.int .i64 a) := (blk_cell BK.out 3).trans rfl; have hc4 : w3.cell? ⟨gb, 4, none⟩ = some (.int .i64 b) := (blk_cell BK.out 4).trans rfl; have hc5 : w3.cell? ⟨gb, 5, none⟩ = some (.int .i64 c) := (blk_cell BK.out 5).trans rfl; have hc6 : w3.cell? ⟨gb, 6, none⟩ = some (.int .i64 d) := (blk_cell BK.out 6).trans rfl; have hc7 : w3.cell? ⟨gb, 7, none⟩ = some (.int .i64 u) := (blk_cell BK.out 7).trans rfl; have hc8 : w3.cell? ⟨gb, 8, none⟩ = some (.int .i64 v) := (blk_cell BK.out 8).trans rfl))
      go_ret2
      exact ⟨_, rfl, HO.out, HB.out⟩
    · rw [if_neg h0]
      have f0 : (m == 0) = false := beq_eq_false_iff_ne.mpr h0
      obtain ⟨⟨q1, q2⟩, hq⟩ : ∃ x, x = sealS (dinL m l s a b c d u v) := ⟨_, rfl⟩
      rw [← hq]
      have HSL := Aside0.mk ((rsealD_f m l s a b c d u v).trans (by rw [← hq]))
      have HN0 := Aside0.mk (num_0 (m := m) (by omega) (by omega))
      have HN1 := Aside0.mk (num_1 (m := m) (l := l) (by omega) (by omega))
      have HN2 := Aside0.mk (num_2 (m := m) (l := l) (s := s) (by omega) (by omega))
      have HN3 := Aside0.mk (num_3 (m := m) (l := l) (s := s) (a := a) (by omega) (by omega))
      have HN4 := Aside0.mk (num_4 (m := m) (l := l) (s := s) (a := a) (b := b) (by omega) (by omega))
      have HN5 := Aside0.mk (num_5 (m := m) (l := l) (s := s) (a := a) (b := b) (c := c) (by omega) (by omega))
      have HN6 := Aside0.mk (num_6 (m := m) (l := l) (s := s) (a := a) (b := b) (c := c) (d := d) (by omega) (by omega))
      have HN7 := Aside0.mk (num_7 (m := m) (l := l) (s := s) (a := a) (b := b) (c := c) (d := d) (u := u) (by omega) (by omega))
      have HN8 := Aside0.mk (num_8 (m := m) (l := l) (s := s) (a := a) (b := b) (c := c) (d := d) (u := u) (v := v) (by omega) (by omega))
      clear h0 hok hrg hq
      go_enter Try.func33, Try.ntmps33
      go_wp2_with (first
        | ((with_reducible refine gate_dst (N := 1) rfl ?_); refine box_event ?hg (N := 1) ?hd (cs := dn m l s a b c d u v) (t := 59) ?hr ?_; (case hd => rfl); (case hg => rfl); (case hr => first | (go_simp; done) | (go_simp; rfl)); intro gb hg w1 hbox hb; have n0_ := Aside0.mk (below_step (w2 := w1) (by repeat (first | (with_reducible first | exact HB.out | apply below_alloc | apply pw_below_drewN | apply below_drew1) | exact HB.out)) hb); have BK := Aside0.mk hbox; clear HB; have HB := n0_; clear n0_ hb hbox hg; have hc0 : w1.cell? ⟨gb, 0, none⟩ = some (.int .i64 m) := (blk_cell BK.out 0).trans rfl; have hc1 : w1.cell? ⟨gb, 1, none⟩ = some (.int .i64 l) := (blk_cell BK.out 1).trans rfl; have hc2 : w1.cell? ⟨gb, 2, none⟩ = some (.int .i64 s) := (blk_cell BK.out 2).trans rfl; have hc3 : w1.cell? ⟨gb, 3, none⟩ = some (.int .i64 a) := (blk_cell BK.out 3).trans rfl; have hc4 : w1.cell? ⟨gb, 4, none⟩ = some (.int .i64 b) := (blk_cell BK.out 4).trans rfl; have hc5 : w1.cell? ⟨gb, 5, none⟩ = some (.int .i64 c) := (blk_cell BK.out 5).trans rfl; have hc6 : w1.cell? ⟨gb, 6, none⟩ = some (.int .i64 d) := (blk_cell BK.out 6).trans rfl; have hc7 : w1.cell? ⟨gb, 7, none⟩ = some (.int .i64 u) := (blk_cell BK.out 7).trans rfl; have hc8 : w1.cell? ⟨gb, 8, none⟩ = some (.int .i64 v) := (blk_cell BK.out 8).trans rfl)
        | ((with_reducible refine gate_dst (N := 7) rfl ?_); refine Gw.load_event rfl 59 (.tmp 1) rfl gb (dn m l s a b c d u v) 59 _ rfl (by (with_reducible repeat (first | refine blk_drewN ?_ _ | refine blk_drew ?_ | refine blk_alloc ?_ _)); exact BK.out) hu59 rfl (by kernel_rfl) ?_)
        | (go_at_call 58; clear hc0 hc1 hc2 hc3 hc4 hc5 hc6 hc7 hc8; refine (RmayDinode_call m l s a b c d u v _).mono ?_; rintro e w2 ⟨he, hb⟩; rw [HM.out] at he; subst he; have n0_ := Aside0.mk (blk_below (w1 := w2) (g := gb) (o := .cells (dn m l s a b c d u v) 59 (0, 0)) (by (with_reducible repeat (first | refine blk_drewN ?_ _ | refine blk_drew ?_ | refine blk_alloc ?_ _)); exact BK.out) hb); clear BK; have BK := n0_; clear n0_; have n0_ := Aside0.mk (below_step (w2 := w2) (by repeat (first | (with_reducible first | exact HB.out | apply below_alloc | apply pw_below_drewN | apply below_drew1) | exact HB.out)) hb); clear HB; have HB := n0_; clear n0_; clear hb; have hc0 : w2.cell? ⟨gb, 0, none⟩ = some (.int .i64 m) := (blk_cell BK.out 0).trans rfl; have hc1 : w2.cell? ⟨gb, 1, none⟩ = some (.int .i64 l) := (blk_cell BK.out 1).trans rfl; have hc2 : w2.cell? ⟨gb, 2, none⟩ = some (.int .i64 s) := (blk_cell BK.out 2).trans rfl; have hc3 : w2.cell? ⟨gb, 3, none⟩ = some (.int .i64 a) := (blk_cell BK.out 3).trans rfl; have hc4 : w2.cell? ⟨gb, 4, none⟩ = some (.int .i64 b) := (blk_cell BK.out 4).trans rfl; have hc5 : w2.cell? ⟨gb, 5, none⟩ = some (.int .i64 c) := (blk_cell BK.out 5).trans rfl; have hc6 : w2.cell? ⟨gb, 6, none⟩ = some (.int .i64 d) := (blk_cell BK.out 6).trans rfl; have hc7 : w2.cell? ⟨gb, 7, none⟩ = some (.int .i64 u) := (blk_cell BK.out 7).trans rfl; have hc8 : w2.cell? ⟨gb, 8, none⟩ = some (.int .i64 v) := (blk_cell BK.out 8).trans rfl)
        | ((with_reducible refine gate_dst (N := 10) rfl ?_); clear hc0 hc1 hc2 hc3 hc4 hc5 hc6 hc7 hc8; refine Kd.R_make (Kd.int .u8) _ 5 rfl (N := 10) rfl 26 _ _ rfl 32 rfl rfl Try.underlying26 (.int .u8 0) 1 Gw.infou8 rfl (by decide) (by omega) 0 (ok := fun _ => True) (okp := fun _ => True) rfl (fun _ hk => hk) trivial (by omega) (by omega) (Below.refl _ _) (Nat.le_refl _) ?_; intro v3 w3 ho hb hg_ hnew_; clear hg_ hnew_; have HO := Aside0.mk (show Kd.R (Kd.int .u8) 5 w3 w.heap.size (fun _ => True) v3 P0 from Kd.R_lower ho (below_size (by repeat (first | (with_reducible first | exact HB.out | apply below_alloc | apply pw_below_drewN | apply below_drew1) | exact HB.out)))); have n0_ := Aside0.mk (blk_below (w1 := w3) (g := gb) (o := .cells (dn m l s a b c d u v) 59 (0, 0)) (by (with_reducible repeat (first | refine blk_drewN ?_ _ | refine blk_drew ?_ | refine blk_alloc ?_ _)); exact BK.out) hb); clear BK; have BK := n0_; clear n0_; have n0_ := Aside0.mk (below_step (w2 := w3) (by repeat (first | (with_reducible first | exact HB.out | apply below_alloc | apply pw_below_drewN | apply below_drew1) | exact HB.out)) hb); clear HB; have HB := n0_; clear n0_; clear hb ho; obtain ⟨A0, c0, e0⟩ := Kd.R_slice HO.out; subst e0; have hc0 : w3.cell? ⟨gb, 0, none⟩ = some (.int .i64 m) := (blk_cell BK.out 0).trans rfl; have hc1 : w3.cell? ⟨gb, 1, none⟩ = some (.int .i64 l) := (blk_cell BK.out 1).trans rfl; have hc2 : w3.cell? ⟨gb, 2, none⟩ = some (.int .i64 s) := (blk_cell BK.out 2).trans rfl; have hc3 : w3.cell? ⟨gb, 3, none⟩ = some (.int .i64 a) := (blk_cell BK.out 3).trans rfl; have hc4 : w3.cell? ⟨gb, 4, none⟩ = some (.int .i64 b) := (blk_cell BK.out 4).trans rfl; have hc5 : w3.cell? ⟨gb, 5, none⟩ = some (.int .i64 c) := (blk_cell BK.out 5).trans rfl; have hc6 : w3.cell? ⟨gb, 6, none⟩ = some (.int .i64 d) := (blk_cell BK.out 6).trans rfl; have hc7 : w3.cell? ⟨gb, 7, none⟩ = some (.int .i64 u) := (blk_cell BK.out 7).trans rfl; have hc8 : w3.cell? ⟨gb, 8, none⟩ = some (.int .i64 v) := (blk_cell BK.out 8).trans rfl)
        | (have n_ := HN0.out; clear n_; go_at_call 42; clear hc0 hc1 hc2 hc3 hc4 hc5 hc6 hc7 hc8; refine (bollardref03_number.calls 600 A0 c0 P0 0 1 m (P1 m) _ (by repeat (first | exact (Kd.R_reads' HO.out).2.2 | refine Kd.C_drewN ?_ _ | refine Kd.C_drew ?_)) (Kd.R_reads' HO.out).2.1 HN0.out).mono ?_; rintro e w4 ⟨v9, rfl, ho, hb⟩; have n0_ := Aside0.mk (Kd.R_lower ho (below_size (by repeat (first | (with_reducible first | exact HB.out | apply below_alloc | apply pw_below_drewN | apply below_drew1) | exact HB.out)))); have n0_ := Aside0.mk (blk_below (w1 := w4) (g := gb) (o := .cells (dn m l s a b c d u v) 59 (0, 0)) (by (with_reducible repeat (first | refine blk_drewN ?_ _ | refine blk_drew ?_ | refine blk_alloc ?_ _)); exact BK.out) hb); clear BK; have BK := n0_; clear n0_; have n0_ := Aside0.mk (below_step (w2 := w4) (by repeat (first | (with_reducible first | exact HB.out | apply below_alloc | apply pw_below_drewN | apply below_drew1) | exact HB.out)) hb); clear HB; have HB := n0_; clear n0_; clear HO ho hb HN0; have HO := n0_; clear n0_; obtain ⟨A1, c1, e9⟩ := Kd.R_slice HO.out; subst e9; have hc0 : w4.cell? ⟨gb, 0, none⟩ = some (.int .i64 m) := (blk_cell BK.out 0).trans rfl; have hc1 : w4.cell? ⟨gb, 1, none⟩ = some (.int .i64 l) := (blk_cell BK.out 1).trans rfl; have hc2 : w4.cell? ⟨gb, 2, none⟩ = some (.int .i64 s) := (blk_cell BK.out 2).trans rfl; have hc3 : w4.cell? ⟨gb, 3, none⟩ = some (.int .i64 a) := (blk_cell BK.out 3).trans rfl; have hc4 : w4.cell? ⟨gb, 4, none⟩ = some (.int .i64 b) := (blk_cell BK.out 4).trans rfl; have hc5 : w4.cell? ⟨gb, 5, none⟩ = some (.int .i64 c) := (blk_cell BK.out 5).trans rfl; have hc6 : w4.cell? ⟨gb, 6, none⟩ = some (.int .i64 d) := (blk_cell BK.out 6).trans rfl; have hc7 : w4.cell? ⟨gb, 7, none⟩ = some (.int .i64 u) := (blk_cell BK.out 7).trans rfl; have hc8 : w4.cell? ⟨gb, 8, none⟩ = some (.int .i64 v) := (blk_cell BK.out 8).trans rfl)
        | (have n_ := HN1.out; clear n_; go_at_call 42; clear hc0 hc1 hc2 hc3 hc4 hc5 hc6 hc7 hc8; refine (bollardref03_number.calls 600 A1 c1 (P1 m) 2 2 l (P2 m l) _ (by repeat (first | exact (Kd.R_reads' HO.out).2.2 | refine Kd.C_drewN ?_ _ | refine Kd.C_drew ?_)) (Kd.R_reads' HO.out).2.1 HN1.out).mono ?_; rintro e w5 ⟨v9, rfl, ho, hb⟩; have n0_ := Aside0.mk (Kd.R_lower ho (below_size (by repeat (first | (with_reducible first | exact HB.out | apply below_alloc | apply pw_below_drewN | apply below_drew1) | exact HB.out)))); have n0_ := Aside0.mk (blk_below (w1 := w5) (g := gb) (o := .cells (dn m l s a b c d u v) 59 (0, 0)) (by (with_reducible repeat (first | refine blk_drewN ?_ _ | refine blk_drew ?_ | refine blk_alloc ?_ _)); exact BK.out) hb); clear BK; have BK := n0_; clear n0_; have n0_ := Aside0.mk (below_step (w2 := w5) (by repeat (first | (with_reducible first | exact HB.out | apply below_alloc | apply pw_below_drewN | apply below_drew1) | exact HB.out)) hb); clear HB; have HB := n0_; clear n0_; clear HO ho hb HN1; have HO := n0_; clear n0_; obtain ⟨A2, c2, e9⟩ := Kd.R_slice HO.out; subst e9; have hc0 : w5.cell? ⟨gb, 0, none⟩ = some (.int .i64 m) := (blk_cell BK.out 0).trans rfl; have hc1 : w5.cell? ⟨gb, 1, none⟩ = some (.int .i64 l) := (blk_cell BK.out 1).trans rfl; have hc2 : w5.cell? ⟨gb, 2, none⟩ = some (.int .i64 s) := (blk_cell BK.out 2).trans rfl; have hc3 : w5.cell? ⟨gb, 3, none⟩ = some (.int .i64 a) := (blk_cell BK.out 3).trans rfl; have hc4 : w5.cell? ⟨gb, 4, none⟩ = some (.int .i64 b) := (blk_cell BK.out 4).trans rfl; have hc5 : w5.cell? ⟨gb, 5, none⟩ = some (.int .i64 c) := (blk_cell BK.out 5).trans rfl; have hc6 : w5.cell? ⟨gb, 6, none⟩ = some (.int .i64 d) := (blk_cell BK.out 6).trans rfl; have hc7 : w5.cell? ⟨gb, 7, none⟩ = some (.int .i64 u) := (blk_cell BK.out 7).trans rfl; have hc8 : w5.cell? ⟨gb, 8, none⟩ = some (.int .i64 v) := (blk_cell BK.out 8).trans rfl)
        | (have n_ := HN2.out; clear n_; go_at_call 42; clear hc0 hc1 hc2 hc3 hc4 hc5 hc6 hc7 hc8; refine (bollardref03_number.calls 600 A2 c2 (P2 m l) 4 4 s (P3 m l s) _ (by repeat (first | exact (Kd.R_reads' HO.out).2.2 | refine Kd.C_drewN ?_ _ | refine Kd.C_drew ?_)) (Kd.R_reads' HO.out).2.1 HN2.out).mono ?_; rintro e w6 ⟨v9, rfl, ho, hb⟩; have n0_ := Aside0.mk (Kd.R_lower ho (below_size (by repeat (first | (with_reducible first | exact HB.out | apply below_alloc | apply pw_below_drewN | apply below_drew1) | exact HB.out)))); have n0_ := Aside0.mk (blk_below (w1 := w6) (g := gb) (o := .cells (dn m l s a b c d u v) 59 (0, 0)) (by (with_reducible repeat (first | refine blk_drewN ?_ _ | refine blk_drew ?_ | refine blk_alloc ?_ _)); exact BK.out) hb); clear BK; have BK := n0_; clear n0_; have n0_ := Aside0.mk (below_step (w2 := w6) (by repeat (first | (with_reducible first | exact HB.out | apply below_alloc | apply pw_below_drewN | apply below_drew1) | exact HB.out)) hb); clear HB; have HB := n0_; clear n0_; clear HO ho hb HN2; have HO := n0_; clear n0_; obtain ⟨A3, c3, e9⟩ := Kd.R_slice HO.out; subst e9; have hc0 : w6.cell? ⟨gb, 0, none⟩ = some (.int .i64 m) := (blk_cell BK.out 0).trans rfl; have hc1 : w6.cell? ⟨gb, 1, none⟩ = some (.int .i64 l) := (blk_cell BK.out 1).trans rfl; have hc2 : w6.cell? ⟨gb, 2, none⟩ = some (.int .i64 s) := (blk_cell BK.out 2).trans rfl; have hc3 : w6.cell? ⟨gb, 3, none⟩ = some (.int .i64 a) := (blk_cell BK.out 3).trans rfl; have hc4 : w6.cell? ⟨gb, 4, none⟩ = some (.int .i64 b) := (blk_cell BK.out 4).trans rfl; have hc5 : w6.cell? ⟨gb, 5, none⟩ = some (.int .i64 c) := (blk_cell BK.out 5).trans rfl; have hc6 : w6.cell? ⟨gb, 6, none⟩ = some (.int .i64 d) := (blk_cell BK.out 6).trans rfl; have hc7 : w6.cell? ⟨gb, 7, none⟩ = some (.int .i64 u) := (blk_cell BK.out 7).trans rfl; have hc8 : w6.cell? ⟨gb, 8, none⟩ = some (.int .i64 v) := (blk_cell BK.out 8).trans rfl))
      clear hc0 hc1 hc2 hc3 hc4 hc5 hc6 hc7 hc8
      go_loopw [4, 29] (fun v4 v29 w' => ∃ (L : List Int) (x : Int), v29 = .int .i64 x ∧ Aside0 ((x = 0 ∧ L = (P3 m l s)) ∨ (x = 1 ∧ L = (P4 m l s a)) ∨ (x = 2 ∧ L = (P5 m l s a b)) ∨ (x = 3 ∧ L = (P6 m l s a b c)) ∨ (x = 4 ∧ L = (P7 m l s a b c d))) ∧ Aside0 (Kd.R (Kd.int .u8) 5 w' w.heap.size (fun _ => True) v4 L) ∧ Aside0 (w'.heap[gb]? = some (.cells (dn m l s a b c d u v) 59 (0, 0))) ∧ Aside0 (Below w.heap.size w w')) (fun _ v29 _ => (4 - intOf v29).toNat)
      case atStart => exact ⟨_, 0, rfl, ⟨.inl ⟨rfl, rfl⟩⟩, HO, ⟨by (with_reducible repeat (first | refine blk_drewN ?_ _ | refine blk_drew ?_ | refine blk_alloc ?_ _)); exact BK.out⟩, ⟨by repeat (first | (with_reducible first | exact HB.out | apply below_alloc | apply pw_below_drewN | apply below_drew1) | exact HB.out)⟩⟩
      case round =>
        clear HO HB BK
        obtain ⟨L, x, rfl, HX, HO, BK, HB⟩ := hrel
        have HX2 := HX.out
        clear HX
        obtain ⟨A7, c7, e7⟩ := Kd.R_slice HO.out
        subst e7
        rcases HX2 with ⟨rfl, rfl⟩ | ⟨rfl, rfl⟩ | ⟨rfl, rfl⟩ | ⟨rfl, rfl⟩ | ⟨rfl, rfl⟩
        · have hix := dn_ix0 a b c d
          have hc0 : wr.cell? ⟨gb, 0, none⟩ = some (.int .i64 m) := (blk_cell BK.out 0).trans rfl
          have hc1 : wr.cell? ⟨gb, 1, none⟩ = some (.int .i64 l) := (blk_cell BK.out 1).trans rfl
          have hc2 : wr.cell? ⟨gb, 2, none⟩ = some (.int .i64 s) := (blk_cell BK.out 2).trans rfl
          have hc3 : wr.cell? ⟨gb, 3, none⟩ = some (.int .i64 a) := (blk_cell BK.out 3).trans rfl
          have hc4 : wr.cell? ⟨gb, 4, none⟩ = some (.int .i64 b) := (blk_cell BK.out 4).trans rfl
          have hc5 : wr.cell? ⟨gb, 5, none⟩ = some (.int .i64 c) := (blk_cell BK.out 5).trans rfl
          have hc6 : wr.cell? ⟨gb, 6, none⟩ = some (.int .i64 d) := (blk_cell BK.out 6).trans rfl
          have hc7 : wr.cell? ⟨gb, 7, none⟩ = some (.int .i64 u) := (blk_cell BK.out 7).trans rfl
          have hc8 : wr.cell? ⟨gb, 8, none⟩ = some (.int .i64 v) := (blk_cell BK.out 8).trans rfl
          go_wp2_with (first
            | (have n_ := HN3.out; clear n_; go_at_call 42; clear hc0 hc1 hc2 hc3 hc4 hc5 hc6 hc7 hc8; refine (bollardref03_number.calls 600 A7 c7 (P3 m l s) 8 2 a (P4 m l s a) _ (by repeat (first | exact (Kd.R_reads' HO.out).2.2 | refine Kd.C_drewN ?_ _ | refine Kd.C_drew ?_)) (Kd.R_reads' HO.out).2.1 HN3.out).mono ?_; rintro e w7 ⟨v9, rfl, ho, hb⟩; have n0_ := Aside0.mk (Kd.R_lower ho (below_size (by repeat (first | (with_reducible first | exact HB.out | apply below_alloc | apply pw_below_drewN | apply below_drew1) | exact HB.out)))); have n0_ := Aside0.mk (blk_below (w1 := w7) (g := gb) (o := .cells (dn m l s a b c d u v) 59 (0, 0)) (by (with_reducible repeat (first | refine blk_drewN ?_ _ | refine blk_drew ?_ | refine blk_alloc ?_ _)); exact BK.out) hb); clear BK; have BK := n0_; clear n0_; have n0_ := Aside0.mk (below_step (w2 := w7) (by repeat (first | (with_reducible first | exact HB.out | apply below_alloc | apply pw_below_drewN | apply below_drew1) | exact HB.out)) hb); clear HB; have HB := n0_; clear n0_; clear HO ho hb HN3; have HO := n0_; clear n0_; obtain ⟨A6, c6, e9⟩ := Kd.R_slice HO.out; subst e9; have hc0 : w7.cell? ⟨gb, 0, none⟩ = some (.int .i64 m) := (blk_cell BK.out 0).trans rfl; have hc1 : w7.cell? ⟨gb, 1, none⟩ = some (.int .i64 l) := (blk_cell BK.out 1).trans rfl; have hc2 : w7.cell? ⟨gb, 2, none⟩ = some (.int .i64 s) := (blk_cell BK.out 2).trans rfl; have hc3 : w7.cell? ⟨gb, 3, none⟩ = some (.int .i64 a) := (blk_cell BK.out 3).trans rfl; have hc4 : w7.cell? ⟨gb, 4, none⟩ = some (.int .i64 b) := (blk_cell BK.out 4).trans rfl; have hc5 : w7.cell? ⟨gb, 5, none⟩ = some (.int .i64 c) := (blk_cell BK.out 5).trans rfl; have hc6 : w7.cell? ⟨gb, 6, none⟩ = some (.int .i64 d) := (blk_cell BK.out 6).trans rfl; have hc7 : w7.cell? ⟨gb, 7, none⟩ = some (.int .i64 u) := (blk_cell BK.out 7).trans rfl; have hc8 : w7.cell? ⟨gb, 8, none⟩ = some (.int .i64 v) := (blk_cell BK.out 8).trans rfl))
          go_roundw
          case measure => simp [intOf]
          case rel => exact ⟨_, 1, by first | rfl | simp, ⟨.inr (.inl ⟨rfl, rfl⟩)⟩, HO, ⟨by (with_reducible repeat (first | refine blk_drewN ?_ _ | refine blk_drew ?_ | refine blk_alloc ?_ _)); exact BK.out⟩, ⟨by repeat (first | (with_reducible first | exact HB.out | apply below_alloc | apply pw_below_drewN | apply below_drew1) | exact HB.out)⟩⟩
        · have hix := dn_ix1 a b c d
          have hc0 : wr.cell? ⟨gb, 0, none⟩ = some (.int .i64 m) := (blk_cell BK.out 0).trans rfl
          have hc1 : wr.cell? ⟨gb, 1, none⟩ = some (.int .i64 l) := (blk_cell BK.out 1).trans rfl
          have hc2 : wr.cell? ⟨gb, 2, none⟩ = some (.int .i64 s) := (blk_cell BK.out 2).trans rfl
          have hc3 : wr.cell? ⟨gb, 3, none⟩ = some (.int .i64 a) := (blk_cell BK.out 3).trans rfl
          have hc4 : wr.cell? ⟨gb, 4, none⟩ = some (.int .i64 b) := (blk_cell BK.out 4).trans rfl
          have hc5 : wr.cell? ⟨gb, 5, none⟩ = some (.int .i64 c) := (blk_cell BK.out 5).trans rfl
          have hc6 : wr.cell? ⟨gb, 6, none⟩ = some (.int .i64 d) := (blk_cell BK.out 6).trans rfl
          have hc7 : wr.cell? ⟨gb, 7, none⟩ = some (.int .i64 u) := (blk_cell BK.out 7).trans rfl
          have hc8 : wr.cell? ⟨gb, 8, none⟩ = some (.int .i64 v) := (blk_cell BK.out 8).trans rfl
          go_wp2_with (first
            | (have n_ := HN4.out; clear n_; go_at_call 42; clear hc0 hc1 hc2 hc3 hc4 hc5 hc6 hc7 hc8; refine (bollardref03_number.calls 600 A7 c7 (P4 m l s a) 10 2 b (P5 m l s a b) _ (by repeat (first | exact (Kd.R_reads' HO.out).2.2 | refine Kd.C_drewN ?_ _ | refine Kd.C_drew ?_)) (Kd.R_reads' HO.out).2.1 HN4.out).mono ?_; rintro e w7 ⟨v9, rfl, ho, hb⟩; have n0_ := Aside0.mk (Kd.R_lower ho (below_size (by repeat (first | (with_reducible first | exact HB.out | apply below_alloc | apply pw_below_drewN | apply below_drew1) | exact HB.out)))); have n0_ := Aside0.mk (blk_below (w1 := w7) (g := gb) (o := .cells (dn m l s a b c d u v) 59 (0, 0)) (by (with_reducible repeat (first | refine blk_drewN ?_ _ | refine blk_drew ?_ | refine blk_alloc ?_ _)); exact BK.out) hb); clear BK; have BK := n0_; clear n0_; have n0_ := Aside0.mk (below_step (w2 := w7) (by repeat (first | (with_reducible first | exact HB.out | apply below_alloc | apply pw_below_drewN | apply below_drew1) | exact HB.out)) hb); clear HB; have HB := n0_; clear n0_; clear HO ho hb HN4; have HO := n0_; clear n0_; obtain ⟨A6, c6, e9⟩ := Kd.R_slice HO.out; subst e9; have hc0 : w7.cell? ⟨gb, 0, none⟩ = some (.int .i64 m) := (blk_cell BK.out 0).trans rfl; have hc1 : w7.cell? ⟨gb, 1, none⟩ = some (.int .i64 l) := (blk_cell BK.out 1).trans rfl; have hc2 : w7.cell? ⟨gb, 2, none⟩ = some (.int .i64 s) := (blk_cell BK.out 2).trans rfl; have hc3 : w7.cell? ⟨gb, 3, none⟩ = some (.int .i64 a) := (blk_cell BK.out 3).trans rfl; have hc4 : w7.cell? ⟨gb, 4, none⟩ = some (.int .i64 b) := (blk_cell BK.out 4).trans rfl; have hc5 : w7.cell? ⟨gb, 5, none⟩ = some (.int .i64 c) := (blk_cell BK.out 5).trans rfl; have hc6 : w7.cell? ⟨gb, 6, none⟩ = some (.int .i64 d) := (blk_cell BK.out 6).trans rfl; have hc7 : w7.cell? ⟨gb, 7, none⟩ = some (.int .i64 u) := (blk_cell BK.out 7).trans rfl; have hc8 : w7.cell? ⟨gb, 8, none⟩ = some (.int .i64 v) := (blk_cell BK.out 8).trans rfl))
          go_roundw
          case measure => simp [intOf]
          case rel => exact ⟨_, 2, by first | rfl | simp, ⟨.inr (.inr (.inl ⟨rfl, rfl⟩))⟩, HO, ⟨by (with_reducible repeat (first | refine blk_drewN ?_ _ | refine blk_drew ?_ | refine blk_alloc ?_ _)); exact BK.out⟩, ⟨by repeat (first | (with_reducible first | exact HB.out | apply below_alloc | apply pw_below_drewN | apply below_drew1) | exact HB.out)⟩⟩
        · have hix := dn_ix2 a b c d
          have hc0 : wr.cell? ⟨gb, 0, none⟩ = some (.int .i64 m) := (blk_cell BK.out 0).trans rfl
          have hc1 : wr.cell? ⟨gb, 1, none⟩ = some (.int .i64 l) := (blk_cell BK.out 1).trans rfl
          have hc2 : wr.cell? ⟨gb, 2, none⟩ = some (.int .i64 s) := (blk_cell BK.out 2).trans rfl
          have hc3 : wr.cell? ⟨gb, 3, none⟩ = some (.int .i64 a) := (blk_cell BK.out 3).trans rfl
          have hc4 : wr.cell? ⟨gb, 4, none⟩ = some (.int .i64 b) := (blk_cell BK.out 4).trans rfl
          have hc5 : wr.cell? ⟨gb, 5, none⟩ = some (.int .i64 c) := (blk_cell BK.out 5).trans rfl
          have hc6 : wr.cell? ⟨gb, 6, none⟩ = some (.int .i64 d) := (blk_cell BK.out 6).trans rfl
          have hc7 : wr.cell? ⟨gb, 7, none⟩ = some (.int .i64 u) := (blk_cell BK.out 7).trans rfl
          have hc8 : wr.cell? ⟨gb, 8, none⟩ = some (.int .i64 v) := (blk_cell BK.out 8).trans rfl
          go_wp2_with (first
            | (have n_ := HN5.out; clear n_; go_at_call 42; clear hc0 hc1 hc2 hc3 hc4 hc5 hc6 hc7 hc8; refine (bollardref03_number.calls 600 A7 c7 (P5 m l s a b) 12 2 c (P6 m l s a b c) _ (by repeat (first | exact (Kd.R_reads' HO.out).2.2 | refine Kd.C_drewN ?_ _ | refine Kd.C_drew ?_)) (Kd.R_reads' HO.out).2.1 HN5.out).mono ?_; rintro e w7 ⟨v9, rfl, ho, hb⟩; have n0_ := Aside0.mk (Kd.R_lower ho (below_size (by repeat (first | (with_reducible first | exact HB.out | apply below_alloc | apply pw_below_drewN | apply below_drew1) | exact HB.out)))); have n0_ := Aside0.mk (blk_below (w1 := w7) (g := gb) (o := .cells (dn m l s a b c d u v) 59 (0, 0)) (by (with_reducible repeat (first | refine blk_drewN ?_ _ | refine blk_drew ?_ | refine blk_alloc ?_ _)); exact BK.out) hb); clear BK; have BK := n0_; clear n0_; have n0_ := Aside0.mk (below_step (w2 := w7) (by repeat (first | (with_reducible first | exact HB.out | apply below_alloc | apply pw_below_drewN | apply below_drew1) | exact HB.out)) hb); clear HB; have HB := n0_; clear n0_; clear HO ho hb HN5; have HO := n0_; clear n0_; obtain ⟨A6, c6, e9⟩ := Kd.R_slice HO.out; subst e9; have hc0 : w7.cell? ⟨gb, 0, none⟩ = some (.int .i64 m) := (blk_cell BK.out 0).trans rfl; have hc1 : w7.cell? ⟨gb, 1, none⟩ = some (.int .i64 l) := (blk_cell BK.out 1).trans rfl; have hc2 : w7.cell? ⟨gb, 2, none⟩ = some (.int .i64 s) := (blk_cell BK.out 2).trans rfl; have hc3 : w7.cell? ⟨gb, 3, none⟩ = some (.int .i64 a) := (blk_cell BK.out 3).trans rfl; have hc4 : w7.cell? ⟨gb, 4, none⟩ = some (.int .i64 b) := (blk_cell BK.out 4).trans rfl; have hc5 : w7.cell? ⟨gb, 5, none⟩ = some (.int .i64 c) := (blk_cell BK.out 5).trans rfl; have hc6 : w7.cell? ⟨gb, 6, none⟩ = some (.int .i64 d) := (blk_cell BK.out 6).trans rfl; have hc7 : w7.cell? ⟨gb, 7, none⟩ = some (.int .i64 u) := (blk_cell BK.out 7).trans rfl; have hc8 : w7.cell? ⟨gb, 8, none⟩ = some (.int .i64 v) := (blk_cell BK.out 8).trans rfl))
          go_roundw
          case measure => simp [intOf]
          case rel => exact ⟨_, 3, by first | rfl | simp, ⟨.inr (.inr (.inr (.inl ⟨rfl, rfl⟩)))⟩, HO, ⟨by (with_reducible repeat (first | refine blk_drewN ?_ _ | refine blk_drew ?_ | refine blk_alloc ?_ _)); exact BK.out⟩, ⟨by repeat (first | (with_reducible first | exact HB.out | apply below_alloc | apply pw_below_drewN | apply below_drew1) | exact HB.out)⟩⟩
        · have hix := dn_ix3 a b c d
          have hc0 : wr.cell? ⟨gb, 0, none⟩ = some (.int .i64 m) := (blk_cell BK.out 0).trans rfl
          have hc1 : wr.cell? ⟨gb, 1, none⟩ = some (.int .i64 l) := (blk_cell BK.out 1).trans rfl
          have hc2 : wr.cell? ⟨gb, 2, none⟩ = some (.int .i64 s) := (blk_cell BK.out 2).trans rfl
          have hc3 : wr.cell? ⟨gb, 3, none⟩ = some (.int .i64 a) := (blk_cell BK.out 3).trans rfl
          have hc4 : wr.cell? ⟨gb, 4, none⟩ = some (.int .i64 b) := (blk_cell BK.out 4).trans rfl
          have hc5 : wr.cell? ⟨gb, 5, none⟩ = some (.int .i64 c) := (blk_cell BK.out 5).trans rfl
          have hc6 : wr.cell? ⟨gb, 6, none⟩ = some (.int .i64 d) := (blk_cell BK.out 6).trans rfl
          have hc7 : wr.cell? ⟨gb, 7, none⟩ = some (.int .i64 u) := (blk_cell BK.out 7).trans rfl
          have hc8 : wr.cell? ⟨gb, 8, none⟩ = some (.int .i64 v) := (blk_cell BK.out 8).trans rfl
          go_wp2_with (first
            | (have n_ := HN6.out; clear n_; go_at_call 42; clear hc0 hc1 hc2 hc3 hc4 hc5 hc6 hc7 hc8; refine (bollardref03_number.calls 600 A7 c7 (P6 m l s a b c) 14 2 d (P7 m l s a b c d) _ (by repeat (first | exact (Kd.R_reads' HO.out).2.2 | refine Kd.C_drewN ?_ _ | refine Kd.C_drew ?_)) (Kd.R_reads' HO.out).2.1 HN6.out).mono ?_; rintro e w7 ⟨v9, rfl, ho, hb⟩; have n0_ := Aside0.mk (Kd.R_lower ho (below_size (by repeat (first | (with_reducible first | exact HB.out | apply below_alloc | apply pw_below_drewN | apply below_drew1) | exact HB.out)))); have n0_ := Aside0.mk (blk_below (w1 := w7) (g := gb) (o := .cells (dn m l s a b c d u v) 59 (0, 0)) (by (with_reducible repeat (first | refine blk_drewN ?_ _ | refine blk_drew ?_ | refine blk_alloc ?_ _)); exact BK.out) hb); clear BK; have BK := n0_; clear n0_; have n0_ := Aside0.mk (below_step (w2 := w7) (by repeat (first | (with_reducible first | exact HB.out | apply below_alloc | apply pw_below_drewN | apply below_drew1) | exact HB.out)) hb); clear HB; have HB := n0_; clear n0_; clear HO ho hb HN6; have HO := n0_; clear n0_; obtain ⟨A6, c6, e9⟩ := Kd.R_slice HO.out; subst e9; have hc0 : w7.cell? ⟨gb, 0, none⟩ = some (.int .i64 m) := (blk_cell BK.out 0).trans rfl; have hc1 : w7.cell? ⟨gb, 1, none⟩ = some (.int .i64 l) := (blk_cell BK.out 1).trans rfl; have hc2 : w7.cell? ⟨gb, 2, none⟩ = some (.int .i64 s) := (blk_cell BK.out 2).trans rfl; have hc3 : w7.cell? ⟨gb, 3, none⟩ = some (.int .i64 a) := (blk_cell BK.out 3).trans rfl; have hc4 : w7.cell? ⟨gb, 4, none⟩ = some (.int .i64 b) := (blk_cell BK.out 4).trans rfl; have hc5 : w7.cell? ⟨gb, 5, none⟩ = some (.int .i64 c) := (blk_cell BK.out 5).trans rfl; have hc6 : w7.cell? ⟨gb, 6, none⟩ = some (.int .i64 d) := (blk_cell BK.out 6).trans rfl; have hc7 : w7.cell? ⟨gb, 7, none⟩ = some (.int .i64 u) := (blk_cell BK.out 7).trans rfl; have hc8 : w7.cell? ⟨gb, 8, none⟩ = some (.int .i64 v) := (blk_cell BK.out 8).trans rfl))
          go_roundw
          case measure => simp [intOf]
          case rel => exact ⟨_, 4, by first | rfl | simp, ⟨.inr (.inr (.inr (.inr ⟨rfl, rfl⟩)))⟩, HO, ⟨by (with_reducible repeat (first | refine blk_drewN ?_ _ | refine blk_drew ?_ | refine blk_alloc ?_ _)); exact BK.out⟩, ⟨by repeat (first | (with_reducible first | exact HB.out | apply below_alloc | apply pw_below_drewN | apply below_drew1) | exact HB.out)⟩⟩
        · have hc0 : wr.cell? ⟨gb, 0, none⟩ = some (.int .i64 m) := (blk_cell BK.out 0).trans rfl
          have hc1 : wr.cell? ⟨gb, 1, none⟩ = some (.int .i64 l) := (blk_cell BK.out 1).trans rfl
          have hc2 : wr.cell? ⟨gb, 2, none⟩ = some (.int .i64 s) := (blk_cell BK.out 2).trans rfl
          have hc3 : wr.cell? ⟨gb, 3, none⟩ = some (.int .i64 a) := (blk_cell BK.out 3).trans rfl
          have hc4 : wr.cell? ⟨gb, 4, none⟩ = some (.int .i64 b) := (blk_cell BK.out 4).trans rfl
          have hc5 : wr.cell? ⟨gb, 5, none⟩ = some (.int .i64 c) := (blk_cell BK.out 5).trans rfl
          have hc6 : wr.cell? ⟨gb, 6, none⟩ = some (.int .i64 d) := (blk_cell BK.out 6).trans rfl
          have hc7 : wr.cell? ⟨gb, 7, none⟩ = some (.int .i64 u) := (blk_cell BK.out 7).trans rfl
          have hc8 : wr.cell? ⟨gb, 8, none⟩ = some (.int .i64 v) := (blk_cell BK.out 8).trans rfl
          go_wp2_with (first
            | (have n_ := HN7.out; clear n_; go_at_call 42; clear hc0 hc1 hc2 hc3 hc4 hc5 hc6 hc7 hc8; refine (bollardref03_number.calls 600 A7 c7 (P7 m l s a b c d) 16 2 u (P8 m l s a b c d u) _ (by repeat (first | exact (Kd.R_reads' HO.out).2.2 | refine Kd.C_drewN ?_ _ | refine Kd.C_drew ?_)) (Kd.R_reads' HO.out).2.1 HN7.out).mono ?_; rintro e w8 ⟨v9, rfl, ho, hb⟩; have n0_ := Aside0.mk (Kd.R_lower ho (below_size (by repeat (first | (with_reducible first | exact HB.out | apply below_alloc | apply pw_below_drewN | apply below_drew1) | exact HB.out)))); have n0_ := Aside0.mk (blk_below (w1 := w8) (g := gb) (o := .cells (dn m l s a b c d u v) 59 (0, 0)) (by (with_reducible repeat (first | refine blk_drewN ?_ _ | refine blk_drew ?_ | refine blk_alloc ?_ _)); exact BK.out) hb); clear BK; have BK := n0_; clear n0_; have n0_ := Aside0.mk (below_step (w2 := w8) (by repeat (first | (with_reducible first | exact HB.out | apply below_alloc | apply pw_below_drewN | apply below_drew1) | exact HB.out)) hb); clear HB; have HB := n0_; clear n0_; clear HO ho hb HN7; have HO := n0_; clear n0_; obtain ⟨A9, c9, e9⟩ := Kd.R_slice HO.out; subst e9; have hc0 : w8.cell? ⟨gb, 0, none⟩ = some (.int .i64 m) := (blk_cell BK.out 0).trans rfl; have hc1 : w8.cell? ⟨gb, 1, none⟩ = some (.int .i64 l) := (blk_cell BK.out 1).trans rfl; have hc2 : w8.cell? ⟨gb, 2, none⟩ = some (.int .i64 s) := (blk_cell BK.out 2).trans rfl; have hc3 : w8.cell? ⟨gb, 3, none⟩ = some (.int .i64 a) := (blk_cell BK.out 3).trans rfl; have hc4 : w8.cell? ⟨gb, 4, none⟩ = some (.int .i64 b) := (blk_cell BK.out 4).trans rfl; have hc5 : w8.cell? ⟨gb, 5, none⟩ = some (.int .i64 c) := (blk_cell BK.out 5).trans rfl; have hc6 : w8.cell? ⟨gb, 6, none⟩ = some (.int .i64 d) := (blk_cell BK.out 6).trans rfl; have hc7 : w8.cell? ⟨gb, 7, none⟩ = some (.int .i64 u) := (blk_cell BK.out 7).trans rfl; have hc8 : w8.cell? ⟨gb, 8, none⟩ = some (.int .i64 v) := (blk_cell BK.out 8).trans rfl)
            | (have n_ := HN8.out; clear n_; go_at_call 42; clear hc0 hc1 hc2 hc3 hc4 hc5 hc6 hc7 hc8; refine (bollardref03_number.calls 600 A9 c9 (P8 m l s a b c d u) 18 2 v (dinL m l s a b c d u v) _ (by repeat (first | exact (Kd.R_reads' HO.out).2.2 | refine Kd.C_drewN ?_ _ | refine Kd.C_drew ?_)) (Kd.R_reads' HO.out).2.1 HN8.out).mono ?_; rintro e w9 ⟨v9, rfl, ho, hb⟩; have n0_ := Aside0.mk (Kd.R_lower ho (below_size (by repeat (first | (with_reducible first | exact HB.out | apply below_alloc | apply pw_below_drewN | apply below_drew1) | exact HB.out)))); have n0_ := Aside0.mk (blk_below (w1 := w9) (g := gb) (o := .cells (dn m l s a b c d u v) 59 (0, 0)) (by (with_reducible repeat (first | refine blk_drewN ?_ _ | refine blk_drew ?_ | refine blk_alloc ?_ _)); exact BK.out) hb); clear BK; have BK := n0_; clear n0_; have n0_ := Aside0.mk (below_step (w2 := w9) (by repeat (first | (with_reducible first | exact HB.out | apply below_alloc | apply pw_below_drewN | apply below_drew1) | exact HB.out)) hb); clear HB; have HB := n0_; clear n0_; clear HO ho hb HN8; have HO := n0_; clear n0_; obtain ⟨A8, c8, e9⟩ := Kd.R_slice HO.out; subst e9; have hc0 : w9.cell? ⟨gb, 0, none⟩ = some (.int .i64 m) := (blk_cell BK.out 0).trans rfl; have hc1 : w9.cell? ⟨gb, 1, none⟩ = some (.int .i64 l) := (blk_cell BK.out 1).trans rfl; have hc2 : w9.cell? ⟨gb, 2, none⟩ = some (.int .i64 s) := (blk_cell BK.out 2).trans rfl; have hc3 : w9.cell? ⟨gb, 3, none⟩ = some (.int .i64 a) := (blk_cell BK.out 3).trans rfl; have hc4 : w9.cell? ⟨gb, 4, none⟩ = some (.int .i64 b) := (blk_cell BK.out 4).trans rfl; have hc5 : w9.cell? ⟨gb, 5, none⟩ = some (.int .i64 c) := (blk_cell BK.out 5).trans rfl; have hc6 : w9.cell? ⟨gb, 6, none⟩ = some (.int .i64 d) := (blk_cell BK.out 6).trans rfl; have hc7 : w9.cell? ⟨gb, 7, none⟩ = some (.int .i64 u) := (blk_cell BK.out 7).trans rfl; have hc8 : w9.cell? ⟨gb, 8, none⟩ = some (.int .i64 v) := (blk_cell BK.out 8).trans rfl)
            | (go_at_call 53; clear hc0 hc1 hc2 hc3 hc4 hc5 hc6 hc7 hc8; refine (bollardref01_Seal.calls 600 A8 c8 (dinL m l s a b c d u v) q1 q2 _ (by repeat (first | exact (Kd.R_reads' HO.out).2.2 | refine Kd.C_drewN ?_ _ | refine Kd.C_drew ?_)) (Kd.R_reads' HO.out).2.1 HSL.out).mono ?_; rintro e w10 ⟨v10, rfl, ho, hb⟩; have n0_ := Aside0.mk (Kd.R_lower ho (below_size (by repeat (first | (with_reducible first | exact HB.out | apply below_alloc | apply pw_below_drewN | apply below_drew1) | exact HB.out)))); have n0_ := Aside0.mk (below_step (w2 := w10) (by repeat (first | (with_reducible first | exact HB.out | apply below_alloc | apply pw_below_drewN | apply below_drew1) | exact HB.out)) hb); clear HB; have HB := n0_; clear n0_; clear HO ho hb; have HO := n0_; clear n0_))
          go_ret2
          exact ⟨_, rfl, HO.out, HB.out⟩
  · rw [if_neg hok]
    have HM := Aside0.mk (Bool.eq_false_iff.mpr hok)
    clear hok
    go_enter Try.func33, Try.ntmps33
    go_wp2_with (first
      | ((with_reducible refine gate_dst (N := 1) rfl ?_); refine box_event ?hg (N := 1) ?hd (cs := dn m l s a b c d u v) (t := 59) ?hr ?_; (case hd => rfl); (case hg => rfl); (case hr => first | (go_simp; done) | (go_simp; rfl)); intro gb hg w1 hbox hb; have n0_ := Aside0.mk (below_step (w2 := w1) (by repeat (first | (with_reducible first | exact HB.out | apply below_alloc | apply pw_below_drewN | apply below_drew1) | exact HB.out)) hb); have BK := Aside0.mk hbox; clear HB; have HB := n0_; clear n0_ hb hbox hg; have hc0 : w1.cell? ⟨gb, 0, none⟩ = some (.int .i64 m) := (blk_cell BK.out 0).trans rfl; have hc1 : w1.cell? ⟨gb, 1, none⟩ = some (.int .i64 l) := (blk_cell BK.out 1).trans rfl; have hc2 : w1.cell? ⟨gb, 2, none⟩ = some (.int .i64 s) := (blk_cell BK.out 2).trans rfl; have hc3 : w1.cell? ⟨gb, 3, none⟩ = some (.int .i64 a) := (blk_cell BK.out 3).trans rfl; have hc4 : w1.cell? ⟨gb, 4, none⟩ = some (.int .i64 b) := (blk_cell BK.out 4).trans rfl; have hc5 : w1.cell? ⟨gb, 5, none⟩ = some (.int .i64 c) := (blk_cell BK.out 5).trans rfl; have hc6 : w1.cell? ⟨gb, 6, none⟩ = some (.int .i64 d) := (blk_cell BK.out 6).trans rfl; have hc7 : w1.cell? ⟨gb, 7, none⟩ = some (.int .i64 u) := (blk_cell BK.out 7).trans rfl; have hc8 : w1.cell? ⟨gb, 8, none⟩ = some (.int .i64 v) := (blk_cell BK.out 8).trans rfl)
      | ((with_reducible refine gate_dst (N := 7) rfl ?_); refine Gw.load_event rfl 59 (.tmp 1) rfl gb (dn m l s a b c d u v) 59 _ rfl (by (with_reducible repeat (first | refine blk_drewN ?_ _ | refine blk_drew ?_ | refine blk_alloc ?_ _)); exact BK.out) hu59 rfl (by kernel_rfl) ?_)
      | (go_at_call 58; clear hc0 hc1 hc2 hc3 hc4 hc5 hc6 hc7 hc8; refine (RmayDinode_call m l s a b c d u v _).mono ?_; rintro e w2 ⟨he, hb⟩; rw [HM.out] at he; subst he; have n0_ := Aside0.mk (blk_below (w1 := w2) (g := gb) (o := .cells (dn m l s a b c d u v) 59 (0, 0)) (by (with_reducible repeat (first | refine blk_drewN ?_ _ | refine blk_drew ?_ | refine blk_alloc ?_ _)); exact BK.out) hb); clear BK; have BK := n0_; clear n0_; have n0_ := Aside0.mk (below_step (w2 := w2) (by repeat (first | (with_reducible first | exact HB.out | apply below_alloc | apply pw_below_drewN | apply below_drew1) | exact HB.out)) hb); clear HB; have HB := n0_; clear n0_; clear hb; have hc0 : w2.cell? ⟨gb, 0, none⟩ = some (.int .i64 m) := (blk_cell BK.out 0).trans rfl; have hc1 : w2.cell? ⟨gb, 1, none⟩ = some (.int .i64 l) := (blk_cell BK.out 1).trans rfl; have hc2 : w2.cell? ⟨gb, 2, none⟩ = some (.int .i64 s) := (blk_cell BK.out 2).trans rfl; have hc3 : w2.cell? ⟨gb, 3, none⟩ = some (.int .i64 a) := (blk_cell BK.out 3).trans rfl; have hc4 : w2.cell? ⟨gb, 4, none⟩ = some (.int .i64 b) := (blk_cell BK.out 4).trans rfl; have hc5 : w2.cell? ⟨gb, 5, none⟩ = some (.int .i64 c) := (blk_cell BK.out 5).trans rfl; have hc6 : w2.cell? ⟨gb, 6, none⟩ = some (.int .i64 d) := (blk_cell BK.out 6).trans rfl; have hc7 : w2.cell? ⟨gb, 7, none⟩ = some (.int .i64 u) := (blk_cell BK.out 7).trans rfl; have hc8 : w2.cell? ⟨gb, 8, none⟩ = some (.int .i64 v) := (blk_cell BK.out 8).trans rfl))
    go_ret2
    exact ⟨_, rfl, Kd.R_nil _ _ _ _ _, HB.out⟩
end Go.Proofs.Ytdaeanodgnmknaa.Ti
