-- Written by a program of this session (wip/tools)
import Derived.Test.YtdaeanodgnmknaaXLayoutEntriesx0
import Derived.Test.YtdaeanodgnmknaaXLayoutEntriesx2
import Derived.Test.YtdaeanodgnmknaaXLayoutEntriesx3
namespace Go.Proofs.Ytdaeanodgnmknaa.XLayoutEntries
open Go.RowKit Go.Proofs.YtdaeanodgnmknaaW.PrintWords Go.Proofs.YtdaeanodgnmknaaW.PrintLast Go.Proofs.YtdaeanodgnmknaaW.PrintMore
attribute [local go_sem] max2_int min2_int max_two min_two max_three min_three max_four min_four   -- for this text's walks alone
set_option linter.unusedVariables false
set_option linter.unusedSimpArgs false


/-! ### layout_DecodeEntry: function 18 -/
def layout_DecodeEntry.f (k : Nat) (l0 : List Int) : Option (Int × ByteArray × Int) := if (l0.length : Int) = 16 then (if ∀ x ∈ l0, 0 ≤ x ∧ x ≤ 255 then ((layout_EncodeEntry.f k (Rd.le (Rd.cutL l0 0 2)) (Rd.texV l0 3 0 (Rd.le (Rd.cutL l0 2 1)))).bind fun t => (if (Rd.texE l0 3 0 (Rd.le (Rd.cutL l0 2 1))) = 0 then (if t.2 = 0 then ((layout_same.f t.1 l0).bind fun s => (if s = true then some ((Rd.le (Rd.cutL l0 0 2)), (Rd.texV l0 3 0 (Rd.le (Rd.cutL l0 2 1))), 0) else some (0, ⟨#[]⟩, 6))) else some (0, ⟨#[]⟩, 6)) else some (0, ⟨#[]⟩, 6))) else none) else some (0, ⟨#[]⟩, 6)
theorem layout_DecodeEntry.mono : ∀ a0 k, LeO (layout_DecodeEntry.f k a0) (layout_DecodeEntry.f (k + 1) a0) := by
  intro a0 k
  unfold layout_DecodeEntry.f
  exact LeO.ite (LeO.ite (LeO.bind (layout_EncodeEntry.mono _ _ _) (fun _ => LeO.refl _)) (LeO.refl _)) (LeO.refl _)
set_option maxHeartbeats 8000000 in
set_option maxRecDepth 100000 in
theorem layout_DecodeEntry.calls (k : Nat) (A0 : Option Addr) (c0 : Nat) (l0 : List Int) (r1 : Int) (r2 : ByteArray) (r3 : Int) (w : World) (hr0 : Kd.C (Kd.int .u8) w A0 l0.length l0) (hc0 : l0.length ≤ c0) (h : layout_DecodeEntry.f k l0 = some (r1, r2, r3)) :
    Calls Try.prog 18 #[.slice A0 l0.length c0] w fun e w' => e = .returned (.tuple #[.agg #[.int .i64 r1, .string r2], .int .i64 r3]) ∧ Below w.heap.size w w' := by
  have hu36 := Try.underlying36
  unfold layout_DecodeEntry.f at h
  have HR0 := Aside0.mk hr0
  have HC0 := Aside0.mk hc0
  have HB := Aside0.mk (Below.refl w.heap.size w)
  clear hr0 hc0
  by_cases hlen : (l0.length : Int) = 16
  · rw [if_pos hlen] at h
    by_cases hwf : ∀ x ∈ l0, 0 ≤ x ∧ x ≤ 255
    · rw [if_pos hwf] at h
      obtain ⟨⟨t1, t2⟩, ht, h2⟩ := Option.bind_eq_some_iff.mp h
      have hb0 : ((l0.length : Int) != 16) = false := bne_eq_false_iff_eq.mpr hlen
      have HLEN := Aside0.mk (show l0.length = 16 by omega)
      have HWF := Aside0.mk hwf
      have HT := Aside0.mk ht
      have HN1 := Aside0.mk (show (0 : Int) + 2 = 2 by rfl)
      clear h ht hwf hlen
      by_cases he : (Rd.texE l0 3 0 (Rd.le (Rd.cutL l0 2 1))) = 0
      · rw [if_pos he] at h2
        have heb : ((Rd.texE l0 3 0 (Rd.le (Rd.cutL l0 2 1))) != 0) = false := bne_eq_false_iff_eq.mpr he
        clear he
        by_cases hq : t2 = 0
        · rw [if_pos hq] at h2
          have hqb : (t2 != 0) = false := bne_eq_false_iff_eq.mpr hq
          clear hq
          obtain ⟨s, hs, h3⟩ := Option.bind_eq_some_iff.mp h2
          have HS := Aside0.mk hs
          clear h2 hs
          by_cases hst : s = true
          · subst hst
            rw [if_pos rfl] at h3
            simp only [Option.some.injEq, Prod.mk.injEq] at h3
            obtain ⟨rfl, rfl, rfl⟩ := h3
            go_enter Try.func18, Try.ntmps18
            go_wp2_with (first
              | ((with_reducible refine gate_dst (N := 2) rfl ?_); refine box_event ?hg (N := 2) ?hd (cs := #[.int .i64 0, .string ⟨#[]⟩]) (t := 36) ?hr ?_; (case hd => rfl); (case hg => rfl); (case hr => first | (go_simp; done) | (go_simp; rfl)); intro gb hg w1 hbox hb; have n0_ := Aside0.mk (below_step (w2 := w1) (by repeat (first | (with_reducible first | exact HB.out | apply below_alloc | apply pw_below_drewN | apply below_drew1) | exact HB.out)) hb); have BKb := Aside0.mk hbox; have GE := Aside0.mk (show w.heap.size ≤ gb by rw [hg]; exact Nat.le_refl _); clear HB; have HB := n0_; clear n0_ hb hbox hg; have hcb0 : w1.cell? ⟨gb, 0, none⟩ = some (.int .i64 0) := (blk_cell BKb.out 0).trans rfl; have hcb1 : w1.cell? ⟨gb, 1, none⟩ = some (.string ⟨#[]⟩) := (blk_cell BKb.out 1).trans rfl; have hfb0 := blk_frozen BKb.out 0; have hfb1 := blk_frozen BKb.out 1)
              | (go_at_call 43; clear hcb0 hcb1 hfb0 hfb1; refine (Rd.Over_call A0 c0 l0 _ (Kd.C_below HR0.out (by repeat (first | exact HB.out | apply pw_below_drewN | apply below_drew1))) (by have := HLEN.out; omega)).mono ?_; rintro e w2 ⟨wi, g, rfl, hI, hb1, hs1, hg, _⟩; have HI2 := Aside0.mk hI; have n0_ := Aside0.mk (below_then (w2 := wi) (by repeat (first | exact HB.out | apply pw_below_drewN | apply below_drew1)) (Nat.le_trans GE.out (Nat.le_of_lt (blk_lt BKb.out))) hb1); have n1_ := Aside0.mk (blk_below (w1 := wi) (by (with_reducible repeat (first | refine blk_drewN ?_ _ | refine blk_drew ?_)); exact BKb.out) hb1); clear HB BKb; have HB := n0_; have BKi := n1_; clear hI hb1 hs1 hg n0_ n1_)
              | (have n_ := HN1.out; clear n_; go_at_call 44; refine (Rd.Take_ok wi g l0 0 2 _ (by repeat (first | (with_reducible exact HI2.out) | (with_reducible refine Rd.IsRd.drewN_ ?_ _) | (with_reducible refine Rd.IsRd.drew_ ?_) | refine Rd.IsRd.set_ ?_ _ _ _ (Nat.le_trans HI2.out.le_ (Nat.le_of_lt GG.out)) (Nat.ne_of_gt GG.out))) (by have := HLEN.out; omega) HWF.out (by omega) (by omega) (by omega) (by have := HLEN.out; omega)).mono ?_; rintro e w3 ⟨rfl, hI, _⟩; rw [HN1.out] at hI; clear HN1; have HI3 := Aside0.mk hI; clear hI)
              | ((with_reducible refine gate_dst (N := 5) rfl ?_); refine box_event ?hg (N := 5) ?hd (cs := #[.int .i64 0, .string ⟨#[]⟩]) (t := 36) ?hr ?_; (case hd => rfl); (case hg => rfl); (case hr => first | (go_simp; done) | (go_simp; rfl)); intro ge hge w4 hbox hb; have GG := Aside0.mk (show g < ge by rw [hge]; exact HI3.out.lt); have HI4 := Aside0.mk (Rd.IsRd.below (W1 := w4) (by repeat (first | exact HI3.out | refine Rd.IsRd.drewN_ ?_ _ | refine Rd.IsRd.drew_ ?_)) hb); have BKe := Aside0.mk hbox; clear hb hbox hge; have hce0 : w4.cell? ⟨ge, 0, none⟩ = some (.int .i64 0) := (blk_cell BKe.out 0).trans rfl; have hce1 : w4.cell? ⟨ge, 1, none⟩ = some (.string ⟨#[]⟩) := (blk_cell BKe.out 1).trans rfl; have hfe0 := blk_frozen BKe.out 0; have hfe1 := blk_frozen BKe.out 1)
              | (go_at_call 44; clear hce0 hce1 hfe0 hfe1; refine (Rd.Take_blk wi g l0 2 1 _ ge (.cells #[.int .i64 (Rd.le (Rd.cutL l0 0 2)), .string ⟨#[]⟩] 36 (0, 0)) (by repeat (first | (with_reducible exact HI4.out) | (with_reducible refine Rd.IsRd.drewN_ ?_ _) | (with_reducible refine Rd.IsRd.drew_ ?_) | refine Rd.IsRd.set_ ?_ _ _ _ (Nat.le_trans HI2.out.le_ (Nat.le_of_lt GG.out)) (Nat.ne_of_gt GG.out))) (by have := HLEN.out; omega) HWF.out (by omega) (by omega) (by omega) (by have := HLEN.out; omega) (by (with_reducible repeat (first | refine blk_drewN ?_ _ | refine blk_drew ?_ | refine blk_alloc ?_ _)); refine blk_put (cs := #[.int .i64 (Rd.le (Rd.cutL l0 0 2)), .string ⟨#[]⟩]) ?_ 1 _ rfl; (with_reducible repeat (first | refine blk_drewN ?_ _ | refine blk_drew ?_ | refine blk_alloc ?_ _)); refine blk_put (cs := #[.int .i64 0, .string ⟨#[]⟩]) ?_ 0 _ rfl; (with_reducible repeat (first | refine blk_drewN ?_ _ | refine blk_drew ?_ | refine blk_alloc ?_ _)); exact BKe.out) (Nat.ne_of_gt GG.out)).mono ?_; rintro e w5 ⟨rfl, hI, hb⟩; have HI5 := Aside0.mk (show Rd.IsRd wi w5 g l0 3 0 from hI); clear BKe; have BKe := Aside0.mk hb; clear hI hb)
              | (go_at_call 45; refine (Rd.Text_blk wi g l0 3 0 (Rd.le (Rd.cutL l0 2 1)) _ ge (.cells #[.int .i64 (Rd.le (Rd.cutL l0 0 2)), .string ⟨#[]⟩] 36 (0, 0)) (by repeat (first | (with_reducible exact HI5.out) | (with_reducible refine Rd.IsRd.drewN_ ?_ _) | (with_reducible refine Rd.IsRd.drew_ ?_) | refine Rd.IsRd.set_ ?_ _ _ _ (Nat.le_trans HI2.out.le_ (Nat.le_of_lt GG.out)) (Nat.ne_of_gt GG.out))) (by have := HLEN.out; omega) (by omega) (by have := HLEN.out; omega) (by (with_reducible repeat (first | refine blk_drewN ?_ _ | refine blk_drew ?_ | refine blk_alloc ?_ _)); exact BKe.out) (Nat.ne_of_gt GG.out)).mono ?_; rintro e w6 ⟨rfl, hI, hb⟩; have HI6 := Aside0.mk hI; clear BKe; have BKe := Aside0.mk hb; clear hI hb; have hce0 : w6.cell? ⟨ge, 0, none⟩ = some (.int .i64 (Rd.le (Rd.cutL l0 0 2))) := (blk_cell BKe.out 0).trans rfl; have hce1 : w6.cell? ⟨ge, 1, none⟩ = some (.string ⟨#[]⟩) := (blk_cell BKe.out 1).trans rfl; have hfe0 := blk_frozen BKe.out 0; have hfe1 := blk_frozen BKe.out 1)
              | (go_at_call 16; clear hce0 hce1 hfe0 hfe1; refine (layout_EncodeEntry.calls k (Rd.le (Rd.cutL l0 0 2)) (Rd.texV l0 3 0 (Rd.le (Rd.cutL l0 2 1))) t1 t2 _ HT.out).mono ?_; rintro e w7 ⟨v0, rfl, hr7, hb7⟩; have HR7 := Aside0.mk hr7; have HI7 := Aside0.mk (Rd.IsRd.below (w0 := wi) (g := g) (l := l0) (p := Rd.nxP 3 (Rd.le (Rd.cutL l0 2 1)) (Rd.texE l0 3 0 (Rd.le (Rd.cutL l0 2 1)))) (e := (Rd.texE l0 3 0 (Rd.le (Rd.cutL l0 2 1)))) (W1 := w7) (by repeat (first | (with_reducible exact HI6.out) | (with_reducible refine Rd.IsRd.drewN_ ?_ _) | (with_reducible refine Rd.IsRd.drew_ ?_) | refine Rd.IsRd.set_ ?_ _ _ _ (Nat.le_trans HI2.out.le_ (Nat.le_of_lt GG.out)) (Nat.ne_of_gt GG.out))) hb7); have n0_ := Aside0.mk (blk_below (w1 := w7) (o := .cells #[.int .i64 (Rd.le (Rd.cutL l0 0 2)), .string (Rd.texV l0 3 0 (Rd.le (Rd.cutL l0 2 1)))] 36 (0, 0)) (by (with_reducible repeat (first | refine blk_drewN ?_ _ | refine blk_drew ?_ | refine blk_alloc ?_ _)); refine blk_put (cs := #[.int .i64 (Rd.le (Rd.cutL l0 0 2)), .string ⟨#[]⟩]) ?_ 1 _ rfl; (with_reducible repeat (first | refine blk_drewN ?_ _ | refine blk_drew ?_ | refine blk_alloc ?_ _)); exact BKe.out) hb7); clear BKe hr7 hb7; have BKe := n0_; clear n0_; obtain ⟨A7, c7, e7⟩ := Kd.R_slice HR7.out; subst e7; have hce0 : w7.cell? ⟨ge, 0, none⟩ = some (.int .i64 (Rd.le (Rd.cutL l0 0 2))) := (blk_cell BKe.out 0).trans rfl; have hce1 : w7.cell? ⟨ge, 1, none⟩ = some (.string (Rd.texV l0 3 0 (Rd.le (Rd.cutL l0 2 1)))) := (blk_cell BKe.out 1).trans rfl; have hfe0 := blk_frozen BKe.out 0; have hfe1 := blk_frozen BKe.out 1)
              | (go_at_call 46; refine (Rd.Err_call wi g l0 _ (Rd.texE l0 3 0 (Rd.le (Rd.cutL l0 2 1))) _ (by repeat (first | (with_reducible exact HI7.out) | (with_reducible refine Rd.IsRd.drewN_ ?_ _) | (with_reducible refine Rd.IsRd.drew_ ?_) | refine Rd.IsRd.set_ ?_ _ _ _ (Nat.le_trans HI2.out.le_ (Nat.le_of_lt GG.out)) (Nat.ne_of_gt GG.out)))).mono ?_; rintro e w8 ⟨rfl, m, rfl⟩; have n0_ := Aside0.mk (below_then (w2 := w7) HB.out (Nat.le_trans GE.out (Nat.le_of_lt (blk_lt BKi.out))) HI7.out.bel); have BKb := Aside0.mk (HI7.out.old BKi.out); clear HB; have HB := n0_; clear n0_; have hcb0 : w7.cell? ⟨gb, 0, none⟩ = some (.int .i64 0) := (blk_cell BKb.out 0).trans rfl; have hcb1 : w7.cell? ⟨gb, 1, none⟩ = some (.string ⟨#[]⟩) := (blk_cell BKb.out 1).trans rfl; have hfb0 := blk_frozen BKb.out 0; have hfb1 := blk_frozen BKb.out 1)
              | (go_at_call 38; refine (layout_same.calls A7 c7 t1 A0 c0 l0 true _ (by repeat (first | exact (Kd.R_reads' HR7.out).2.2 | refine Kd.C_drewN ?_ _ | refine Kd.C_drew ?_)) (Kd.R_reads' HR7.out).2.1 (by repeat (first | exact Kd.C_below HR0.out HB.out | refine Kd.C_drewN ?_ _ | refine Kd.C_drew ?_)) HC0.out HS.out).mono ?_; rintro e w9 ⟨rfl, m9, rfl⟩))
            refine bodyPost_ret (results_ct rfl _ _ gb 36 #[.int .i64 (Rd.le (Rd.cutL l0 0 2)), .string (Rd.texV l0 3 0 (Rd.le (Rd.cutL l0 2 1)))] (0, 0) _ rfl (by (with_reducible repeat (first | refine blk_drewN ?_ _ | refine blk_drew ?_ | refine blk_alloc ?_ _)); refine blk_put (cs := #[.int .i64 (Rd.le (Rd.cutL l0 0 2)), .string ⟨#[]⟩]) ?_ 1 _ rfl; (with_reducible repeat (first | refine blk_drewN ?_ _ | refine blk_drew ?_ | refine blk_alloc ?_ _)); refine blk_put (cs := #[.int .i64 0, .string ⟨#[]⟩]) ?_ 0 _ rfl; (with_reducible repeat (first | refine blk_drewN ?_ _ | refine blk_drew ?_ | refine blk_alloc ?_ _)); exact BKb.out) hu36 rfl (by kernel_rfl)) rfl ?_
            exact ⟨rfl, by repeat (first | (with_reducible first | exact HB.out | apply below_alloc | apply pw_below_drewN | apply below_drew1 | refine below_set ?_ GE.out) | exact HB.out)⟩
          · obtain rfl : s = false := by cases s; rfl; exact absurd rfl hst
            rw [if_neg (by decide)] at h3
            simp only [Option.some.injEq, Prod.mk.injEq] at h3
            obtain ⟨rfl, rfl, rfl⟩ := h3
            go_enter Try.func18, Try.ntmps18
            go_wp2_with (first
              | ((with_reducible refine gate_dst (N := 2) rfl ?_); refine box_event ?hg (N := 2) ?hd (cs := #[.int .i64 0, .string ⟨#[]⟩]) (t := 36) ?hr ?_; (case hd => rfl); (case hg => rfl); (case hr => first | (go_simp; done) | (go_simp; rfl)); intro gb hg w1 hbox hb; have n0_ := Aside0.mk (below_step (w2 := w1) (by repeat (first | (with_reducible first | exact HB.out | apply below_alloc | apply pw_below_drewN | apply below_drew1) | exact HB.out)) hb); have BKb := Aside0.mk hbox; have GE := Aside0.mk (show w.heap.size ≤ gb by rw [hg]; exact Nat.le_refl _); clear HB; have HB := n0_; clear n0_ hb hbox hg; have hcb0 : w1.cell? ⟨gb, 0, none⟩ = some (.int .i64 0) := (blk_cell BKb.out 0).trans rfl; have hcb1 : w1.cell? ⟨gb, 1, none⟩ = some (.string ⟨#[]⟩) := (blk_cell BKb.out 1).trans rfl; have hfb0 := blk_frozen BKb.out 0; have hfb1 := blk_frozen BKb.out 1)
              | (go_at_call 43; clear hcb0 hcb1 hfb0 hfb1; refine (Rd.Over_call A0 c0 l0 _ (Kd.C_below HR0.out (by repeat (first | exact HB.out | apply pw_below_drewN | apply below_drew1))) (by have := HLEN.out; omega)).mono ?_; rintro e w2 ⟨wi, g, rfl, hI, hb1, hs1, hg, _⟩; have HI2 := Aside0.mk hI; have n0_ := Aside0.mk (below_then (w2 := wi) (by repeat (first | exact HB.out | apply pw_below_drewN | apply below_drew1)) (Nat.le_trans GE.out (Nat.le_of_lt (blk_lt BKb.out))) hb1); have n1_ := Aside0.mk (blk_below (w1 := wi) (by (with_reducible repeat (first | refine blk_drewN ?_ _ | refine blk_drew ?_)); exact BKb.out) hb1); clear HB BKb; have HB := n0_; have BKi := n1_; clear hI hb1 hs1 hg n0_ n1_)
              | (have n_ := HN1.out; clear n_; go_at_call 44; refine (Rd.Take_ok wi g l0 0 2 _ (by repeat (first | (with_reducible exact HI2.out) | (with_reducible refine Rd.IsRd.drewN_ ?_ _) | (with_reducible refine Rd.IsRd.drew_ ?_) | refine Rd.IsRd.set_ ?_ _ _ _ (Nat.le_trans HI2.out.le_ (Nat.le_of_lt GG.out)) (Nat.ne_of_gt GG.out))) (by have := HLEN.out; omega) HWF.out (by omega) (by omega) (by omega) (by have := HLEN.out; omega)).mono ?_; rintro e w3 ⟨rfl, hI, _⟩; rw [HN1.out] at hI; clear HN1; have HI3 := Aside0.mk hI; clear hI)
              | ((with_reducible refine gate_dst (N := 5) rfl ?_); refine box_event ?hg (N := 5) ?hd (cs := #[.int .i64 0, .string ⟨#[]⟩]) (t := 36) ?hr ?_; (case hd => rfl); (case hg => rfl); (case hr => first | (go_simp; done) | (go_simp; rfl)); intro ge hge w4 hbox hb; have GG := Aside0.mk (show g < ge by rw [hge]; exact HI3.out.lt); have HI4 := Aside0.mk (Rd.IsRd.below (W1 := w4) (by repeat (first | exact HI3.out | refine Rd.IsRd.drewN_ ?_ _ | refine Rd.IsRd.drew_ ?_)) hb); have BKe := Aside0.mk hbox; clear hb hbox hge; have hce0 : w4.cell? ⟨ge, 0, none⟩ = some (.int .i64 0) := (blk_cell BKe.out 0).trans rfl; have hce1 : w4.cell? ⟨ge, 1, none⟩ = some (.string ⟨#[]⟩) := (blk_cell BKe.out 1).trans rfl; have hfe0 := blk_frozen BKe.out 0; have hfe1 := blk_frozen BKe.out 1)
              | (go_at_call 44; clear hce0 hce1 hfe0 hfe1; refine (Rd.Take_blk wi g l0 2 1 _ ge (.cells #[.int .i64 (Rd.le (Rd.cutL l0 0 2)), .string ⟨#[]⟩] 36 (0, 0)) (by repeat (first | (with_reducible exact HI4.out) | (with_reducible refine Rd.IsRd.drewN_ ?_ _) | (with_reducible refine Rd.IsRd.drew_ ?_) | refine Rd.IsRd.set_ ?_ _ _ _ (Nat.le_trans HI2.out.le_ (Nat.le_of_lt GG.out)) (Nat.ne_of_gt GG.out))) (by have := HLEN.out; omega) HWF.out (by omega) (by omega) (by omega) (by have := HLEN.out; omega) (by (with_reducible repeat (first | refine blk_drewN ?_ _ | refine blk_drew ?_ | refine blk_alloc ?_ _)); refine blk_put (cs := #[.int .i64 (Rd.le (Rd.cutL l0 0 2)), .string ⟨#[]⟩]) ?_ 1 _ rfl; (with_reducible repeat (first | refine blk_drewN ?_ _ | refine blk_drew ?_ | refine blk_alloc ?_ _)); refine blk_put (cs := #[.int .i64 0, .string ⟨#[]⟩]) ?_ 0 _ rfl; (with_reducible repeat (first | refine blk_drewN ?_ _ | refine blk_drew ?_ | refine blk_alloc ?_ _)); exact BKe.out) (Nat.ne_of_gt GG.out)).mono ?_; rintro e w5 ⟨rfl, hI, hb⟩; have HI5 := Aside0.mk (show Rd.IsRd wi w5 g l0 3 0 from hI); clear BKe; have BKe := Aside0.mk hb; clear hI hb)
              | (go_at_call 45; refine (Rd.Text_blk wi g l0 3 0 (Rd.le (Rd.cutL l0 2 1)) _ ge (.cells #[.int .i64 (Rd.le (Rd.cutL l0 0 2)), .string ⟨#[]⟩] 36 (0, 0)) (by repeat (first | (with_reducible exact HI5.out) | (with_reducible refine Rd.IsRd.drewN_ ?_ _) | (with_reducible refine Rd.IsRd.drew_ ?_) | refine Rd.IsRd.set_ ?_ _ _ _ (Nat.le_trans HI2.out.le_ (Nat.le_of_lt GG.out)) (Nat.ne_of_gt GG.out))) (by have := HLEN.out; omega) (by omega) (by have := HLEN.out; omega) (by (with_reducible repeat (first | refine blk_drewN ?_ _ | refine blk_drew ?_ | refine blk_alloc ?_ _)); exact BKe.out) (Nat.ne_of_gt GG.out)).mono ?_; rintro e w6 ⟨rfl, hI, hb⟩; have HI6 := Aside0.mk hI; clear BKe; have BKe := Aside0.mk hb; clear hI hb; have hce0 : w6.cell? ⟨ge, 0, none⟩ = some (.int .i64 (Rd.le (Rd.cutL l0 0 2))) := (blk_cell BKe.out 0).trans rfl; have hce1 : w6.cell? ⟨ge, 1, none⟩ = some (.string ⟨#[]⟩) := (blk_cell BKe.out 1).trans rfl; have hfe0 := blk_frozen BKe.out 0; have hfe1 := blk_frozen BKe.out 1)
              | (go_at_call 16; clear hce0 hce1 hfe0 hfe1; refine (layout_EncodeEntry.calls k (Rd.le (Rd.cutL l0 0 2)) (Rd.texV l0 3 0 (Rd.le (Rd.cutL l0 2 1))) t1 t2 _ HT.out).mono ?_; rintro e w7 ⟨v0, rfl, hr7, hb7⟩; have HR7 := Aside0.mk hr7; have HI7 := Aside0.mk (Rd.IsRd.below (w0 := wi) (g := g) (l := l0) (p := Rd.nxP 3 (Rd.le (Rd.cutL l0 2 1)) (Rd.texE l0 3 0 (Rd.le (Rd.cutL l0 2 1)))) (e := (Rd.texE l0 3 0 (Rd.le (Rd.cutL l0 2 1)))) (W1 := w7) (by repeat (first | (with_reducible exact HI6.out) | (with_reducible refine Rd.IsRd.drewN_ ?_ _) | (with_reducible refine Rd.IsRd.drew_ ?_) | refine Rd.IsRd.set_ ?_ _ _ _ (Nat.le_trans HI2.out.le_ (Nat.le_of_lt GG.out)) (Nat.ne_of_gt GG.out))) hb7); have n0_ := Aside0.mk (blk_below (w1 := w7) (o := .cells #[.int .i64 (Rd.le (Rd.cutL l0 0 2)), .string (Rd.texV l0 3 0 (Rd.le (Rd.cutL l0 2 1)))] 36 (0, 0)) (by (with_reducible repeat (first | refine blk_drewN ?_ _ | refine blk_drew ?_ | refine blk_alloc ?_ _)); refine blk_put (cs := #[.int .i64 (Rd.le (Rd.cutL l0 0 2)), .string ⟨#[]⟩]) ?_ 1 _ rfl; (with_reducible repeat (first | refine blk_drewN ?_ _ | refine blk_drew ?_ | refine blk_alloc ?_ _)); exact BKe.out) hb7); clear BKe hr7 hb7; have BKe := n0_; clear n0_; obtain ⟨A7, c7, e7⟩ := Kd.R_slice HR7.out; subst e7; have hce0 : w7.cell? ⟨ge, 0, none⟩ = some (.int .i64 (Rd.le (Rd.cutL l0 0 2))) := (blk_cell BKe.out 0).trans rfl; have hce1 : w7.cell? ⟨ge, 1, none⟩ = some (.string (Rd.texV l0 3 0 (Rd.le (Rd.cutL l0 2 1)))) := (blk_cell BKe.out 1).trans rfl; have hfe0 := blk_frozen BKe.out 0; have hfe1 := blk_frozen BKe.out 1)
              | (go_at_call 46; refine (Rd.Err_call wi g l0 _ (Rd.texE l0 3 0 (Rd.le (Rd.cutL l0 2 1))) _ (by repeat (first | (with_reducible exact HI7.out) | (with_reducible refine Rd.IsRd.drewN_ ?_ _) | (with_reducible refine Rd.IsRd.drew_ ?_) | refine Rd.IsRd.set_ ?_ _ _ _ (Nat.le_trans HI2.out.le_ (Nat.le_of_lt GG.out)) (Nat.ne_of_gt GG.out)))).mono ?_; rintro e w8 ⟨rfl, m, rfl⟩; have n0_ := Aside0.mk (below_then (w2 := w7) HB.out (Nat.le_trans GE.out (Nat.le_of_lt (blk_lt BKi.out))) HI7.out.bel); have BKb := Aside0.mk (HI7.out.old BKi.out); clear HB; have HB := n0_; clear n0_; have hcb0 : w7.cell? ⟨gb, 0, none⟩ = some (.int .i64 0) := (blk_cell BKb.out 0).trans rfl; have hcb1 : w7.cell? ⟨gb, 1, none⟩ = some (.string ⟨#[]⟩) := (blk_cell BKb.out 1).trans rfl; have hfb0 := blk_frozen BKb.out 0; have hfb1 := blk_frozen BKb.out 1)
              | (go_at_call 38; refine (layout_same.calls A7 c7 t1 A0 c0 l0 false _ (by repeat (first | exact (Kd.R_reads' HR7.out).2.2 | refine Kd.C_drewN ?_ _ | refine Kd.C_drew ?_)) (Kd.R_reads' HR7.out).2.1 (by repeat (first | exact Kd.C_below HR0.out HB.out | refine Kd.C_drewN ?_ _ | refine Kd.C_drew ?_)) HC0.out HS.out).mono ?_; rintro e w9 ⟨rfl, m9, rfl⟩))
            refine bodyPost_ret (results_ct rfl _ _ gb 36 #[.int .i64 0, .string ⟨#[]⟩] (0, 0) _ rfl (by (with_reducible repeat (first | refine blk_drewN ?_ _ | refine blk_drew ?_ | refine blk_alloc ?_ _)); refine blk_put (cs := #[.int .i64 0, .string ⟨#[]⟩]) ?_ 1 _ rfl; (with_reducible repeat (first | refine blk_drewN ?_ _ | refine blk_drew ?_ | refine blk_alloc ?_ _)); refine blk_put (cs := #[.int .i64 0, .string ⟨#[]⟩]) ?_ 0 _ rfl; (with_reducible repeat (first | refine blk_drewN ?_ _ | refine blk_drew ?_ | refine blk_alloc ?_ _)); exact BKb.out) hu36 rfl (by kernel_rfl)) rfl ?_
            exact ⟨rfl, by repeat (first | (with_reducible first | exact HB.out | apply below_alloc | apply pw_below_drewN | apply below_drew1 | refine below_set ?_ GE.out) | exact HB.out)⟩
        · rw [if_neg hq] at h2
          have hqb : (t2 != 0) = true := bne_iff_ne.mpr hq
          simp only [Option.some.injEq, Prod.mk.injEq] at h2
          obtain ⟨rfl, rfl, rfl⟩ := h2
          clear hq
          go_enter Try.func18, Try.ntmps18
          go_wp2_with (first
            | ((with_reducible refine gate_dst (N := 2) rfl ?_); refine box_event ?hg (N := 2) ?hd (cs := #[.int .i64 0, .string ⟨#[]⟩]) (t := 36) ?hr ?_; (case hd => rfl); (case hg => rfl); (case hr => first | (go_simp; done) | (go_simp; rfl)); intro gb hg w1 hbox hb; have n0_ := Aside0.mk (below_step (w2 := w1) (by repeat (first | (with_reducible first | exact HB.out | apply below_alloc | apply pw_below_drewN | apply below_drew1) | exact HB.out)) hb); have BKb := Aside0.mk hbox; have GE := Aside0.mk (show w.heap.size ≤ gb by rw [hg]; exact Nat.le_refl _); clear HB; have HB := n0_; clear n0_ hb hbox hg; have hcb0 : w1.cell? ⟨gb, 0, none⟩ = some (.int .i64 0) := (blk_cell BKb.out 0).trans rfl; have hcb1 : w1.cell? ⟨gb, 1, none⟩ = some (.string ⟨#[]⟩) := (blk_cell BKb.out 1).trans rfl; have hfb0 := blk_frozen BKb.out 0; have hfb1 := blk_frozen BKb.out 1)
            | (go_at_call 43; clear hcb0 hcb1 hfb0 hfb1; refine (Rd.Over_call A0 c0 l0 _ (Kd.C_below HR0.out (by repeat (first | exact HB.out | apply pw_below_drewN | apply below_drew1))) (by have := HLEN.out; omega)).mono ?_; rintro e w2 ⟨wi, g, rfl, hI, hb1, hs1, hg, _⟩; have HI2 := Aside0.mk hI; have n0_ := Aside0.mk (below_then (w2 := wi) (by repeat (first | exact HB.out | apply pw_below_drewN | apply below_drew1)) (Nat.le_trans GE.out (Nat.le_of_lt (blk_lt BKb.out))) hb1); have n1_ := Aside0.mk (blk_below (w1 := wi) (by (with_reducible repeat (first | refine blk_drewN ?_ _ | refine blk_drew ?_)); exact BKb.out) hb1); clear HB BKb; have HB := n0_; have BKi := n1_; clear hI hb1 hs1 hg n0_ n1_)
            | (have n_ := HN1.out; clear n_; go_at_call 44; refine (Rd.Take_ok wi g l0 0 2 _ (by repeat (first | (with_reducible exact HI2.out) | (with_reducible refine Rd.IsRd.drewN_ ?_ _) | (with_reducible refine Rd.IsRd.drew_ ?_) | refine Rd.IsRd.set_ ?_ _ _ _ (Nat.le_trans HI2.out.le_ (Nat.le_of_lt GG.out)) (Nat.ne_of_gt GG.out))) (by have := HLEN.out; omega) HWF.out (by omega) (by omega) (by omega) (by have := HLEN.out; omega)).mono ?_; rintro e w3 ⟨rfl, hI, _⟩; rw [HN1.out] at hI; clear HN1; have HI3 := Aside0.mk hI; clear hI)
            | ((with_reducible refine gate_dst (N := 5) rfl ?_); refine box_event ?hg (N := 5) ?hd (cs := #[.int .i64 0, .string ⟨#[]⟩]) (t := 36) ?hr ?_; (case hd => rfl); (case hg => rfl); (case hr => first | (go_simp; done) | (go_simp; rfl)); intro ge hge w4 hbox hb; have GG := Aside0.mk (show g < ge by rw [hge]; exact HI3.out.lt); have HI4 := Aside0.mk (Rd.IsRd.below (W1 := w4) (by repeat (first | exact HI3.out | refine Rd.IsRd.drewN_ ?_ _ | refine Rd.IsRd.drew_ ?_)) hb); have BKe := Aside0.mk hbox; clear hb hbox hge; have hce0 : w4.cell? ⟨ge, 0, none⟩ = some (.int .i64 0) := (blk_cell BKe.out 0).trans rfl; have hce1 : w4.cell? ⟨ge, 1, none⟩ = some (.string ⟨#[]⟩) := (blk_cell BKe.out 1).trans rfl; have hfe0 := blk_frozen BKe.out 0; have hfe1 := blk_frozen BKe.out 1)
            | (go_at_call 44; clear hce0 hce1 hfe0 hfe1; refine (Rd.Take_blk wi g l0 2 1 _ ge (.cells #[.int .i64 (Rd.le (Rd.cutL l0 0 2)), .string ⟨#[]⟩] 36 (0, 0)) (by repeat (first | (with_reducible exact HI4.out) | (with_reducible refine Rd.IsRd.drewN_ ?_ _) | (with_reducible refine Rd.IsRd.drew_ ?_) | refine Rd.IsRd.set_ ?_ _ _ _ (Nat.le_trans HI2.out.le_ (Nat.le_of_lt GG.out)) (Nat.ne_of_gt GG.out))) (by have := HLEN.out; omega) HWF.out (by omega) (by omega) (by omega) (by have := HLEN.out; omega) (by (with_reducible repeat (first | refine blk_drewN ?_ _ | refine blk_drew ?_ | refine blk_alloc ?_ _)); refine blk_put (cs := #[.int .i64 (Rd.le (Rd.cutL l0 0 2)), .string ⟨#[]⟩]) ?_ 1 _ rfl; (with_reducible repeat (first | refine blk_drewN ?_ _ | refine blk_drew ?_ | refine blk_alloc ?_ _)); refine blk_put (cs := #[.int .i64 0, .string ⟨#[]⟩]) ?_ 0 _ rfl; (with_reducible repeat (first | refine blk_drewN ?_ _ | refine blk_drew ?_ | refine blk_alloc ?_ _)); exact BKe.out) (Nat.ne_of_gt GG.out)).mono ?_; rintro e w5 ⟨rfl, hI, hb⟩; have HI5 := Aside0.mk (show Rd.IsRd wi w5 g l0 3 0 from hI); clear BKe; have BKe := Aside0.mk hb; clear hI hb)
            | (go_at_call 45; refine (Rd.Text_blk wi g l0 3 0 (Rd.le (Rd.cutL l0 2 1)) _ ge (.cells #[.int .i64 (Rd.le (Rd.cutL l0 0 2)), .string ⟨#[]⟩] 36 (0, 0)) (by repeat (first | (with_reducible exact HI5.out) | (with_reducible refine Rd.IsRd.drewN_ ?_ _) | (with_reducible refine Rd.IsRd.drew_ ?_) | refine Rd.IsRd.set_ ?_ _ _ _ (Nat.le_trans HI2.out.le_ (Nat.le_of_lt GG.out)) (Nat.ne_of_gt GG.out))) (by have := HLEN.out; omega) (by omega) (by have := HLEN.out; omega) (by (with_reducible repeat (first | refine blk_drewN ?_ _ | refine blk_drew ?_ | refine blk_alloc ?_ _)); exact BKe.out) (Nat.ne_of_gt GG.out)).mono ?_; rintro e w6 ⟨rfl, hI, hb⟩; have HI6 := Aside0.mk hI; clear BKe; have BKe := Aside0.mk hb; clear hI hb; have hce0 : w6.cell? ⟨ge, 0, none⟩ = some (.int .i64 (Rd.le (Rd.cutL l0 0 2))) := (blk_cell BKe.out 0).trans rfl; have hce1 : w6.cell? ⟨ge, 1, none⟩ = some (.string ⟨#[]⟩) := (blk_cell BKe.out 1).trans rfl; have hfe0 := blk_frozen BKe.out 0; have hfe1 := blk_frozen BKe.out 1)
            | (go_at_call 16; clear hce0 hce1 hfe0 hfe1; refine (layout_EncodeEntry.calls k (Rd.le (Rd.cutL l0 0 2)) (Rd.texV l0 3 0 (Rd.le (Rd.cutL l0 2 1))) t1 t2 _ HT.out).mono ?_; rintro e w7 ⟨v0, rfl, hr7, hb7⟩; have HR7 := Aside0.mk hr7; have HI7 := Aside0.mk (Rd.IsRd.below (w0 := wi) (g := g) (l := l0) (p := Rd.nxP 3 (Rd.le (Rd.cutL l0 2 1)) (Rd.texE l0 3 0 (Rd.le (Rd.cutL l0 2 1)))) (e := (Rd.texE l0 3 0 (Rd.le (Rd.cutL l0 2 1)))) (W1 := w7) (by repeat (first | (with_reducible exact HI6.out) | (with_reducible refine Rd.IsRd.drewN_ ?_ _) | (with_reducible refine Rd.IsRd.drew_ ?_) | refine Rd.IsRd.set_ ?_ _ _ _ (Nat.le_trans HI2.out.le_ (Nat.le_of_lt GG.out)) (Nat.ne_of_gt GG.out))) hb7); have n0_ := Aside0.mk (blk_below (w1 := w7) (o := .cells #[.int .i64 (Rd.le (Rd.cutL l0 0 2)), .string (Rd.texV l0 3 0 (Rd.le (Rd.cutL l0 2 1)))] 36 (0, 0)) (by (with_reducible repeat (first | refine blk_drewN ?_ _ | refine blk_drew ?_ | refine blk_alloc ?_ _)); refine blk_put (cs := #[.int .i64 (Rd.le (Rd.cutL l0 0 2)), .string ⟨#[]⟩]) ?_ 1 _ rfl; (with_reducible repeat (first | refine blk_drewN ?_ _ | refine blk_drew ?_ | refine blk_alloc ?_ _)); exact BKe.out) hb7); clear BKe hr7 hb7; have BKe := n0_; clear n0_; obtain ⟨A7, c7, e7⟩ := Kd.R_slice HR7.out; subst e7; have hce0 : w7.cell? ⟨ge, 0, none⟩ = some (.int .i64 (Rd.le (Rd.cutL l0 0 2))) := (blk_cell BKe.out 0).trans rfl; have hce1 : w7.cell? ⟨ge, 1, none⟩ = some (.string (Rd.texV l0 3 0 (Rd.le (Rd.cutL l0 2 1)))) := (blk_cell BKe.out 1).trans rfl; have hfe0 := blk_frozen BKe.out 0; have hfe1 := blk_frozen BKe.out 1)
            | (go_at_call 46; refine (Rd.Err_call wi g l0 _ (Rd.texE l0 3 0 (Rd.le (Rd.cutL l0 2 1))) _ (by repeat (first | (with_reducible exact HI7.out) | (with_reducible refine Rd.IsRd.drewN_ ?_ _) | (with_reducible refine Rd.IsRd.drew_ ?_) | refine Rd.IsRd.set_ ?_ _ _ _ (Nat.le_trans HI2.out.le_ (Nat.le_of_lt GG.out)) (Nat.ne_of_gt GG.out)))).mono ?_; rintro e w8 ⟨rfl, m, rfl⟩; have n0_ := Aside0.mk (below_then (w2 := w7) HB.out (Nat.le_trans GE.out (Nat.le_of_lt (blk_lt BKi.out))) HI7.out.bel); have BKb := Aside0.mk (HI7.out.old BKi.out); clear HB; have HB := n0_; clear n0_; have hcb0 : w7.cell? ⟨gb, 0, none⟩ = some (.int .i64 0) := (blk_cell BKb.out 0).trans rfl; have hcb1 : w7.cell? ⟨gb, 1, none⟩ = some (.string ⟨#[]⟩) := (blk_cell BKb.out 1).trans rfl; have hfb0 := blk_frozen BKb.out 0; have hfb1 := blk_frozen BKb.out 1))
          refine bodyPost_ret (results_ct rfl _ _ gb 36 #[.int .i64 0, .string ⟨#[]⟩] (0, 0) _ rfl (by (with_reducible repeat (first | refine blk_drewN ?_ _ | refine blk_drew ?_ | refine blk_alloc ?_ _)); refine blk_put (cs := #[.int .i64 0, .string ⟨#[]⟩]) ?_ 1 _ rfl; (with_reducible repeat (first | refine blk_drewN ?_ _ | refine blk_drew ?_ | refine blk_alloc ?_ _)); refine blk_put (cs := #[.int .i64 0, .string ⟨#[]⟩]) ?_ 0 _ rfl; (with_reducible repeat (first | refine blk_drewN ?_ _ | refine blk_drew ?_ | refine blk_alloc ?_ _)); exact BKb.out) hu36 rfl (by kernel_rfl)) rfl ?_
          exact ⟨rfl, by repeat (first | (with_reducible first | exact HB.out | apply below_alloc | apply pw_below_drewN | apply below_drew1 | refine below_set ?_ GE.out) | exact HB.out)⟩
      · rw [if_neg he] at h2
        have heb : ((Rd.texE l0 3 0 (Rd.le (Rd.cutL l0 2 1))) != 0) = true := bne_iff_ne.mpr he
        simp only [Option.some.injEq, Prod.mk.injEq] at h2
        obtain ⟨rfl, rfl, rfl⟩ := h2
        clear he
        go_enter Try.func18, Try.ntmps18
        go_wp2_with (first
          | ((with_reducible refine gate_dst (N := 2) rfl ?_); refine box_event ?hg (N := 2) ?hd (cs := #[.int .i64 0, .string ⟨#[]⟩]) (t := 36) ?hr ?_; (case hd => rfl); (case hg => rfl); (case hr => first | (go_simp; done) | (go_simp; rfl)); intro gb hg w1 hbox hb; have n0_ := Aside0.mk (below_step (w2 := w1) (by repeat (first | (with_reducible first | exact HB.out | apply below_alloc | apply pw_below_drewN | apply below_drew1) | exact HB.out)) hb); have BKb := Aside0.mk hbox; have GE := Aside0.mk (show w.heap.size ≤ gb by rw [hg]; exact Nat.le_refl _); clear HB; have HB := n0_; clear n0_ hb hbox hg; have hcb0 : w1.cell? ⟨gb, 0, none⟩ = some (.int .i64 0) := (blk_cell BKb.out 0).trans rfl; have hcb1 : w1.cell? ⟨gb, 1, none⟩ = some (.string ⟨#[]⟩) := (blk_cell BKb.out 1).trans rfl; have hfb0 := blk_frozen BKb.out 0; have hfb1 := blk_frozen BKb.out 1)
          | (go_at_call 43; clear hcb0 hcb1 hfb0 hfb1; refine (Rd.Over_call A0 c0 l0 _ (Kd.C_below HR0.out (by repeat (first | exact HB.out | apply pw_below_drewN | apply below_drew1))) (by have := HLEN.out; omega)).mono ?_; rintro e w2 ⟨wi, g, rfl, hI, hb1, hs1, hg, _⟩; have HI2 := Aside0.mk hI; have n0_ := Aside0.mk (below_then (w2 := wi) (by repeat (first | exact HB.out | apply pw_below_drewN | apply below_drew1)) (Nat.le_trans GE.out (Nat.le_of_lt (blk_lt BKb.out))) hb1); have n1_ := Aside0.mk (blk_below (w1 := wi) (by (with_reducible repeat (first | refine blk_drewN ?_ _ | refine blk_drew ?_)); exact BKb.out) hb1); clear HB BKb; have HB := n0_; have BKi := n1_; clear hI hb1 hs1 hg n0_ n1_)
          | (have n_ := HN1.out; clear n_; go_at_call 44; refine (Rd.Take_ok wi g l0 0 2 _ (by repeat (first | (with_reducible exact HI2.out) | (with_reducible refine Rd.IsRd.drewN_ ?_ _) | (with_reducible refine Rd.IsRd.drew_ ?_) | refine Rd.IsRd.set_ ?_ _ _ _ (Nat.le_trans HI2.out.le_ (Nat.le_of_lt GG.out)) (Nat.ne_of_gt GG.out))) (by have := HLEN.out; omega) HWF.out (by omega) (by omega) (by omega) (by have := HLEN.out; omega)).mono ?_; rintro e w3 ⟨rfl, hI, _⟩; rw [HN1.out] at hI; clear HN1; have HI3 := Aside0.mk hI; clear hI)
          | ((with_reducible refine gate_dst (N := 5) rfl ?_); refine box_event ?hg (N := 5) ?hd (cs := #[.int .i64 0, .string ⟨#[]⟩]) (t := 36) ?hr ?_; (case hd => rfl); (case hg => rfl); (case hr => first | (go_simp; done) | (go_simp; rfl)); intro ge hge w4 hbox hb; have GG := Aside0.mk (show g < ge by rw [hge]; exact HI3.out.lt); have HI4 := Aside0.mk (Rd.IsRd.below (W1 := w4) (by repeat (first | exact HI3.out | refine Rd.IsRd.drewN_ ?_ _ | refine Rd.IsRd.drew_ ?_)) hb); have BKe := Aside0.mk hbox; clear hb hbox hge; have hce0 : w4.cell? ⟨ge, 0, none⟩ = some (.int .i64 0) := (blk_cell BKe.out 0).trans rfl; have hce1 : w4.cell? ⟨ge, 1, none⟩ = some (.string ⟨#[]⟩) := (blk_cell BKe.out 1).trans rfl; have hfe0 := blk_frozen BKe.out 0; have hfe1 := blk_frozen BKe.out 1)
          | (go_at_call 44; clear hce0 hce1 hfe0 hfe1; refine (Rd.Take_blk wi g l0 2 1 _ ge (.cells #[.int .i64 (Rd.le (Rd.cutL l0 0 2)), .string ⟨#[]⟩] 36 (0, 0)) (by repeat (first | (with_reducible exact HI4.out) | (with_reducible refine Rd.IsRd.drewN_ ?_ _) | (with_reducible refine Rd.IsRd.drew_ ?_) | refine Rd.IsRd.set_ ?_ _ _ _ (Nat.le_trans HI2.out.le_ (Nat.le_of_lt GG.out)) (Nat.ne_of_gt GG.out))) (by have := HLEN.out; omega) HWF.out (by omega) (by omega) (by omega) (by have := HLEN.out; omega) (by (with_reducible repeat (first | refine blk_drewN ?_ _ | refine blk_drew ?_ | refine blk_alloc ?_ _)); refine blk_put (cs := #[.int .i64 (Rd.le (Rd.cutL l0 0 2)), .string ⟨#[]⟩]) ?_ 1 _ rfl; (with_reducible repeat (first | refine blk_drewN ?_ _ | refine blk_drew ?_ | refine blk_alloc ?_ _)); refine blk_put (cs := #[.int .i64 0, .string ⟨#[]⟩]) ?_ 0 _ rfl; (with_reducible repeat (first | refine blk_drewN ?_ _ | refine blk_drew ?_ | refine blk_alloc ?_ _)); exact BKe.out) (Nat.ne_of_gt GG.out)).mono ?_; rintro e w5 ⟨rfl, hI, hb⟩; have HI5 := Aside0.mk (show Rd.IsRd wi w5 g l0 3 0 from hI); clear BKe; have BKe := Aside0.mk hb; clear hI hb)
          | (go_at_call 45; refine (Rd.Text_blk wi g l0 3 0 (Rd.le (Rd.cutL l0 2 1)) _ ge (.cells #[.int .i64 (Rd.le (Rd.cutL l0 0 2)), .string ⟨#[]⟩] 36 (0, 0)) (by repeat (first | (with_reducible exact HI5.out) | (with_reducible refine Rd.IsRd.drewN_ ?_ _) | (with_reducible refine Rd.IsRd.drew_ ?_) | refine Rd.IsRd.set_ ?_ _ _ _ (Nat.le_trans HI2.out.le_ (Nat.le_of_lt GG.out)) (Nat.ne_of_gt GG.out))) (by have := HLEN.out; omega) (by omega) (by have := HLEN.out; omega) (by (with_reducible repeat (first | refine blk_drewN ?_ _ | refine blk_drew ?_ | refine blk_alloc ?_ _)); exact BKe.out) (Nat.ne_of_gt GG.out)).mono ?_; rintro e w6 ⟨rfl, hI, hb⟩; have HI6 := Aside0.mk hI; clear BKe; have BKe := Aside0.mk hb; clear hI hb; have hce0 : w6.cell? ⟨ge, 0, none⟩ = some (.int .i64 (Rd.le (Rd.cutL l0 0 2))) := (blk_cell BKe.out 0).trans rfl; have hce1 : w6.cell? ⟨ge, 1, none⟩ = some (.string ⟨#[]⟩) := (blk_cell BKe.out 1).trans rfl; have hfe0 := blk_frozen BKe.out 0; have hfe1 := blk_frozen BKe.out 1)
          | (go_at_call 16; clear hce0 hce1 hfe0 hfe1; refine (layout_EncodeEntry.calls k (Rd.le (Rd.cutL l0 0 2)) (Rd.texV l0 3 0 (Rd.le (Rd.cutL l0 2 1))) t1 t2 _ HT.out).mono ?_; rintro e w7 ⟨v0, rfl, hr7, hb7⟩; have HR7 := Aside0.mk hr7; have HI7 := Aside0.mk (Rd.IsRd.below (w0 := wi) (g := g) (l := l0) (p := Rd.nxP 3 (Rd.le (Rd.cutL l0 2 1)) (Rd.texE l0 3 0 (Rd.le (Rd.cutL l0 2 1)))) (e := (Rd.texE l0 3 0 (Rd.le (Rd.cutL l0 2 1)))) (W1 := w7) (by repeat (first | (with_reducible exact HI6.out) | (with_reducible refine Rd.IsRd.drewN_ ?_ _) | (with_reducible refine Rd.IsRd.drew_ ?_) | refine Rd.IsRd.set_ ?_ _ _ _ (Nat.le_trans HI2.out.le_ (Nat.le_of_lt GG.out)) (Nat.ne_of_gt GG.out))) hb7); have n0_ := Aside0.mk (blk_below (w1 := w7) (o := .cells #[.int .i64 (Rd.le (Rd.cutL l0 0 2)), .string (Rd.texV l0 3 0 (Rd.le (Rd.cutL l0 2 1)))] 36 (0, 0)) (by (with_reducible repeat (first | refine blk_drewN ?_ _ | refine blk_drew ?_ | refine blk_alloc ?_ _)); refine blk_put (cs := #[.int .i64 (Rd.le (Rd.cutL l0 0 2)), .string ⟨#[]⟩]) ?_ 1 _ rfl; (with_reducible repeat (first | refine blk_drewN ?_ _ | refine blk_drew ?_ | refine blk_alloc ?_ _)); exact BKe.out) hb7); clear BKe hr7 hb7; have BKe := n0_; clear n0_; obtain ⟨A7, c7, e7⟩ := Kd.R_slice HR7.out; subst e7; have hce0 : w7.cell? ⟨ge, 0, none⟩ = some (.int .i64 (Rd.le (Rd.cutL l0 0 2))) := (blk_cell BKe.out 0).trans rfl; have hce1 : w7.cell? ⟨ge, 1, none⟩ = some (.string (Rd.texV l0 3 0 (Rd.le (Rd.cutL l0 2 1)))) := (blk_cell BKe.out 1).trans rfl; have hfe0 := blk_frozen BKe.out 0; have hfe1 := blk_frozen BKe.out 1)
          | (go_at_call 46; refine (Rd.Err_call wi g l0 _ (Rd.texE l0 3 0 (Rd.le (Rd.cutL l0 2 1))) _ (by repeat (first | (with_reducible exact HI7.out) | (with_reducible refine Rd.IsRd.drewN_ ?_ _) | (with_reducible refine Rd.IsRd.drew_ ?_) | refine Rd.IsRd.set_ ?_ _ _ _ (Nat.le_trans HI2.out.le_ (Nat.le_of_lt GG.out)) (Nat.ne_of_gt GG.out)))).mono ?_; rintro e w8 ⟨rfl, m, rfl⟩; have n0_ := Aside0.mk (below_then (w2 := w7) HB.out (Nat.le_trans GE.out (Nat.le_of_lt (blk_lt BKi.out))) HI7.out.bel); have BKb := Aside0.mk (HI7.out.old BKi.out); clear HB; have HB := n0_; clear n0_; have hcb0 : w7.cell? ⟨gb, 0, none⟩ = some (.int .i64 0) := (blk_cell BKb.out 0).trans rfl; have hcb1 : w7.cell? ⟨gb, 1, none⟩ = some (.string ⟨#[]⟩) := (blk_cell BKb.out 1).trans rfl; have hfb0 := blk_frozen BKb.out 0; have hfb1 := blk_frozen BKb.out 1))
        refine bodyPost_ret (results_ct rfl _ _ gb 36 #[.int .i64 0, .string ⟨#[]⟩] (0, 0) _ rfl (by (with_reducible repeat (first | refine blk_drewN ?_ _ | refine blk_drew ?_ | refine blk_alloc ?_ _)); refine blk_put (cs := #[.int .i64 0, .string ⟨#[]⟩]) ?_ 1 _ rfl; (with_reducible repeat (first | refine blk_drewN ?_ _ | refine blk_drew ?_ | refine blk_alloc ?_ _)); refine blk_put (cs := #[.int .i64 0, .string ⟨#[]⟩]) ?_ 0 _ rfl; (with_reducible repeat (first | refine blk_drewN ?_ _ | refine blk_drew ?_ | refine blk_alloc ?_ _)); exact BKb.out) hu36 rfl (by kernel_rfl)) rfl ?_
        exact ⟨rfl, by repeat (first | (with_reducible first | exact HB.out | apply below_alloc | apply pw_below_drewN | apply below_drew1 | refine below_set ?_ GE.out) | exact HB.out)⟩
    · rw [if_neg hwf] at h
      cases h
  · rw [if_neg hlen] at h
    have hb0 : ((l0.length : Int) != 16) = true := bne_iff_ne.mpr hlen
    simp only [Option.some.injEq, Prod.mk.injEq] at h
    obtain ⟨rfl, rfl, rfl⟩ := h
    clear hlen
    go_enter Try.func18, Try.ntmps18
    go_wp2_with (first | ((with_reducible refine gate_dst (N := 2) rfl ?_); refine box_event ?hg (N := 2) ?hd (cs := #[.int .i64 0, .string ⟨#[]⟩]) (t := 36) ?hr ?_; (case hd => rfl); (case hg => rfl); (case hr => first | (go_simp; done) | (go_simp; rfl)); intro gb hg w1 hbox hb; have n0_ := Aside0.mk (below_step (w2 := w1) (by repeat (first | (with_reducible first | exact HB.out | apply below_alloc | apply pw_below_drewN | apply below_drew1) | exact HB.out)) hb); have BKb := Aside0.mk hbox; have GE := Aside0.mk (show w.heap.size ≤ gb by rw [hg]; exact Nat.le_refl _); clear HB; have HB := n0_; clear n0_ hb hbox hg; have hcb0 : w1.cell? ⟨gb, 0, none⟩ = some (.int .i64 0) := (blk_cell BKb.out 0).trans rfl; have hcb1 : w1.cell? ⟨gb, 1, none⟩ = some (.string ⟨#[]⟩) := (blk_cell BKb.out 1).trans rfl; have hfb0 := blk_frozen BKb.out 0; have hfb1 := blk_frozen BKb.out 1))
    refine bodyPost_ret (results_ct rfl _ _ gb 36 #[.int .i64 0, .string ⟨#[]⟩] (0, 0) _ rfl (by (with_reducible repeat (first | refine blk_drewN ?_ _ | refine blk_drew ?_ | refine blk_alloc ?_ _)); refine blk_put (cs := #[.int .i64 0, .string ⟨#[]⟩]) ?_ 1 _ rfl; (with_reducible repeat (first | refine blk_drewN ?_ _ | refine blk_drew ?_ | refine blk_alloc ?_ _)); refine blk_put (cs := #[.int .i64 0, .string ⟨#[]⟩]) ?_ 0 _ rfl; (with_reducible repeat (first | refine blk_drewN ?_ _ | refine blk_drew ?_ | refine blk_alloc ?_ _)); exact BKb.out) hu36 rfl (by kernel_rfl)) rfl ?_
    exact ⟨rfl, by repeat (first | (with_reducible first | exact HB.out | apply below_alloc | apply pw_below_drewN | apply below_drew1 | refine below_set ?_ GE.out) | exact HB.out)⟩

/-! ### bollardref03_same: function 39 -/
def bollardref03_same.f (l0 : List Int) (l1 : List Int) : Option (Bool) := some ((strOfNums l0).toList == (strOfNums l1).toList)
set_option maxHeartbeats 8000000 in
set_option maxRecDepth 100000 in
theorem bollardref03_same.calls (A0 : Option Addr) (c0 : Nat) (l0 : List Int) (A1 : Option Addr) (c1 : Nat) (l1 : List Int) (r : Bool) (w : World) (hr0 : Kd.C (Kd.int .u8) w A0 l0.length l0) (hc0 : l0.length ≤ c0) (hr1 : Kd.C (Kd.int .u8) w A1 l1.length l1) (hc1 : l1.length ≤ c1) (h : bollardref03_same.f l0 l1 = some r) :
    Calls Try.prog 39 #[.slice A0 l0.length c0, .slice A1 l1.length c1] w fun e w' => e = .returned (.bool r) ∧ Drawn0 w w' := by
  have HR0 := Aside0.mk hr0
  have HC0 := Aside0.mk hc0
  clear hr0 hc0
  have HR1 := Aside0.mk hr1
  have HC1 := Aside0.mk hc1
  clear hr1 hc1
  have H : (some ((strOfNums l0).toList == (strOfNums l1).toList)) = some r := h
  clear h
  obtain rfl := Option.some.inj H
  have hcv3 := Kd.C_string (P := Try.prog) (A := A0) (c := c0) Try.underlying26 Try.underlying5 Try.underlying9 HR0.out
  have hcv4 := Kd.C_string (P := Try.prog) (A := A1) (c := c1) Try.underlying26 Try.underlying5 Try.underlying9 HR1.out
  go_enter Try.func39, Try.ntmps39
  go_wp2
  go_ret
  exact ⟨by first | rfl | (simp; done) | (simp [*]; done), by repeat (first | exact Drawn0.refl _ | apply Drawn0.step)⟩

/-! ### bollardref01_Get: function 66 -/
mutual
def bollardref01_Get.j0 : Nat → List Int → Int → Int → Bool → Option (Int × Int)
  | 0, _, _, _, _ => none
  | k + 1, x0, x1, x2, x19 => if x19 = true then (some (0, 1)) else (if x1 > (wrap64 ((x0.length : Int) - x2)) then (some (0, 10)) else (bollardref01_Get.l0 k x0 x1 0 (wrap64 (x2 - 1))))
def bollardref01_Get.l0 : Nat → List Int → Int → Int → Int → Option (Int × Int)
  | 0, _, _, _, _ => none
  | k + 1, x0, x1, x8, x9 => if x9 ≥ 0 then (if 0 ≤ (wrap64 (x1 + x9)) then (if (wrap64 (x1 + x9)) < (x0.length : Int) then (bollardref01_Get.l0 k x0 x1 (wrap64 ((wrap64 (x8 * 256)) + (wrap64 (rd x0 (wrap64 (x1 + x9)))))) (wrap64 (x9 - 1))) else (none)) else (none)) else (some (x8, 0))
end
def bollardref01_Get.f (k : Nat) (l0 : List Int) (a1 : Int) (a2 : Int) : Option (Int × Int) := if a2 < 1 then (bollardref01_Get.j0 k l0 a1 a2 true) else (if a2 > 4 then (bollardref01_Get.j0 k l0 a1 a2 true) else (bollardref01_Get.j0 k l0 a1 a2 (decide (a1 < 0))))
theorem bollardref01_Get.mono_l : ∀ k, (∀ y0 y1 y2 y3, LeO (bollardref01_Get.j0 k y0 y1 y2 y3) (bollardref01_Get.j0 (k + 1) y0 y1 y2 y3)) ∧ (∀ y0 y1 y2 y3, LeO (bollardref01_Get.l0 k y0 y1 y2 y3) (bollardref01_Get.l0 (k + 1) y0 y1 y2 y3))
  | 0 => ⟨fun _ _ _ _ r h => by simp [bollardref01_Get.j0] at h, fun _ _ _ _ r h => by simp [bollardref01_Get.l0] at h⟩
  | k + 1 => by
    obtain ⟨ih0, ih1⟩ := bollardref01_Get.mono_l k
    refine ⟨?_, ?_⟩
    · intro y0 y1 y2 y3
      unfold bollardref01_Get.j0
      repeat' first
      | (with_reducible exact ih0 _ _ _ _)
      | (with_reducible exact ih1 _ _ _ _)
      | (with_reducible exact LeO.refl _)
      | (with_reducible exact LeO.none _)
      | (with_reducible refine LeO.ite ?_ ?_)
      | (with_reducible refine LeO.bind ?_ (fun _ => ?_))
      | exact ih0 _ _ _ _
      | exact ih1 _ _ _ _
      | exact LeO.none _
      | refine LeO.ite ?_ ?_
      | refine LeO.bind ?_ (fun _ => ?_)
    · intro y0 y1 y2 y3
      unfold bollardref01_Get.l0
      repeat' first
      | (with_reducible exact ih0 _ _ _ _)
      | (with_reducible exact ih1 _ _ _ _)
      | (with_reducible exact LeO.refl _)
      | (with_reducible exact LeO.none _)
      | (with_reducible refine LeO.ite ?_ ?_)
      | (with_reducible refine LeO.bind ?_ (fun _ => ?_))
      | exact ih0 _ _ _ _
      | exact ih1 _ _ _ _
      | exact LeO.none _
      | refine LeO.ite ?_ ?_
      | refine LeO.bind ?_ (fun _ => ?_)
theorem bollardref01_Get.mono : ∀ a0 a1 a2 k, LeO (bollardref01_Get.f k a0 a1 a2) (bollardref01_Get.f (k + 1) a0 a1 a2) := by
  intro a0 a1 a2 k
  obtain ⟨ih0, ih1⟩ := bollardref01_Get.mono_l k
  unfold bollardref01_Get.f
  repeat' first
      | (with_reducible exact ih0 _ _ _ _)
      | (with_reducible exact ih1 _ _ _ _)
      | (with_reducible exact LeO.refl _)
      | (with_reducible exact LeO.none _)
      | (with_reducible refine LeO.ite ?_ ?_)
      | (with_reducible refine LeO.bind ?_ (fun _ => ?_))
      | exact ih0 _ _ _ _
      | exact ih1 _ _ _ _
      | exact LeO.none _
      | refine LeO.ite ?_ ?_
      | refine LeO.bind ?_ (fun _ => ?_)
set_option maxHeartbeats 8000000 in
set_option maxRecDepth 100000 in
theorem bollardref01_Get.calls (k : Nat) (A0 : Option Addr) (c0 : Nat) (l0 : List Int) (a1 : Int) (a2 : Int) (r1 : Int) (r2 : Int) (w : World) (hr0 : Kd.C (Kd.int .u8) w A0 l0.length l0) (hc0 : l0.length ≤ c0) (h : bollardref01_Get.f k l0 a1 a2 = some (r1, r2)) :
    Calls Try.prog 66 #[.slice A0 l0.length c0, .int .i64 a1, .int .i64 a2] w fun e w' => e = .returned (.tuple #[.int .i64 r1, .int .i64 r2]) ∧ Drawn0 w w' := by
  have HR0 := Aside0.mk hr0
  have HC0 := Aside0.mk hc0
  clear hr0 hc0
  have H : (if a2 < 1 then (bollardref01_Get.j0 k l0 a1 a2 true) else (if a2 > 4 then (bollardref01_Get.j0 k l0 a1 a2 true) else (bollardref01_Get.j0 k l0 a1 a2 (decide (a1 < 0))))) = some (r1, r2) := h
  clear h
  have HC4 := Aside0.mk H
  clear H
  go_enter Try.func66, Try.ntmps66
  go_upto_region 1 with (fail)
  go_cut [19] (fun v19 wc => ∃ (kq : Nat) (x19_3 : Bool), v19 = .bool x19_3 ∧ Aside0 (bollardref01_Get.j0 kq l0 a1 a2 x19_3 = some (r1, r2)) ∧ Aside0 (kq ≤ k) ∧ Drawn0 w wc)
  case first =>
    have H := HC4.out
    clear HC4
    by_cases c5 : a2 < 1
    · rw [if_pos c5] at H
      have c5b0 : decide (a2 < 1) = true := decide_eq_true c5
      clear c5
      (first | rw [c5b0] | (simp only [i64_w, i32_w]; rw [c5b0]) | skip)
      have H' := Aside0.mk H
      clear H
      go_wp2
      go_meet
      case rel => exact ⟨_, (true), (by first | rfl | (simp; done) | (simp [*]; done)), H', ⟨by first | omega | exact Nat.le_refl _⟩, by repeat (first | exact Drawn0.refl _ | apply Drawn0.step)⟩
    · rw [if_neg c5] at H
      have c5b0 : decide (a2 < 1) = false := decide_eq_false c5
      clear c5
      (first | rw [c5b0] | (simp only [i64_w, i32_w]; rw [c5b0]) | skip)
      by_cases c6 : a2 > 4
      · rw [if_pos c6] at H
        have c6b0 : decide (4 < a2) = true := decide_eq_true c6
        clear c6
        have H' := Aside0.mk H
        clear H
        go_wp2
        go_meet
        case rel => exact ⟨_, (true), (by first | rfl | (simp; done) | (simp [*]; done)), H', ⟨by first | omega | exact Nat.le_refl _⟩, by repeat (first | exact Drawn0.refl _ | apply Drawn0.step)⟩
      · rw [if_neg c6] at H
        have c6b0 : decide (4 < a2) = false := decide_eq_false c6
        clear c6
        have H' := Aside0.mk H
        clear H
        go_wp2
        go_meet
        case rel => exact ⟨_, (decide (a1 < 0)), (by first | rfl | (simp; done) | (simp [*]; done)), H', ⟨by first | omega | exact Nat.le_refl _⟩, by repeat (first | exact Drawn0.refl _ | apply Drawn0.step)⟩
  case rest =>
    clear HC4
    try clear p2
    try clear c5
    try clear c5b0
    try clear c6
    try clear c6b0
    obtain ⟨kq, x19_3, rfl, HA, HJ3, ⟨mc3, rfl⟩⟩ := hcut
    cases kq with
    | zero => exact absurd HA.out (by simp [bollardref01_Get.j0])
    | succ kj3 =>
      have H := HA.out
      clear HA
      simp only [bollardref01_Get.j0] at H
      by_cases c7 : x19_3 = true
      · subst c7
        have H1 : (some (0, 1)) = some (r1, r2) := by rw [if_pos rfl] at H; exact H
        clear H
        have H := H1
        clear H1
        simp only [Option.some.injEq, Prod.mk.injEq] at H
        obtain ⟨rfl, rfl⟩ := H
        go_wp2
        go_ret2
        exact ⟨by first | rfl | (simp; done) | (simp [*]; done), by repeat (first | exact Drawn0.refl _ | apply Drawn0.step)⟩
      · replace c7 := Bool.eq_false_iff.mpr c7
        subst c7
        have H1 : (if a1 > (wrap64 ((l0.length : Int) - a2)) then (some (0, 10)) else (bollardref01_Get.l0 kj3 l0 a1 0 (wrap64 (a2 - 1)))) = some (r1, r2) := by rw [if_neg (show ¬ (false = true) by decide)] at H; exact H
        clear H
        have H := H1
        clear H1
        by_cases c8 : a1 > (wrap64 ((l0.length : Int) - a2))
        · rw [if_pos c8] at H
          have c8b0 : decide ((wrap64 ((l0.length : Int) - a2)) < a1) = true := decide_eq_true c8
          clear c8
          simp only [Option.some.injEq, Prod.mk.injEq] at H
          obtain ⟨rfl, rfl⟩ := H
          go_wp2
          go_ret2
          exact ⟨by first | rfl | (simp; done) | (simp [*]; done), by repeat (first | exact Drawn0.refl _ | apply Drawn0.step)⟩
        · rw [if_neg c8] at H
          have c8b0 : decide ((wrap64 ((l0.length : Int) - a2)) < a1) = false := decide_eq_false c8
          clear c8
          have H' := Aside0.mk H
          clear H
          go_wp2
          go_loopg [8, 9] kj3 (fun kq v8 v9 w' => ∃ (x8_2 : Int) (x9_2 : Int), v8 = .int .i64 x8_2 ∧ v9 = .int .i64 x9_2 ∧ Aside0 (bollardref01_Get.l0 kq l0 a1 x8_2 x9_2 = some (r1, r2)) ∧ Aside0 (kq ≤ kj3) ∧ Drawn0 w w')
          case atStart => exact ⟨(0), (wrap64 (a2 - 1)), (by first | rfl | (simp; done) | (simp [*]; done)), (by first | rfl | (simp; done) | (simp [*]; done)), H', ⟨Nat.le_refl _⟩, by repeat (first | exact Drawn0.refl _ | apply Drawn0.step)⟩
          case round =>
            clear H'
            try clear p2
            try clear c3
            try clear c5
            try clear c5b0
            try clear c6
            try clear c6b0
            try clear p6
            try clear c7
            try clear c8
            try clear c8b0
            try clear p2
            obtain ⟨x8_2, x9_2, rfl, rfl, HA, HK2, ⟨m2, rfl⟩⟩ := hrel
            cases gk with
            | zero => exact absurd HA.out (by simp [bollardref01_Get.l0])
            | succ k2 =>
              have H := HA.out
              clear HA
              simp only [bollardref01_Get.l0] at H
              by_cases c9 : x9_2 ≥ 0
              · rw [if_pos c9] at H
                have c9b0 : decide (0 ≤ x9_2) = true := decide_eq_true c9
                clear c9
                obtain ⟨ji10, hji10⟩ : ∃ j_ : Int, (wrap64 (a1 + x9_2)) = j_ := ⟨_, rfl⟩
                replace H : (if 0 ≤ (ji10) then (if (ji10) < (l0.length : Int) then (bollardref01_Get.l0 k2 l0 a1 (wrap64 ((wrap64 (x8_2 * 256)) + (wrap64 (rd l0 (ji10))))) (wrap64 (x9_2 - 1))) else (none)) else (none)) = some (r1, r2) := by first | (rw [hji10] at H; exact H) | (simp only [hji10] at H ⊢; exact H)
                have hji10w : (IntKind.i64.wrap (a1 + x9_2)) = ji10 := (i64_w _).trans hji10
                by_cases c11 : 0 ≤ (ji10)
                · rw [if_pos c11] at H
                  have c11b0 : decide (0 ≤ (ji10)) = true := decide_eq_true c11
                  clear c11
                  by_cases c12 : (ji10) < (l0.length : Int)
                  · rw [if_pos c12] at H
                    have c12b0 : decide ((ji10) < (l0.length : Int)) = true := decide_eq_true c12
                    clear c12
                    have H' := Aside0.mk H
                    clear H
                    have p147 : 0 ≤ ((ji10) : Int) := of_decide_eq_true (by first | (with_reducible assumption) | assumption)
                    have q147 : (ji10) < (l0.length : Int) := of_decide_eq_true (by first | (with_reducible assumption) | assumption)
                    obtain ⟨ad147, e147, hx147_0⟩ := Kd.at_int HR0.out (ji10) p147 q147
                    cases e147
                    replace p147 := eq_true p147
                    replace q147 := eq_true q147
                    go_wp2
                    go_roundg k2
                    case measure => have := HJ3.out; have := HK2.out; omega
                    case rel => exact ⟨(wrap64 ((wrap64 (x8_2 * 256)) + (wrap64 (rd l0 (ji10))))), (wrap64 (x9_2 - 1)), (by first | rfl | (simp; done) | (simp only [← hji10] <;> (first | rfl | simp)) | (simp [*]; done)), (by first | rfl | (simp; done) | (simp [*]; done)), H', ⟨by have := HJ3.out; have := HK2.out; omega⟩, by repeat (first | exact Drawn0.refl _ | apply Drawn0.step)⟩
                  · rw [if_neg c12] at H
                    exact absurd H (by simp)
                · rw [if_neg c11] at H
                  exact absurd H (by simp)
              · rw [if_neg c9] at H
                have c9b0 : decide (0 ≤ x9_2) = false := decide_eq_false c9
                clear c9
                simp only [Option.some.injEq, Prod.mk.injEq] at H
                obtain ⟨rfl, rfl⟩ := H
                go_wp2
                go_ret2
                exact ⟨by first | rfl | (simp; done) | (simp [*]; done), by repeat (first | exact Drawn0.refl _ | apply Drawn0.step)⟩

/-! ### bollardref03_get: function 47 -/
def bollardref03_get.f (k : Nat) (l0 : List Int) (a1 : Int) (a2 : Int) : Option (Int) := (bollardref01_Get.f k l0 a1 a2).bind fun bt148 => (some bt148.1)
theorem bollardref03_get.mono : ∀ a0 a1 a2 k, LeO (bollardref03_get.f k a0 a1 a2) (bollardref03_get.f (k + 1) a0 a1 a2) := by
  intro a0 a1 a2 k
  unfold bollardref03_get.f
  repeat' first
      | (with_reducible exact bollardref01_Get.mono _ _ _ _)
      | (with_reducible exact LeO.refl _)
      | (with_reducible exact LeO.none _)
      | (with_reducible refine LeO.ite ?_ ?_)
      | (with_reducible refine LeO.bind ?_ (fun _ => ?_))
      | exact bollardref01_Get.mono _ _ _ _
      | exact LeO.none _
      | refine LeO.ite ?_ ?_
      | refine LeO.bind ?_ (fun _ => ?_)
set_option maxHeartbeats 8000000 in
set_option maxRecDepth 100000 in
theorem bollardref03_get.calls (k : Nat) (A0 : Option Addr) (c0 : Nat) (l0 : List Int) (a1 : Int) (a2 : Int) (r : Int) (w : World) (hr0 : Kd.C (Kd.int .u8) w A0 l0.length l0) (hc0 : l0.length ≤ c0) (h : bollardref03_get.f k l0 a1 a2 = some r) :
    Calls Try.prog 47 #[.slice A0 l0.length c0, .int .i64 a1, .int .i64 a2] w fun e w' => e = .returned (.int .i64 r) ∧ Drawn0 w w' := by
  have HR0 := Aside0.mk hr0
  have HC0 := Aside0.mk hc0
  clear hr0 hc0
  have H : ((bollardref01_Get.f k l0 a1 a2).bind fun bt148 => (some bt148.1)) = some r := h
  clear h
  replace H := Option.bind_eq_some_iff.mp H
  obtain ⟨⟨t148, t149⟩, A40, H⟩ := H
  replace H : (some t148) = some r := H
  have A4 := Aside0.mk A40
  clear A40
  obtain rfl := Option.some.inj H
  go_enter Try.func47, Try.ntmps47
  go_wp2_with (first | ((with_reducible refine gate_callee (f := 66) rfl ?_); refine goesL_ (some 13) rfl rfl Try.func66 (by kernel_rfl) rfl #[.slice A0 l0.length c0, .int .i64 a1, .int .i64 a2] rfl (by (try simp only [List.map_toArray, List.map_cons, List.map_nil]); first | done | rfl | (simp only [List.length_drop, List.length_take]; rfl)) ?_; (with_reducible refine (bollardref01_Get.calls k _ _ l0 a1 a2 t148 t149 _ ?side1 ?side2 A4.out).mono ?_); (case side1 => repeat (first | exact HR0.out | (with_reducible refine Kd.C_alloc ?_ _) | (with_reducible refine Kd.C_drewN ?_ _) | (with_reducible refine Kd.C_drew ?_))); (case side2 => exact HC0.out); rintro e w' ⟨rfl, ⟨nd, rfl⟩⟩; refine ⟨_, rfl, ?_⟩))
  go_ret
  exact ⟨by first | rfl | (simp; done) | (simp [*]; done), by repeat (first | exact Drawn0.refl _ | apply Drawn0.step)⟩


/-! ### bollardref03_DecodeEntry: function 19 -/
def bollardref03_DecodeEntry.f (k : Nat) (l0 : List Int) : Option (Int × ByteArray × Int) := if (l0.length : Int) = 16 then (if 13 < rd l0 2 then some (0, ⟨#[]⟩, 6) else (if 0 ≤ rd l0 2 then ((bollardref03_get.f k l0 0 2).bind fun t => ((bollardref03_EncodeEntry.f k t (strOfNums ((l0.take (3 + rd l0 2).toNat).drop 3))).bind fun u => (if u.2 = 0 then ((bollardref03_same.f l0 u.1).bind fun s => (if s = true then some (t, strOfNums ((l0.take (3 + rd l0 2).toNat).drop 3), 0) else some (0, ⟨#[]⟩, 6))) else some (0, ⟨#[]⟩, 6)))) else none)) else some (0, ⟨#[]⟩, 6)
theorem bollardref03_DecodeEntry.mono : ∀ a0 k, LeO (bollardref03_DecodeEntry.f k a0) (bollardref03_DecodeEntry.f (k + 1) a0) := by
  intro a0 k
  unfold bollardref03_DecodeEntry.f
  exact LeO.ite (LeO.ite (LeO.refl _) (LeO.ite (LeO.bind (bollardref03_get.mono _ _ _ _) (fun _ => LeO.bind (bollardref03_EncodeEntry.mono _ _ _) (fun _ => LeO.refl _))) (LeO.refl _))) (LeO.refl _)
set_option maxHeartbeats 8000000 in
set_option maxRecDepth 100000 in
theorem bollardref03_DecodeEntry.calls (k : Nat) (A0 : Option Addr) (c0 : Nat) (l0 : List Int) (r1 : Int) (r2 : ByteArray) (r3 : Int) (w : World) (hr0 : Kd.C (Kd.int .u8) w A0 l0.length l0) (hc0 : l0.length ≤ c0) (h : bollardref03_DecodeEntry.f k l0 = some (r1, r2, r3)) :
    Calls Try.prog 19 #[.slice A0 l0.length c0] w fun e w' => e = .returned (.tuple #[.agg #[.int .i64 r1, .string r2], .int .i64 r3]) ∧ Below w.heap.size w w' := by
  have hu36 := Try.underlying36
  unfold bollardref03_DecodeEntry.f at h
  have HR0 := Aside0.mk hr0
  have HC0 := Aside0.mk hc0
  have HB := Aside0.mk (Below.refl w.heap.size w)
  clear hr0 hc0
  by_cases hlen : (l0.length : Int) = 16
  · rw [if_pos hlen] at h
    have hb0 : ((l0.length : Int) != 16) = false := bne_eq_false_iff_eq.mpr hlen
    have HLEN := Aside0.mk (show l0.length = 16 by omega)
    have q0 : ((2 : Int) < (l0.length : Int)) = True := eq_true (by omega)
    clear hlen
    obtain ⟨ad, e, hx⟩ := Kd.at_int HR0.out 2 (by decide) (by have := HLEN.out; omega)
    cases e
    by_cases hbig : 13 < rd l0 2
    · rw [if_pos hbig] at h
      have hbb : decide (13 < rd l0 2) = true := decide_eq_true hbig
      simp only [Option.some.injEq, Prod.mk.injEq] at h
      obtain ⟨rfl, rfl, rfl⟩ := h
      clear hbig
      go_enter Try.func19, Try.ntmps19
      go_wp2_with (first
        | ((with_reducible refine gate_dst (N := 2) rfl ?_); refine box_event ?hg (N := 2) ?hd (cs := #[.int .i64 0, .string ⟨#[]⟩]) (t := 36) ?hr ?_; (case hd => rfl); (case hg => rfl); (case hr => first | (go_simp; done) | (go_simp; rfl)); intro gb hg w1 hbox hb; have n0_ := Aside0.mk (below_step (w2 := w1) (by repeat (first | (with_reducible first | exact HB.out | apply below_alloc | apply pw_below_drewN | apply below_drew1) | exact HB.out)) hb); have BKb := Aside0.mk hbox; have GE := Aside0.mk (show w.heap.size ≤ gb by rw [hg]; exact Nat.le_refl _); clear HB; have HB := n0_; clear n0_ hb hbox hg; have hx1 : w1.cell? { block := ad.block, off := ad.off + 2, spot := none } = some (.int .u8 (rd l0 2)) := pw_cell_below HB.out hx; clear hx; have hcb0 : w1.cell? ⟨gb, 0, none⟩ = some (.int .i64 0) := (blk_cell BKb.out 0).trans rfl; have hcb1 : w1.cell? ⟨gb, 1, none⟩ = some (.string ⟨#[]⟩) := (blk_cell BKb.out 1).trans rfl; have hfb0 := blk_frozen BKb.out 0; have hfb1 := blk_frozen BKb.out 1))
      refine bodyPost_ret (results_ct rfl _ _ gb 36 #[.int .i64 0, .string ⟨#[]⟩] (0, 0) _ rfl (by (with_reducible repeat (first | refine blk_drewN ?_ _ | refine blk_drew ?_ | refine blk_alloc ?_ _)); refine blk_put (cs := #[.int .i64 0, .string ⟨#[]⟩]) ?_ 1 _ rfl; (with_reducible repeat (first | refine blk_drewN ?_ _ | refine blk_drew ?_ | refine blk_alloc ?_ _)); refine blk_put (cs := #[.int .i64 0, .string ⟨#[]⟩]) ?_ 0 _ rfl; (with_reducible repeat (first | refine blk_drewN ?_ _ | refine blk_drew ?_ | refine blk_alloc ?_ _)); exact BKb.out) hu36 rfl (by kernel_rfl)) rfl ?_
      exact ⟨rfl, by repeat (first | (with_reducible first | exact HB.out | apply below_alloc | apply pw_below_drewN | apply below_drew1 | refine below_set ?_ GE.out) | exact HB.out)⟩
    · rw [if_neg hbig] at h
      have hbb : decide (13 < rd l0 2) = false := decide_eq_false hbig
      by_cases hnn : 0 ≤ rd l0 2
      · rw [if_pos hnn] at h
        obtain ⟨t, ht, h2⟩ := Option.bind_eq_some_iff.mp h
        obtain ⟨⟨u1, u2⟩, hu, h3⟩ := Option.bind_eq_some_iff.mp h2
        have HT := Aside0.mk ht
        have HU := Aside0.mk hu
        have hw : IntKind.i64.wrap (3 + IntKind.i64.wrap (rd l0 2)) = 3 + rd l0 2 := by rw [IntKind.wrap_i64, IntKind.wrap_i64]; omega
        obtain ⟨i0, hi, hz0, hz1, hz2⟩ := info_parts info5
        obtain ⟨A1, hcut, hA1, hC1⟩ := print_mid_of (P := Try.prog) (Value.int .u8) 0 26 5 .i64 .i64 Try.underlying26 hi hz1 (some ad) c0 l0 3 (3 + rd l0 2) (by decide) (by omega) (by have := HLEN.out; omega) HC0.out
        have HC1 := Aside0.mk hC1
        have HA1 := Aside0.mk (Kd.C_of_reads (h1 := fun _ => rfl) (hA1 _ (Kd.reads_of_C HR0.out)))
        clear h h2 ht hu hnn hbig hA1 hC1
        obtain ⟨A1, n1, c1, hcut, HA1⟩ : ∃ (A1 : Option Addr) (n1 c1 : Nat), (∀ W : World, (Instr.slice 26 (.slice (some ad) l0.length c0) (some (.int .i64 3)) (some (.int .i64 (IntKind.i64.wrap (3 + IntKind.i64.wrap (rd l0 2))))) none).run Try.prog W = .ok (.slice A1 n1 c1) W) ∧ Aside0 (Kd.C (Kd.int .u8) w A1 n1 ((l0.take (3 + rd l0 2).toNat).drop 3)) := ⟨A1, _, _, by rw [hw]; exact hcut, ⟨HA1.out⟩⟩
        obtain ⟨nm, hnm⟩ : ∃ nm, strOfNums ((l0.take (3 + rd l0 2).toNat).drop 3) = nm := ⟨_, rfl⟩
        have HCV := Aside0.mk (fun (W : World) (h : Kd.C (Kd.int .u8) W A1 n1 ((l0.take (3 + rd l0 2).toNat).drop 3)) => (Kd.C_string (P := Try.prog) (A := A1) (c := c1) Try.underlying26 Try.underlying5 Try.underlying9 h).trans (by rw [hnm]))
        rw [hnm] at HU h3
        clear hnm hw
        by_cases hq : u2 = 0
        · rw [if_pos hq] at h3
          have hqb : (u2 != 0) = false := bne_eq_false_iff_eq.mpr hq
          clear hq
          obtain ⟨sm, hs, h4⟩ := Option.bind_eq_some_iff.mp h3
          have HS := Aside0.mk hs
          clear h3 hs
          by_cases hst : sm = true
          · subst hst
            rw [if_pos rfl] at h4
            simp only [Option.some.injEq, Prod.mk.injEq] at h4
            obtain ⟨rfl, rfl, rfl⟩ := h4
            go_enter Try.func19, Try.ntmps19
            go_wp2_with (first
              | ((with_reducible refine gate_dst (N := 2) rfl ?_); refine box_event ?hg (N := 2) ?hd (cs := #[.int .i64 0, .string ⟨#[]⟩]) (t := 36) ?hr ?_; (case hd => rfl); (case hg => rfl); (case hr => first | (go_simp; done) | (go_simp; rfl)); intro gb hg w1 hbox hb; have n0_ := Aside0.mk (below_step (w2 := w1) (by repeat (first | (with_reducible first | exact HB.out | apply below_alloc | apply pw_below_drewN | apply below_drew1) | exact HB.out)) hb); have BKb := Aside0.mk hbox; have GE := Aside0.mk (show w.heap.size ≤ gb by rw [hg]; exact Nat.le_refl _); clear HB; have HB := n0_; clear n0_ hb hbox hg; have hx1 : w1.cell? { block := ad.block, off := ad.off + 2, spot := none } = some (.int .u8 (rd l0 2)) := pw_cell_below HB.out hx; clear hx))
            have HX1 := Aside0.mk hx1
            have hnb : ∀ n : Nat, ((w1.drewN n).alloc (.cells #[.int .i64 0, .string ⟨#[]⟩] 36)).heap[w1.heap.size]? = some (.cells #[.int .i64 0, .string ⟨#[]⟩] 36 (0, 0)) := fun n => blk_new (w1.drewN n) _
            have hn0 : ∀ n : Nat, ((w1.drewN n).alloc (.cells #[.int .i64 0, .string ⟨#[]⟩] 36)).cell? ⟨w1.heap.size, 0, none⟩ = some (.int .i64 0) := fun n => (blk_cell (hnb n) 0).trans rfl
            have hn1 : ∀ n : Nat, ((w1.drewN n).alloc (.cells #[.int .i64 0, .string ⟨#[]⟩] 36)).cell? ⟨w1.heap.size, 1, none⟩ = some (.string ⟨#[]⟩) := fun n => (blk_cell (hnb n) 1).trans rfl
            have hz0 : ∀ n : Nat, ((w1.drewN n).alloc (.cells #[.int .i64 0, .string ⟨#[]⟩] 36)).frozen? ⟨w1.heap.size, 0, none⟩ = false := fun n => blk_frozen (hnb n) 0
            have hz1 : ∀ n : Nat, ((w1.drewN n).alloc (.cells #[.int .i64 0, .string ⟨#[]⟩] 36)).frozen? ⟨w1.heap.size, 1, none⟩ = false := fun n => blk_frozen (hnb n) 1
            clear hnb
            have hcv : (convert 26 9 (.slice A1 n1 c1)).run Try.prog w1 = .ok (.string nm) w1 := HCV.out _ (Kd.C_below HA1.out HB.out)
            go_region_held3 (fun X => X.cell? { block := ad.block, off := ad.off + 2, spot := none } = some (.int .u8 (rd l0 2)) ∧ (convert 26 9 (.slice A1 n1 c1)).run Try.prog X = .ok (.string nm) X) (first | (refine ⟨pw_cell_below (w := w1) (by repeat (first | exact Below.refl _ _ | apply below_alloc | apply pw_below_drewN | apply below_drew1 | refine below_set ?_ (Nat.le_refl _))) HX1.out, HCV.out _ (Kd.C_below (Kd.C_below HA1.out HB.out) (by repeat (first | exact Below.refl _ _ | apply below_alloc | apply pw_below_drewN | apply below_drew1 | refine below_set ?_ (Nat.le_refl _))))⟩) | fail) (first | (go_at_call 47; refine (bollardref03_get.calls k (some ad) c0 l0 0 2 t _ (by repeat (first | exact Kd.C_below HR0.out HB.out | refine Kd.C_alloc ?_ _ | refine Kd.C_drewN ?_ _ | refine Kd.C_drew ?_)) HC0.out HT.out).mono ?_; rintro e w' ⟨rfl, ⟨nd, rfl⟩⟩) | fail)
            all_goals (go_wp2_with (first
              | (go_at_call 17; clear hn0 hn1 hz0 hz1; refine (bollardref03_EncodeEntry.calls k t nm u1 u2 _ HU.out).mono ?_; rintro e w7 ⟨v0, rfl, hr7, hb7⟩; have HR7 := Aside0.mk hr7; have HW7 := Aside0.mk (below_step (w := w1) (w2 := w7) (by repeat (first | exact Below.refl _ _ | apply below_alloc | apply pw_below_drewN | apply below_drew1 | refine below_set ?_ (Nat.le_refl _))) hb7); have BKe := Aside0.mk (blk_below (g := w1.heap.size) (w1 := w7) (o := .cells #[.int .i64 t, .string nm] 36 (0, 0)) (by (with_reducible repeat (first | refine blk_drewN ?_ _ | refine blk_drew ?_)); refine blk_put (cs := #[.int .i64 t, .string ⟨#[]⟩]) ?_ 1 _ rfl; (with_reducible repeat (first | refine blk_drewN ?_ _ | refine blk_drew ?_)); refine blk_put (cs := #[.int .i64 0, .string ⟨#[]⟩]) ?_ 0 _ rfl; (with_reducible repeat (first | refine blk_drewN ?_ _ | refine blk_drew ?_)); exact blk_new _ _) hb7); clear hr7 hb7; have n0_ := Aside0.mk (blk_below BKb.out HW7.out); clear BKb; have BKb := n0_; clear n0_; have n0_ := Aside0.mk (below_then (w2 := w7) HB.out HB.out.size HW7.out); clear HB; have HB := n0_; clear n0_; obtain ⟨A7, c7, e7⟩ := Kd.R_slice HR7.out; subst e7; have hce0 : w7.cell? ⟨w1.heap.size, 0, none⟩ = some (.int .i64 t) := (blk_cell BKe.out 0).trans rfl; have hce1 : w7.cell? ⟨w1.heap.size, 1, none⟩ = some (.string nm) := (blk_cell BKe.out 1).trans rfl; have hfe0 := blk_frozen BKe.out 0; have hfe1 := blk_frozen BKe.out 1; have hcb0 : w7.cell? ⟨gb, 0, none⟩ = some (.int .i64 0) := (blk_cell BKb.out 0).trans rfl; have hcb1 : w7.cell? ⟨gb, 1, none⟩ = some (.string ⟨#[]⟩) := (blk_cell BKb.out 1).trans rfl; have hfb0 := blk_frozen BKb.out 0; have hfb1 := blk_frozen BKb.out 1)
              | (go_at_call 39; refine (bollardref03_same.calls (some ad) c0 l0 A7 c7 u1 true _ (by repeat (first | exact Kd.C_below HR0.out HB.out | refine Kd.C_drewN ?_ _ | refine Kd.C_drew ?_)) HC0.out (by repeat (first | exact (Kd.R_reads' HR7.out).2.2 | refine Kd.C_drewN ?_ _ | refine Kd.C_drew ?_)) (Kd.R_reads' HR7.out).2.1 HS.out).mono ?_; rintro e w9 ⟨rfl, m9, rfl⟩)))
            all_goals (refine bodyPost_ret (results_ct rfl _ _ gb 36 #[.int .i64 t, .string nm] (0, 0) _ rfl (by (with_reducible repeat (first | refine blk_drewN ?_ _ | refine blk_drew ?_ | refine blk_alloc ?_ _)); refine blk_put (cs := #[.int .i64 t, .string ⟨#[]⟩]) ?_ 1 _ rfl; (with_reducible repeat (first | refine blk_drewN ?_ _ | refine blk_drew ?_ | refine blk_alloc ?_ _)); refine blk_put (cs := #[.int .i64 0, .string ⟨#[]⟩]) ?_ 0 _ rfl; (with_reducible repeat (first | refine blk_drewN ?_ _ | refine blk_drew ?_ | refine blk_alloc ?_ _)); exact BKb.out) hu36 rfl (by kernel_rfl)) rfl ?_)
            all_goals (exact ⟨rfl, by repeat (first | (with_reducible first | exact HB.out | apply below_alloc | apply pw_below_drewN | apply below_drew1 | refine below_set ?_ GE.out) | exact HB.out)⟩)
          · obtain rfl : sm = false := by cases sm; rfl; exact absurd rfl hst
            rw [if_neg (by decide)] at h4
            simp only [Option.some.injEq, Prod.mk.injEq] at h4
            obtain ⟨rfl, rfl, rfl⟩ := h4
            go_enter Try.func19, Try.ntmps19
            go_wp2_with (first
              | ((with_reducible refine gate_dst (N := 2) rfl ?_); refine box_event ?hg (N := 2) ?hd (cs := #[.int .i64 0, .string ⟨#[]⟩]) (t := 36) ?hr ?_; (case hd => rfl); (case hg => rfl); (case hr => first | (go_simp; done) | (go_simp; rfl)); intro gb hg w1 hbox hb; have n0_ := Aside0.mk (below_step (w2 := w1) (by repeat (first | (with_reducible first | exact HB.out | apply below_alloc | apply pw_below_drewN | apply below_drew1) | exact HB.out)) hb); have BKb := Aside0.mk hbox; have GE := Aside0.mk (show w.heap.size ≤ gb by rw [hg]; exact Nat.le_refl _); clear HB; have HB := n0_; clear n0_ hb hbox hg; have hx1 : w1.cell? { block := ad.block, off := ad.off + 2, spot := none } = some (.int .u8 (rd l0 2)) := pw_cell_below HB.out hx; clear hx))
            have HX1 := Aside0.mk hx1
            have hnb : ∀ n : Nat, ((w1.drewN n).alloc (.cells #[.int .i64 0, .string ⟨#[]⟩] 36)).heap[w1.heap.size]? = some (.cells #[.int .i64 0, .string ⟨#[]⟩] 36 (0, 0)) := fun n => blk_new (w1.drewN n) _
            have hn0 : ∀ n : Nat, ((w1.drewN n).alloc (.cells #[.int .i64 0, .string ⟨#[]⟩] 36)).cell? ⟨w1.heap.size, 0, none⟩ = some (.int .i64 0) := fun n => (blk_cell (hnb n) 0).trans rfl
            have hn1 : ∀ n : Nat, ((w1.drewN n).alloc (.cells #[.int .i64 0, .string ⟨#[]⟩] 36)).cell? ⟨w1.heap.size, 1, none⟩ = some (.string ⟨#[]⟩) := fun n => (blk_cell (hnb n) 1).trans rfl
            have hz0 : ∀ n : Nat, ((w1.drewN n).alloc (.cells #[.int .i64 0, .string ⟨#[]⟩] 36)).frozen? ⟨w1.heap.size, 0, none⟩ = false := fun n => blk_frozen (hnb n) 0
            have hz1 : ∀ n : Nat, ((w1.drewN n).alloc (.cells #[.int .i64 0, .string ⟨#[]⟩] 36)).frozen? ⟨w1.heap.size, 1, none⟩ = false := fun n => blk_frozen (hnb n) 1
            clear hnb
            have hcv : (convert 26 9 (.slice A1 n1 c1)).run Try.prog w1 = .ok (.string nm) w1 := HCV.out _ (Kd.C_below HA1.out HB.out)
            go_region_held3 (fun X => X.cell? { block := ad.block, off := ad.off + 2, spot := none } = some (.int .u8 (rd l0 2)) ∧ (convert 26 9 (.slice A1 n1 c1)).run Try.prog X = .ok (.string nm) X) (first | (refine ⟨pw_cell_below (w := w1) (by repeat (first | exact Below.refl _ _ | apply below_alloc | apply pw_below_drewN | apply below_drew1 | refine below_set ?_ (Nat.le_refl _))) HX1.out, HCV.out _ (Kd.C_below (Kd.C_below HA1.out HB.out) (by repeat (first | exact Below.refl _ _ | apply below_alloc | apply pw_below_drewN | apply below_drew1 | refine below_set ?_ (Nat.le_refl _))))⟩) | fail) (first | (go_at_call 47; refine (bollardref03_get.calls k (some ad) c0 l0 0 2 t _ (by repeat (first | exact Kd.C_below HR0.out HB.out | refine Kd.C_alloc ?_ _ | refine Kd.C_drewN ?_ _ | refine Kd.C_drew ?_)) HC0.out HT.out).mono ?_; rintro e w' ⟨rfl, ⟨nd, rfl⟩⟩) | fail)
            all_goals (go_wp2_with (first
              | (go_at_call 17; clear hn0 hn1 hz0 hz1; refine (bollardref03_EncodeEntry.calls k t nm u1 u2 _ HU.out).mono ?_; rintro e w7 ⟨v0, rfl, hr7, hb7⟩; have HR7 := Aside0.mk hr7; have HW7 := Aside0.mk (below_step (w := w1) (w2 := w7) (by repeat (first | exact Below.refl _ _ | apply below_alloc | apply pw_below_drewN | apply below_drew1 | refine below_set ?_ (Nat.le_refl _))) hb7); have BKe := Aside0.mk (blk_below (g := w1.heap.size) (w1 := w7) (o := .cells #[.int .i64 t, .string nm] 36 (0, 0)) (by (with_reducible repeat (first | refine blk_drewN ?_ _ | refine blk_drew ?_)); refine blk_put (cs := #[.int .i64 t, .string ⟨#[]⟩]) ?_ 1 _ rfl; (with_reducible repeat (first | refine blk_drewN ?_ _ | refine blk_drew ?_)); refine blk_put (cs := #[.int .i64 0, .string ⟨#[]⟩]) ?_ 0 _ rfl; (with_reducible repeat (first | refine blk_drewN ?_ _ | refine blk_drew ?_)); exact blk_new _ _) hb7); clear hr7 hb7; have n0_ := Aside0.mk (blk_below BKb.out HW7.out); clear BKb; have BKb := n0_; clear n0_; have n0_ := Aside0.mk (below_then (w2 := w7) HB.out HB.out.size HW7.out); clear HB; have HB := n0_; clear n0_; obtain ⟨A7, c7, e7⟩ := Kd.R_slice HR7.out; subst e7; have hce0 : w7.cell? ⟨w1.heap.size, 0, none⟩ = some (.int .i64 t) := (blk_cell BKe.out 0).trans rfl; have hce1 : w7.cell? ⟨w1.heap.size, 1, none⟩ = some (.string nm) := (blk_cell BKe.out 1).trans rfl; have hfe0 := blk_frozen BKe.out 0; have hfe1 := blk_frozen BKe.out 1; have hcb0 : w7.cell? ⟨gb, 0, none⟩ = some (.int .i64 0) := (blk_cell BKb.out 0).trans rfl; have hcb1 : w7.cell? ⟨gb, 1, none⟩ = some (.string ⟨#[]⟩) := (blk_cell BKb.out 1).trans rfl; have hfb0 := blk_frozen BKb.out 0; have hfb1 := blk_frozen BKb.out 1)
              | (go_at_call 39; refine (bollardref03_same.calls (some ad) c0 l0 A7 c7 u1 false _ (by repeat (first | exact Kd.C_below HR0.out HB.out | refine Kd.C_drewN ?_ _ | refine Kd.C_drew ?_)) HC0.out (by repeat (first | exact (Kd.R_reads' HR7.out).2.2 | refine Kd.C_drewN ?_ _ | refine Kd.C_drew ?_)) (Kd.R_reads' HR7.out).2.1 HS.out).mono ?_; rintro e w9 ⟨rfl, m9, rfl⟩)))
            all_goals (refine bodyPost_ret (results_ct rfl _ _ gb 36 #[.int .i64 0, .string ⟨#[]⟩] (0, 0) _ rfl (by (with_reducible repeat (first | refine blk_drewN ?_ _ | refine blk_drew ?_ | refine blk_alloc ?_ _)); refine blk_put (cs := #[.int .i64 0, .string ⟨#[]⟩]) ?_ 1 _ rfl; (with_reducible repeat (first | refine blk_drewN ?_ _ | refine blk_drew ?_ | refine blk_alloc ?_ _)); refine blk_put (cs := #[.int .i64 0, .string ⟨#[]⟩]) ?_ 0 _ rfl; (with_reducible repeat (first | refine blk_drewN ?_ _ | refine blk_drew ?_ | refine blk_alloc ?_ _)); exact BKb.out) hu36 rfl (by kernel_rfl)) rfl ?_)
            all_goals (exact ⟨rfl, by repeat (first | (with_reducible first | exact HB.out | apply below_alloc | apply pw_below_drewN | apply below_drew1 | refine below_set ?_ GE.out) | exact HB.out)⟩)
        · rw [if_neg hq] at h3
          have hqb : (u2 != 0) = true := bne_iff_ne.mpr hq
          simp only [Option.some.injEq, Prod.mk.injEq] at h3
          obtain ⟨rfl, rfl, rfl⟩ := h3
          clear hq
          go_enter Try.func19, Try.ntmps19
          go_wp2_with (first
            | ((with_reducible refine gate_dst (N := 2) rfl ?_); refine box_event ?hg (N := 2) ?hd (cs := #[.int .i64 0, .string ⟨#[]⟩]) (t := 36) ?hr ?_; (case hd => rfl); (case hg => rfl); (case hr => first | (go_simp; done) | (go_simp; rfl)); intro gb hg w1 hbox hb; have n0_ := Aside0.mk (below_step (w2 := w1) (by repeat (first | (with_reducible first | exact HB.out | apply below_alloc | apply pw_below_drewN | apply below_drew1) | exact HB.out)) hb); have BKb := Aside0.mk hbox; have GE := Aside0.mk (show w.heap.size ≤ gb by rw [hg]; exact Nat.le_refl _); clear HB; have HB := n0_; clear n0_ hb hbox hg; have hx1 : w1.cell? { block := ad.block, off := ad.off + 2, spot := none } = some (.int .u8 (rd l0 2)) := pw_cell_below HB.out hx; clear hx))
          have HX1 := Aside0.mk hx1
          have hnb : ∀ n : Nat, ((w1.drewN n).alloc (.cells #[.int .i64 0, .string ⟨#[]⟩] 36)).heap[w1.heap.size]? = some (.cells #[.int .i64 0, .string ⟨#[]⟩] 36 (0, 0)) := fun n => blk_new (w1.drewN n) _
          have hn0 : ∀ n : Nat, ((w1.drewN n).alloc (.cells #[.int .i64 0, .string ⟨#[]⟩] 36)).cell? ⟨w1.heap.size, 0, none⟩ = some (.int .i64 0) := fun n => (blk_cell (hnb n) 0).trans rfl
          have hn1 : ∀ n : Nat, ((w1.drewN n).alloc (.cells #[.int .i64 0, .string ⟨#[]⟩] 36)).cell? ⟨w1.heap.size, 1, none⟩ = some (.string ⟨#[]⟩) := fun n => (blk_cell (hnb n) 1).trans rfl
          have hz0 : ∀ n : Nat, ((w1.drewN n).alloc (.cells #[.int .i64 0, .string ⟨#[]⟩] 36)).frozen? ⟨w1.heap.size, 0, none⟩ = false := fun n => blk_frozen (hnb n) 0
          have hz1 : ∀ n : Nat, ((w1.drewN n).alloc (.cells #[.int .i64 0, .string ⟨#[]⟩] 36)).frozen? ⟨w1.heap.size, 1, none⟩ = false := fun n => blk_frozen (hnb n) 1
          clear hnb
          have hcv : (convert 26 9 (.slice A1 n1 c1)).run Try.prog w1 = .ok (.string nm) w1 := HCV.out _ (Kd.C_below HA1.out HB.out)
          go_region_held3 (fun X => X.cell? { block := ad.block, off := ad.off + 2, spot := none } = some (.int .u8 (rd l0 2)) ∧ (convert 26 9 (.slice A1 n1 c1)).run Try.prog X = .ok (.string nm) X) (first | (refine ⟨pw_cell_below (w := w1) (by repeat (first | exact Below.refl _ _ | apply below_alloc | apply pw_below_drewN | apply below_drew1 | refine below_set ?_ (Nat.le_refl _))) HX1.out, HCV.out _ (Kd.C_below (Kd.C_below HA1.out HB.out) (by repeat (first | exact Below.refl _ _ | apply below_alloc | apply pw_below_drewN | apply below_drew1 | refine below_set ?_ (Nat.le_refl _))))⟩) | fail) (first | (go_at_call 47; refine (bollardref03_get.calls k (some ad) c0 l0 0 2 t _ (by repeat (first | exact Kd.C_below HR0.out HB.out | refine Kd.C_alloc ?_ _ | refine Kd.C_drewN ?_ _ | refine Kd.C_drew ?_)) HC0.out HT.out).mono ?_; rintro e w' ⟨rfl, ⟨nd, rfl⟩⟩) | fail)
          all_goals (go_wp2_with (first
            | (go_at_call 17; clear hn0 hn1 hz0 hz1; refine (bollardref03_EncodeEntry.calls k t nm u1 u2 _ HU.out).mono ?_; rintro e w7 ⟨v0, rfl, hr7, hb7⟩; have HR7 := Aside0.mk hr7; have HW7 := Aside0.mk (below_step (w := w1) (w2 := w7) (by repeat (first | exact Below.refl _ _ | apply below_alloc | apply pw_below_drewN | apply below_drew1 | refine below_set ?_ (Nat.le_refl _))) hb7); have BKe := Aside0.mk (blk_below (g := w1.heap.size) (w1 := w7) (o := .cells #[.int .i64 t, .string nm] 36 (0, 0)) (by (with_reducible repeat (first | refine blk_drewN ?_ _ | refine blk_drew ?_)); refine blk_put (cs := #[.int .i64 t, .string ⟨#[]⟩]) ?_ 1 _ rfl; (with_reducible repeat (first | refine blk_drewN ?_ _ | refine blk_drew ?_)); refine blk_put (cs := #[.int .i64 0, .string ⟨#[]⟩]) ?_ 0 _ rfl; (with_reducible repeat (first | refine blk_drewN ?_ _ | refine blk_drew ?_)); exact blk_new _ _) hb7); clear hr7 hb7; have n0_ := Aside0.mk (blk_below BKb.out HW7.out); clear BKb; have BKb := n0_; clear n0_; have n0_ := Aside0.mk (below_then (w2 := w7) HB.out HB.out.size HW7.out); clear HB; have HB := n0_; clear n0_; obtain ⟨A7, c7, e7⟩ := Kd.R_slice HR7.out; subst e7; have hce0 : w7.cell? ⟨w1.heap.size, 0, none⟩ = some (.int .i64 t) := (blk_cell BKe.out 0).trans rfl; have hce1 : w7.cell? ⟨w1.heap.size, 1, none⟩ = some (.string nm) := (blk_cell BKe.out 1).trans rfl; have hfe0 := blk_frozen BKe.out 0; have hfe1 := blk_frozen BKe.out 1; have hcb0 : w7.cell? ⟨gb, 0, none⟩ = some (.int .i64 0) := (blk_cell BKb.out 0).trans rfl; have hcb1 : w7.cell? ⟨gb, 1, none⟩ = some (.string ⟨#[]⟩) := (blk_cell BKb.out 1).trans rfl; have hfb0 := blk_frozen BKb.out 0; have hfb1 := blk_frozen BKb.out 1)))
          all_goals (refine bodyPost_ret (results_ct rfl _ _ gb 36 #[.int .i64 0, .string ⟨#[]⟩] (0, 0) _ rfl (by (with_reducible repeat (first | refine blk_drewN ?_ _ | refine blk_drew ?_ | refine blk_alloc ?_ _)); refine blk_put (cs := #[.int .i64 0, .string ⟨#[]⟩]) ?_ 1 _ rfl; (with_reducible repeat (first | refine blk_drewN ?_ _ | refine blk_drew ?_ | refine blk_alloc ?_ _)); refine blk_put (cs := #[.int .i64 0, .string ⟨#[]⟩]) ?_ 0 _ rfl; (with_reducible repeat (first | refine blk_drewN ?_ _ | refine blk_drew ?_ | refine blk_alloc ?_ _)); exact BKb.out) hu36 rfl (by kernel_rfl)) rfl ?_)
          all_goals (exact ⟨rfl, by repeat (first | (with_reducible first | exact HB.out | apply below_alloc | apply pw_below_drewN | apply below_drew1 | refine below_set ?_ GE.out) | exact HB.out)⟩)
      · rw [if_neg hnn] at h
        cases h
  · rw [if_neg hlen] at h
    have hb0 : ((l0.length : Int) != 16) = true := bne_iff_ne.mpr hlen
    simp only [Option.some.injEq, Prod.mk.injEq] at h
    obtain ⟨rfl, rfl, rfl⟩ := h
    clear hlen
    go_enter Try.func19, Try.ntmps19
    go_wp2_with (first
      | ((with_reducible refine gate_dst (N := 2) rfl ?_); refine box_event ?hg (N := 2) ?hd (cs := #[.int .i64 0, .string ⟨#[]⟩]) (t := 36) ?hr ?_; (case hd => rfl); (case hg => rfl); (case hr => first | (go_simp; done) | (go_simp; rfl)); intro gb hg w1 hbox hb; have n0_ := Aside0.mk (below_step (w2 := w1) (by repeat (first | (with_reducible first | exact HB.out | apply below_alloc | apply pw_below_drewN | apply below_drew1) | exact HB.out)) hb); have BKb := Aside0.mk hbox; have GE := Aside0.mk (show w.heap.size ≤ gb by rw [hg]; exact Nat.le_refl _); clear HB; have HB := n0_; clear n0_ hb hbox hg; have hcb0 : w1.cell? ⟨gb, 0, none⟩ = some (.int .i64 0) := (blk_cell BKb.out 0).trans rfl; have hcb1 : w1.cell? ⟨gb, 1, none⟩ = some (.string ⟨#[]⟩) := (blk_cell BKb.out 1).trans rfl; have hfb0 := blk_frozen BKb.out 0; have hfb1 := blk_frozen BKb.out 1))
    refine bodyPost_ret (results_ct rfl _ _ gb 36 #[.int .i64 0, .string ⟨#[]⟩] (0, 0) _ rfl (by (with_reducible repeat (first | refine blk_drewN ?_ _ | refine blk_drew ?_ | refine blk_alloc ?_ _)); refine blk_put (cs := #[.int .i64 0, .string ⟨#[]⟩]) ?_ 1 _ rfl; (with_reducible repeat (first | refine blk_drewN ?_ _ | refine blk_drew ?_ | refine blk_alloc ?_ _)); refine blk_put (cs := #[.int .i64 0, .string ⟨#[]⟩]) ?_ 0 _ rfl; (with_reducible repeat (first | refine blk_drewN ?_ _ | refine blk_drew ?_ | refine blk_alloc ?_ _)); exact BKb.out) hu36 rfl (by kernel_rfl)) rfl ?_
    exact ⟨rfl, by repeat (first | (with_reducible first | exact HB.out | apply below_alloc | apply pw_below_drewN | apply below_drew1 | refine below_set ?_ GE.out) | exact HB.out)⟩

/-! ### layout_IsName: function 20 -/
def layout_IsName.f (k : Nat) (a0 : ByteArray) : Option (Bool) := (layout_spelt.f k a0).bind fun t150 => (if t150 = true then (if a0.toList = ([46] : List UInt8) then (some false) else (some (a0.toList != ([46, 46] : List UInt8)))) else (some false))
theorem layout_IsName.mono : ∀ a0 k, LeO (layout_IsName.f k a0) (layout_IsName.f (k + 1) a0) := by
  intro a0 k
  unfold layout_IsName.f
  repeat' first
      | (with_reducible exact layout_spelt.mono _ _)
      | (with_reducible exact LeO.refl _)
      | (with_reducible exact LeO.none _)
      | (with_reducible refine LeO.ite ?_ ?_)
      | (with_reducible refine LeO.bind ?_ (fun _ => ?_))
      | exact layout_spelt.mono _ _
      | exact LeO.none _
      | refine LeO.ite ?_ ?_
      | refine LeO.bind ?_ (fun _ => ?_)
set_option maxHeartbeats 8000000 in
set_option maxRecDepth 100000 in
theorem layout_IsName.calls (k : Nat) (a0 : ByteArray) (r : Bool) (w : World) (h : layout_IsName.f k a0 = some r) :
    Calls Try.prog 20 #[.string a0] w fun e w' => e = .returned (.bool r) ∧ Drawn0 w w' := by
  have H : ((layout_spelt.f k a0).bind fun t150 => (if t150 = true then (if a0.toList = ([46] : List UInt8) then (some false) else (some (a0.toList != ([46, 46] : List UInt8)))) else (some false))) = some r := h
  clear h
  replace H := Option.bind_eq_some_iff.mp H
  obtain ⟨t150, A20, H⟩ := H
  replace H : (if t150 = true then (if a0.toList = ([46] : List UInt8) then (some false) else (some (a0.toList != ([46, 46] : List UInt8)))) else (some false)) = some r := H
  have A2 := Aside0.mk A20
  clear A20
  by_cases c3 : t150 = true
  · subst c3
    have H1 : (if a0.toList = ([46] : List UInt8) then (some false) else (some (a0.toList != ([46, 46] : List UInt8)))) = some r := by rw [if_pos rfl] at H; exact H
    clear H
    have H := H1
    clear H1
    by_cases c4 : a0.toList = ([46] : List UInt8)
    · rw [if_pos c4] at H
      have c4b0 : (a0.toList == ([46] : List UInt8)) = true := beq_iff_eq.mpr c4
      have c4b1 : (a0.toList != ([46] : List UInt8)) = false := bne_eq_false_iff_eq.mpr c4
      clear c4
      obtain rfl := Option.some.inj H
      go_enter Try.func20, Try.ntmps20
      go_wp2_with (first | ((with_reducible refine gate_callee (f := 40) rfl ?_); refine goesL_ (some 4) rfl rfl Try.func40 (by kernel_rfl) rfl #[.string a0] rfl (by (try simp only [List.map_toArray, List.map_cons, List.map_nil]); first | done | rfl | (simp only [List.length_drop, List.length_take]; rfl)) ?_; (with_reducible refine (layout_spelt.calls k a0 true _ A2.out).mono ?_); rintro e w' ⟨rfl, ⟨nd, rfl⟩⟩; refine ⟨_, rfl, ?_⟩))
      go_ret
      exact ⟨by first | rfl | (simp; done) | (simp [*]; done), by repeat (first | exact Drawn0.refl _ | apply Drawn0.step)⟩
    · rw [if_neg c4] at H
      have c4b0 : (a0.toList == ([46] : List UInt8)) = false := beq_eq_false_iff_ne.mpr c4
      have c4b1 : (a0.toList != ([46] : List UInt8)) = true := bne_iff_ne.mpr c4
      obtain rfl := Option.some.inj H
      go_enter Try.func20, Try.ntmps20
      go_wp2_with (first | ((with_reducible refine gate_callee (f := 40) rfl ?_); refine goesL_ (some 4) rfl rfl Try.func40 (by kernel_rfl) rfl #[.string a0] rfl (by (try simp only [List.map_toArray, List.map_cons, List.map_nil]); first | done | rfl | (simp only [List.length_drop, List.length_take]; rfl)) ?_; (with_reducible refine (layout_spelt.calls k a0 true _ A2.out).mono ?_); rintro e w' ⟨rfl, ⟨nd, rfl⟩⟩; refine ⟨_, rfl, ?_⟩))
      go_ret
      exact ⟨by first | rfl | (simp; done) | (simp [*]; done), by repeat (first | exact Drawn0.refl _ | apply Drawn0.step)⟩
  · replace c3 := Bool.eq_false_iff.mpr c3
    subst c3
    have H1 : (some false) = some r := by rw [if_neg (show ¬ (false = true) by decide)] at H; exact H
    clear H
    have H := H1
    clear H1
    obtain rfl := Option.some.inj H
    go_enter Try.func20, Try.ntmps20
    go_wp2_with (first | ((with_reducible refine gate_callee (f := 40) rfl ?_); refine goesL_ (some 4) rfl rfl Try.func40 (by kernel_rfl) rfl #[.string a0] rfl (by (try simp only [List.map_toArray, List.map_cons, List.map_nil]); first | done | rfl | (simp only [List.length_drop, List.length_take]; rfl)) ?_; (with_reducible refine (layout_spelt.calls k a0 false _ A2.out).mono ?_); rintro e w' ⟨rfl, ⟨nd, rfl⟩⟩; refine ⟨_, rfl, ?_⟩))
    go_ret
    exact ⟨by first | rfl | (simp; done) | (simp [*]; done), by repeat (first | exact Drawn0.refl _ | apply Drawn0.step)⟩

-- NOT PRINTED: function 4 (bollardlaw03_LayoutEntries)

end Go.Proofs.Ytdaeanodgnmknaa.XLayoutEntries
