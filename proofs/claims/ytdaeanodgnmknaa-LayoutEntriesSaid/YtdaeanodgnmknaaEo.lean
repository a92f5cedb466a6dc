/- LayoutEntries, walked. -/
import Derived.Test.YtdaeanodgnmknaaEn
import Derived.BigQuiet
import Derived.Deep.QuietTactic
namespace Go.Proofs.Ytdaeanodgnmknaa.Rd
open Go.RowKit Go.Proofs.Ytdaeanodgnmknaa.XRd Go.Proofs.Ytdaeanodgnmknaa.XLayoutEntries Go.Proofs.YtdaeanodgnmknaaW.PrintWords Go.Proofs.YtdaeanodgnmknaaW.PrintLast Go.Proofs.YtdaeanodgnmknaaW.PrintMore
set_option linter.unusedVariables false
set_option linter.unusedSimpArgs false

theorem quiet_drawn {f : FuncId} {args : Array Value} {w : World} {n : Nat} {v : Value} (h : Calls Try.prog f args (w.drewN n) fun e w' => e = .returned v ∧ Drawn0 (w.drewN n) w') : Calls Try.prog f args (w.drewN n) fun e w'' => e = .returned v ∧ ∃ m, w'' = w.drewN m :=
  Calls.quiet_of (h.mono fun _ _ h2 => ⟨h2.1, h2.2.out⟩)
theorem isName_a : isNameS ⟨#[97]⟩ = true := by unfold isNameS speltS; rw [ByteArray.toList_eq]; decide
set_option maxHeartbeats 8000000 in
set_option maxRecDepth 100000 in
theorem LayoutEntries_walk (a0 : Int) (a1 : ByteArray) (A0 : Option Addr) (c0 : Nat) (l0 : List Int) (w : World) (hs : a1.size ≤ maxLen) (hr0 : Kd.C (Kd.int .u8) w A0 l0.length l0) (hc0 : l0.length ≤ c0) (hl : l0.length ≤ 140737488351232) (hwf : ∀ n ∈ l0, (Lit.int .u8 n).wf = true) :
    Calls Try.prog 4 #[.agg #[.int .i64 a0, .string a1], .slice A0 l0.length c0] w fun e w' => e = .returned (.bool true) ∧ Below w.heap.size w w' := by
  have hu36 := Try.underlying36
  have hs' : a1.size ≤ 9223372036854775807 := by simpa [maxLen] using hs
  have HE1 := Aside0.mk (ee_f a0 a1 hs' (a1.size + 700) (by omega))
  have HE2 := Aside0.mk (re_f a0 a1 hs' (a1.size + 700) (by omega))
  have HD1 := Aside0.mk (de_f l0 hwf 600 (by omega))
  have HD2 := Aside0.mk (rde_f l0 hwf 600 (by omega))
  have HN1 := Aside0.mk (isName_f a1 hs' (a1.size + 700) (by omega))
  have HN2 := Aside0.mk (rname_f a1 hs' (a1.size + 700) (by omega))
  have HN3 := Aside0.mk ((isName_f ⟨#[97]⟩ (by decide) 5 (by decide)).trans (by rw [isName_a]))
  have HCL := Aside0.mk (show bytes_Clone.f l0 = some l0 by unfold bytes_Clone.f; rw [if_pos (by omega)])
  generalize encE a0 a1 = X at HE1 HE2
  obtain ⟨x1, x2⟩ := X
  generalize decE l0 = Y at HD1 HD2
  obtain ⟨y1, y2, y3⟩ := Y
  generalize isNameS a1 = nb at HN1 HN2
  have HQ1 := Aside0.mk (show bytes_Equal.f x1 x1 = some true by unfold bytes_Equal.f; simp)
  have HQ2 := Aside0.mk (show bytes_Equal.f l0 l0 = some true by unfold bytes_Equal.f; simp)
  have HR0 := Aside0.mk hr0
  have HC0 := Aside0.mk hc0
  have HB := Aside0.mk (Below.refl w.heap.size w)
  have CL := Aside0.mk hr0
  have t1 : (x2 == x2) = true := beq_self_eq_true x2
  have t2 : (y3 == y3) = true := beq_self_eq_true y3
  have t3 : (y1 == y1) = true := beq_self_eq_true y1
  have t4 : (y2.toList == y2.toList) = true := beq_self_eq_true _
  have t5 : (nb == nb) = true := beq_self_eq_true _
  clear hs hs' hr0 hc0 hl hwf
  go_enter Try.func4, Try.ntmps4
  go_wp2_with (first
    | ((with_reducible refine gate_dst (N := 2) rfl ?_); refine box_event ?hg (N := 2) ?hd (cs := #[.int .i64 a0, .string a1]) (t := 36) ?hr ?_; (case hd => rfl); (case hg => rfl); (case hr => first | (go_simp; done) | (go_simp; rfl)); intro gs hg w1 hbox hb; have n0_ := Aside0.mk (below_step (w2 := w1) (by repeat (first | exact Below.refl _ _ | exact HB.out | apply below_alloc | apply pw_below_drewN | apply below_drew1)) hb); clear HB; have HB := n0_; clear n0_; have n0_ := Aside0.mk (Kd.C_below CL.out HB.out); clear CL; have CL := n0_; clear n0_; have BKs := Aside0.mk hbox; clear hbox hb hg; have hcs0 : w1.cell? ⟨gs, 0, none⟩ = some (.int .i64 a0) := (blk_cell BKs.out 0).trans rfl; have hcs1 : w1.cell? ⟨gs, 1, none⟩ = some (.string a1) := (blk_cell BKs.out 1).trans rfl; have hfs0 := blk_frozen BKs.out 0; have hfs1 := blk_frozen BKs.out 1)
    | (go_at_call 16; clear hcs0 hcs1 hfs0 hfs1; refine (layout_EncodeEntry.calls _ a0 a1 x1 x2 _ HE1.out).mono ?_; rintro e w2 ⟨v0, rfl, hr, hb⟩; have HW := Aside0.mk (below_step (w := w1) (w2 := w2) (by repeat (first | exact Below.refl _ _ | apply below_alloc | apply pw_below_drewN | apply below_drew1)) hb); have HR := Aside0.mk hr; clear hr hb; obtain ⟨A2, c2, e2⟩ := Kd.R_slice HR.out; subst e2; have CX := Aside0.mk (Kd.R_reads' HR.out).2.2; have LX := Aside0.mk (Kd.R_reads' HR.out).2.1; clear HR; have n0_ := Aside0.mk (Kd.C_below CL.out HW.out); clear CL; have CL := n0_; clear n0_; have n0_ := Aside0.mk (blk_below BKs.out HW.out); clear BKs; have BKs := n0_; clear n0_; have n0_ := Aside0.mk (below_then HB.out HB.out.size HW.out); clear HB; have HB := n0_; clear n0_; clear HW HE1; have hcs0 : w2.cell? ⟨gs, 0, none⟩ = some (.int .i64 a0) := (blk_cell BKs.out 0).trans rfl; have hcs1 : w2.cell? ⟨gs, 1, none⟩ = some (.string a1) := (blk_cell BKs.out 1).trans rfl; have hfs0 := blk_frozen BKs.out 0; have hfs1 := blk_frozen BKs.out 1)
    | (go_at_call 17; clear hcs0 hcs1 hfs0 hfs1; refine (bollardref03_EncodeEntry.calls _ a0 a1 x1 x2 _ HE2.out).mono ?_; rintro e w3 ⟨v0, rfl, hr, hb⟩; have HW := Aside0.mk (below_step (w := w2) (w2 := w3) (by repeat (first | exact Below.refl _ _ | apply below_alloc | apply pw_below_drewN | apply below_drew1)) hb); have HR := Aside0.mk hr; clear hr hb; obtain ⟨A3, c3, e3⟩ := Kd.R_slice HR.out; subst e3; have CY := Aside0.mk (Kd.R_reads' HR.out).2.2; have LY := Aside0.mk (Kd.R_reads' HR.out).2.1; clear HR; have n0_ := Aside0.mk (Kd.C_below CL.out HW.out); clear CL; have CL := n0_; clear n0_; have n0_ := Aside0.mk (Kd.C_below CX.out HW.out); clear CX; have CX := n0_; clear n0_; have n0_ := Aside0.mk (blk_below BKs.out HW.out); clear BKs; have BKs := n0_; clear n0_; have n0_ := Aside0.mk (below_then HB.out HB.out.size HW.out); clear HB; have HB := n0_; clear n0_; clear HW HE2)
    | (go_at_call 12; refine (bytes_Clone.calls A0 c0 l0 l0 _ (by repeat (first | exact CL.out | refine Kd.C_drewN ?_ _ | refine Kd.C_drew ?_)) HC0.out HCL.out).mono ?_; rintro e w4 ⟨v0, rfl, hr, hb⟩; have HW := Aside0.mk (below_step (w := w3) (w2 := w4) (by repeat (first | exact Below.refl _ _ | apply below_alloc | apply pw_below_drewN | apply below_drew1)) hb); have HR := Aside0.mk hr; clear hr hb; obtain ⟨A4, c4, e4⟩ := Kd.R_slice HR.out; subst e4; have CG := Aside0.mk (Kd.R_reads' HR.out).2.2; have LG := Aside0.mk (Kd.R_reads' HR.out).2.1; clear HR; have n0_ := Aside0.mk (Kd.C_below CL.out HW.out); clear CL; have CL := n0_; clear n0_; have n0_ := Aside0.mk (Kd.C_below CX.out HW.out); clear CX; have CX := n0_; clear n0_; have n0_ := Aside0.mk (Kd.C_below CY.out HW.out); clear CY; have CY := n0_; clear n0_; have n0_ := Aside0.mk (blk_below BKs.out HW.out); clear BKs; have BKs := n0_; clear n0_; have n0_ := Aside0.mk (below_then HB.out HB.out.size HW.out); clear HB; have HB := n0_; clear n0_; clear HW HCL)
    | (go_at_call 18; refine (layout_DecodeEntry.calls _ A4 c4 l0 y1 y2 y3 _ (by repeat (first | exact CG.out | refine Kd.C_drewN ?_ _ | refine Kd.C_drew ?_)) LG.out HD1.out).mono ?_; rintro e w5 ⟨rfl, hb⟩; have HW := Aside0.mk (below_step (w := w4) (w2 := w5) (by repeat (first | exact Below.refl _ _ | apply below_alloc | apply pw_below_drewN | apply below_drew1)) hb); clear hb; have n0_ := Aside0.mk (Kd.C_below CL.out HW.out); clear CL; have CL := n0_; clear n0_; have n0_ := Aside0.mk (Kd.C_below CX.out HW.out); clear CX; have CX := n0_; clear n0_; have n0_ := Aside0.mk (Kd.C_below CY.out HW.out); clear CY; have CY := n0_; clear n0_; have n0_ := Aside0.mk (Kd.C_below CG.out HW.out); clear CG; have CG := n0_; clear n0_; have n0_ := Aside0.mk (blk_below BKs.out HW.out); clear BKs; have BKs := n0_; clear n0_; have n0_ := Aside0.mk (below_then HB.out HB.out.size HW.out); clear HB; have HB := n0_; clear n0_; clear HW HD1)
    | ((with_reducible refine gate_dst (N := 10) rfl ?_); refine box_event ?hg (N := 10) ?hd (cs := #[.int .i64 0, .string ⟨#[]⟩]) (t := 36) ?hr ?_; (case hd => rfl); (case hg => rfl); (case hr => first | (go_simp; done) | (go_simp; rfl)); intro gp hg w6 hbox hb; have HXp := Aside0.mk (below_step (w := w5) (w2 := w6) (by repeat (first | exact Below.refl _ _ | apply below_alloc | apply pw_below_drewN | apply below_drew1)) hb); have Gp := Aside0.mk (show w5.heap.size ≤ gp by rw [hg]; exact Nat.le_refl _); have BKp := Aside0.mk hbox; clear hbox hb hg; have hcp0 : w6.cell? ⟨gp, 0, none⟩ = some (.int .i64 0) := (blk_cell BKp.out 0).trans rfl; have hcp1 : w6.cell? ⟨gp, 1, none⟩ = some (.string ⟨#[]⟩) := (blk_cell BKp.out 1).trans rfl; have hfp0 := blk_frozen BKp.out 0; have hfp1 := blk_frozen BKp.out 1)
    | (go_at_call 19; clear hcp0 hcp1 hfp0 hfp1; refine (bollardref03_DecodeEntry.calls _ A0 c0 l0 y1 y2 y3 _ (Kd.C_below CL.out (by repeat (first | exact Below.refl _ _ | exact HXp.out | refine below_set ?_ Gp.out | apply below_alloc | apply pw_below_drewN | apply below_drew1))) HC0.out HD2.out).mono ?_; rintro e w7 ⟨rfl, hb⟩; have HW := Aside0.mk (below_step (w := w5) (w2 := w7) (by repeat (first | exact Below.refl _ _ | exact HXp.out | refine below_set ?_ Gp.out | apply below_alloc | apply pw_below_drewN | apply below_drew1)) hb); have n0_ := Aside0.mk (blk_below (w1 := w7) (o := .cells #[.int .i64 y1, .string y2] 36 (0, 0)) (by (with_reducible repeat (first | refine blk_drewN ?_ _ | refine blk_drew ?_)); refine blk_put (cs := #[.int .i64 y1, .string ⟨#[]⟩]) ?_ 1 _ rfl; (with_reducible repeat (first | refine blk_drewN ?_ _ | refine blk_drew ?_)); refine blk_put (cs := #[.int .i64 0, .string ⟨#[]⟩]) ?_ 0 _ rfl; (with_reducible repeat (first | refine blk_drewN ?_ _ | refine blk_drew ?_)); exact BKp.out) hb); clear BKp; have BKp := n0_; clear n0_; clear hb; have n0_ := Aside0.mk (Kd.C_below CL.out HW.out); clear CL; have CL := n0_; clear n0_; have n0_ := Aside0.mk (Kd.C_below CX.out HW.out); clear CX; have CX := n0_; clear n0_; have n0_ := Aside0.mk (Kd.C_below CY.out HW.out); clear CY; have CY := n0_; clear n0_; have n0_ := Aside0.mk (Kd.C_below CG.out HW.out); clear CG; have CG := n0_; clear n0_; have n0_ := Aside0.mk (blk_below BKs.out HW.out); clear BKs; have BKs := n0_; clear n0_; have n0_ := Aside0.mk (below_then HB.out HB.out.size HW.out); clear HB; have HB := n0_; clear n0_; clear HW HD2 HXp Gp)
    | ((with_reducible refine gate_dst (N := 12) rfl ?_); refine box_event ?hg (N := 12) ?hd (cs := #[.int .i64 0, .string ⟨#[]⟩]) (t := 36) ?hr ?_; (case hd => rfl); (case hg => rfl); (case hr => first | (go_simp; done) | (go_simp; rfl)); intro gq hg w8 hbox hb; have HXq := Aside0.mk (below_step (w := w7) (w2 := w8) (by repeat (first | exact Below.refl _ _ | apply below_alloc | apply pw_below_drewN | apply below_drew1)) hb); have Gq := Aside0.mk (show w7.heap.size ≤ gq by rw [hg]; exact Nat.le_refl _); have BKq := Aside0.mk hbox; clear hbox hb hg; have hcq0 : w8.cell? ⟨gq, 0, none⟩ = some (.int .i64 0) := (blk_cell BKq.out 0).trans rfl; have hcq1 : w8.cell? ⟨gq, 1, none⟩ = some (.string ⟨#[]⟩) := (blk_cell BKq.out 1).trans rfl; have hfq0 := blk_frozen BKq.out 0; have hfq1 := blk_frozen BKq.out 1))
  have HW : Aside0 (Below w7.heap.size w7 ((w8.setCell ⟨gq, 0, none⟩ (.int .i64 y1)).setCell ⟨gq, 1, none⟩ (.string y2))) := ⟨(by repeat (first | exact Below.refl _ _ | exact HXq.out | refine below_set ?_ Gq.out | apply below_alloc | apply pw_below_drewN | apply below_drew1))⟩
  have BKq2 : Aside0 (((w8.setCell ⟨gq, 0, none⟩ (.int .i64 y1)).setCell ⟨gq, 1, none⟩ (.string y2)).heap[gq]? = some (.cells #[.int .i64 y1, .string y2] 36 (0, 0))) := ⟨(by (with_reducible repeat (first | refine blk_drewN ?_ _ | refine blk_drew ?_)); refine blk_put (cs := #[.int .i64 y1, .string ⟨#[]⟩]) ?_ 1 _ rfl; (with_reducible repeat (first | refine blk_drewN ?_ _ | refine blk_drew ?_)); refine blk_put (cs := #[.int .i64 0, .string ⟨#[]⟩]) ?_ 0 _ rfl; (with_reducible repeat (first | refine blk_drewN ?_ _ | refine blk_drew ?_)); exact BKq.out)⟩
  clear hcq0 hcq1 hfq0 hfq1 BKq HXq Gq
  generalize ((w8.setCell ⟨gq, 0, none⟩ (.int .i64 y1)).setCell ⟨gq, 1, none⟩ (.string y2)) = w9 at *
  have n0_ := Aside0.mk (Kd.C_below CL.out HW.out)
  clear CL
  have CL := n0_
  clear n0_
  have n0_ := Aside0.mk (Kd.C_below CX.out HW.out)
  clear CX
  have CX := n0_
  clear n0_
  have n0_ := Aside0.mk (Kd.C_below CY.out HW.out)
  clear CY
  have CY := n0_
  clear n0_
  have n0_ := Aside0.mk (Kd.C_below CG.out HW.out)
  clear CG
  have CG := n0_
  clear n0_
  have n0_ := Aside0.mk (blk_below BKs.out HW.out)
  clear BKs
  have BKs := n0_
  clear n0_
  have n0_ := Aside0.mk (blk_below BKp.out HW.out)
  clear BKp
  have BKp := n0_
  clear n0_
  have n0_ := Aside0.mk (below_then HB.out HB.out.size HW.out)
  clear HB
  have HB := n0_
  clear n0_
  have hcs0 : w9.cell? ⟨gs, 0, none⟩ = some (.int .i64 a0) := (blk_cell BKs.out 0).trans rfl
  have hcs1 : w9.cell? ⟨gs, 1, none⟩ = some (.string a1) := (blk_cell BKs.out 1).trans rfl
  have hfs0 := blk_frozen BKs.out 0
  have hfs1 := blk_frozen BKs.out 1
  have hcp0 : w9.cell? ⟨gp, 0, none⟩ = some (.int .i64 y1) := (blk_cell BKp.out 0).trans rfl
  have hcp1 : w9.cell? ⟨gp, 1, none⟩ = some (.string y2) := (blk_cell BKp.out 1).trans rfl
  have hfp0 := blk_frozen BKp.out 0
  have hfp1 := blk_frozen BKp.out 1
  have hcq20 : w9.cell? ⟨gq, 0, none⟩ = some (.int .i64 y1) := (blk_cell BKq2.out 0).trans rfl
  have hcq21 : w9.cell? ⟨gq, 1, none⟩ = some (.string y2) := (blk_cell BKq2.out 1).trans rfl
  have hfq20 := blk_frozen BKq2.out 0
  have hfq21 := blk_frozen BKq2.out 1
  clear hfs0 hfs1 hfp0 hfp1 hfq20 hfq21 BKq2 HW BKs BKp
  have Q1 : ∀ n : Nat, Calls Try.prog 15 #[.slice A2 x1.length c2, .slice A3 x1.length c3] (w9.drewN n) fun e w'' => e = .returned (.bool true) ∧ ∃ m, w'' = w9.drewN m := fun n => quiet_drawn (bytes_Equal.calls A2 c2 x1 A3 c3 x1 true _ (Kd.C_drewN CX.out _) LX.out (Kd.C_drewN CY.out _) LY.out HQ1.out)
  have Q2 : ∀ n : Nat, Calls Try.prog 15 #[.slice A4 l0.length c4, .slice A0 l0.length c0] (w9.drewN n) fun e w'' => e = .returned (.bool true) ∧ ∃ m, w'' = w9.drewN m := fun n => quiet_drawn (bytes_Equal.calls A4 c4 l0 A0 c0 l0 true _ (Kd.C_drewN CG.out _) LG.out (Kd.C_drewN CL.out _) HC0.out HQ2.out)
  have Q3 : ∀ n : Nat, Calls Try.prog 20 #[.string a1] (w9.drewN n) fun e w'' => e = .returned (.bool nb) ∧ ∃ m, w'' = w9.drewN m := fun n => quiet_drawn (layout_IsName.calls _ a1 nb _ HN1.out)
  have Q4 : ∀ n : Nat, Calls Try.prog 21 #[.string a1] (w9.drewN n) fun e w'' => e = .returned (.bool nb) ∧ ∃ m, w'' = w9.drewN m := fun n => quiet_drawn (bollardref03_IsName.calls _ a1 nb _ HN2.out)
  have Q5 : ∀ n : Nat, Calls Try.prog 20 #[.string ⟨#[97]⟩] (w9.drewN n) fun e w'' => e = .returned (.bool true) ∧ ∃ m, w'' = w9.drewN m := fun n => quiet_drawn (layout_IsName.calls _ ⟨#[97]⟩ true _ HN3.out)
  have B := Aside0.mk (And.intro Q1 (And.intro Q2 (And.intro Q3 (And.intro Q4 Q5))))
  clear Q1 Q2 Q3 Q4 Q5
  go_quiet (with_reducible first
    | exact B.out.1 _
    | exact B.out.2.1 _
    | exact B.out.2.2.1 _
    | exact B.out.2.2.2.1 _
    | exact B.out.2.2.2.2 _)
  go_wp2
  go_ret
  exact ⟨rfl, pw_below_drewN HB.out _⟩
end Go.Proofs.Ytdaeanodgnmknaa.Rd
