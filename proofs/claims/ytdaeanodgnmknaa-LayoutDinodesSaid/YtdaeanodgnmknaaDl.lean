/- LayoutDinodes, walked. -/
import Derived.Test.YtdaeanodgnmknaaDh
namespace Go.Proofs.Ytdaeanodgnmknaa.Di
open Go.RowKit Go.Proofs.Ytdaeanodgnmknaa.Rd Go.Proofs.Ytdaeanodgnmknaa.XLayoutDinodes Go.Proofs.YtdaeanodgnmknaaW.PrintWords Go.Proofs.YtdaeanodgnmknaaW.PrintLast Go.Proofs.YtdaeanodgnmknaaW.PrintMore
set_option linter.unusedVariables false
set_option linter.unusedSimpArgs false
def zD : Array Value := dn 0 0 0 0 0 0 0 0 0
theorem dnT_equal (x : D9) (W : World) : (Op.equalIn 10000 59 (.agg (dnT x)) (.agg (dnT x))).run Try.prog W = .ok true W := by
  unfold dnT
  rw [dn_equal]
  simp
theorem dnT_eql (x : D9) (W : World) : (Go.binOp .eql 59 (.agg (dnT x)) (.agg (dnT x))).run Try.prog W = .ok (.bool true) W := by
  rw [show dnT x = dnT x from rfl, run_eql_struct, dnT_equal]
  rfl
theorem dnT_neq (x : D9) (W : World) : (Go.binOp .neq 59 (.agg (dnT x)) (.agg (dnT x))).run Try.prog W = .ok (.bool false) W := by
  rw [run_neq_struct, dnT_equal]
  rfl
theorem dn_open {w : World} {x : Int × Int × Int × List Int × Int × Int} {cs : Array Value} (hK : (Kd.pair (Kd.int .i64) (Kd.pair (Kd.int .i64) (Kd.pair (Kd.int .i64) (Kd.pair (Kd.arr 4 (Kd.int .i64) (by decide)) (Kd.pair (Kd.int .i64) (Kd.int .i64)))))).K w x cs.toList) : ∃ m l s : Int, ∃ ds : Int × Int × Int × Int, ∃ u v : Int, cs = dn m l s ds.1 ds.2.1 ds.2.2.1 ds.2.2.2 u v := by
  obtain ⟨m, l, s, ds, u, v⟩ := x
  obtain ⟨_, _, h0, h1, _, _, rfl, h2, _, _, rfl, h3, _, _, rfl, h4, _, _, rfl, h5, h6⟩ := hK
  obtain ⟨k1, rfl⟩ := Kd.arr_cells (enc := Value.int .i64) (h1 := fun _ => rfl) h4
  obtain rfl := h1
  obtain rfl := h2
  obtain rfl := h3
  obtain rfl := h5
  obtain rfl := h6
  match ds, k1 with
  | [a, b, c, d], _ => exact ⟨m, l, s, (a, b, c, d), u, v, Array.toList_inj.1 (by rw [h0]; rfl)⟩
set_option maxHeartbeats 8000000 in
set_option maxRecDepth 100000 in
theorem LayoutDinodes_walk (m l s a b c d u v : Int) (A0 : Option Addr) (c0 : Nat) (l0 : List Int) (w : World) (hr0 : Kd.C (Kd.int .u8) w A0 l0.length l0) (hc0 : l0.length ≤ c0) (hl : l0.length ≤ 140737488351232) (hwf : ∀ x ∈ l0, 0 ≤ x ∧ x ≤ 255) :
    Calls Try.prog 7 #[.agg (dn m l s a b c d u v), .slice A0 l0.length c0] w fun e w' => e = .returned (.bool true) ∧ Below w.heap.size w w' := by
  have hu59 := Try.underlying59
  have HWF := Aside0.mk hwf
  have HCL := Aside0.mk (show bytes_Clone.f l0 = some l0 by unfold bytes_Clone.f; rw [if_pos (by omega)])
  obtain ⟨⟨x1, x2⟩, hx⟩ : ∃ X, X = encD m l s a b c d u v := ⟨_, rfl⟩
  obtain ⟨⟨Y, y4⟩, hy⟩ : ∃ Y, Y = decD l0 := ⟨_, rfl⟩
  have HX := Aside0.mk hx.symm
  have HD := Aside0.mk hy.symm
  have HQ1 := Aside0.mk (show bytes_Equal.f x1 x1 = some true by unfold bytes_Equal.f; simp)
  have HQ2 := Aside0.mk (show bytes_Equal.f l0 l0 = some true by unfold bytes_Equal.f; simp)
  have TK1 := Aside0.mk trivial
  have TK2 := Aside0.mk trivial
  have HC0 := Aside0.mk hc0
  have HB := Aside0.mk (Below.refl w.heap.size w)
  have CL := Aside0.mk hr0
  have t1 : (x2 == x2) = true := beq_self_eq_true x2
  have t2 : (y4 == y4) = true := beq_self_eq_true y4
  clear hx hy hr0 hc0 hl hwf
  go_enter Try.func7, Try.ntmps7
  go_wp2_with (first
    | ((with_reducible refine gate_dst (N := 2) rfl ?_); refine box_event ?hg (N := 2) ?hd (cs := dn m l s a b c d u v) (t := 59) ?hr ?_; (case hd => rfl); (case hg => rfl); (case hr => first | (go_simp; done) | (go_simp; rfl) | kernel_rfl); intro gs hg w1 hbox hb; have HW := Aside0.mk (below_step (w := w) (w2 := w1) (by repeat (first | exact Below.refl _ _ | apply below_alloc | apply pw_below_drewN | apply below_drew1)) hb); have Ggs := Aside0.mk (show w.heap.size ≤ gs by rw [hg]; exact Nat.le_refl _); have BKs := Aside0.mk hbox; clear hb hbox hg; have n0_ := Aside0.mk (below_then HB.out HB.out.size HW.out); clear HB; have HB := n0_; clear n0_; have n0_ := Aside0.mk (Kd.C_below CL.out HW.out); clear CL; have CL := n0_; clear n0_; clear HW Ggs)
    | ((with_reducible refine gate_dst (N := 15) rfl ?_); refine Gw.load_event rfl 59 (.tmp 2) rfl gs (dn m l s a b c d u v) 59 _ rfl (by (with_reducible repeat (first | refine blk_drewN ?_ _ | refine blk_drew ?_ | refine blk_alloc ?_ _)); exact BKs.out) hu59 rfl (by kernel_rfl) ?_)
    | (go_at_call 32; refine (EncodeDinode_call m l s a b c d u v _).mono ?_; rintro e w2 ⟨v0, he, hr, hb⟩; rw [HX.out] at he hr; subst he; have HW := Aside0.mk (below_step (w := w1) (w2 := w2) (by repeat (first | exact Below.refl _ _ | apply below_alloc | apply pw_below_drewN | apply below_drew1)) hb); have HR := Aside0.mk hr; clear hr hb; obtain ⟨A2, c2, e2⟩ := Kd.R_slice HR.out; subst e2; have n0_ := Aside0.mk (Kd.C_below CL.out HW.out); clear CL; have CL := n0_; clear n0_; have n0_ := Aside0.mk (blk_below BKs.out HW.out); clear BKs; have BKs := n0_; clear n0_; have n0_ := Aside0.mk (below_then HB.out HB.out.size HW.out); clear HB; have HB := n0_; clear n0_; clear HW; have CX := Aside0.mk (Kd.R_reads' HR.out).2.2; have LCX := Aside0.mk (Kd.R_reads' HR.out).2.1; clear HR)
    | ((with_reducible refine gate_dst (N := 20) rfl ?_); refine Gw.load_event rfl 59 (.tmp 2) rfl gs (dn m l s a b c d u v) 59 _ rfl (by (with_reducible repeat (first | refine blk_drewN ?_ _ | refine blk_drew ?_ | refine blk_alloc ?_ _)); exact BKs.out) hu59 rfl (by kernel_rfl) ?_)
    | (go_at_call 33; refine (REncodeDinode_call m l s a b c d u v _).mono ?_; rintro e w3 ⟨v0, he, hr, hb⟩; rw [HX.out] at he hr; subst he; have HW := Aside0.mk (below_step (w := w2) (w2 := w3) (by repeat (first | exact Below.refl _ _ | apply below_alloc | apply pw_below_drewN | apply below_drew1)) hb); have HR := Aside0.mk hr; clear hr hb; obtain ⟨A3, c3, e2⟩ := Kd.R_slice HR.out; subst e2; have n0_ := Aside0.mk (Kd.C_below CL.out HW.out); clear CL; have CL := n0_; clear n0_; have n0_ := Aside0.mk (Kd.C_below CX.out HW.out); clear CX; have CX := n0_; clear n0_; have n0_ := Aside0.mk (blk_below BKs.out HW.out); clear BKs; have BKs := n0_; clear n0_; have n0_ := Aside0.mk (below_then HB.out HB.out.size HW.out); clear HB; have HB := n0_; clear n0_; clear HW; have CY := Aside0.mk (Kd.R_reads' HR.out).2.2; have LCY := Aside0.mk (Kd.R_reads' HR.out).2.1; clear HR)
    | (go_at_call 12; refine (bytes_Clone.calls A0 c0 l0 l0 _ (by repeat (first | exact CL.out | refine Kd.C_drewN ?_ _ | refine Kd.C_drew ?_)) HC0.out HCL.out).mono ?_; rintro e w4 ⟨v0, rfl, hr, hb⟩; have HW := Aside0.mk (below_step (w := w3) (w2 := w4) (by repeat (first | exact Below.refl _ _ | apply below_alloc | apply pw_below_drewN | apply below_drew1)) hb); have HR := Aside0.mk hr; clear hr hb; obtain ⟨A4, c4, e4⟩ := Kd.R_slice HR.out; subst e4; have n0_ := Aside0.mk (Kd.C_below CL.out HW.out); clear CL; have CL := n0_; clear n0_; have n0_ := Aside0.mk (Kd.C_below CX.out HW.out); clear CX; have CX := n0_; clear n0_; have n0_ := Aside0.mk (Kd.C_below CY.out HW.out); clear CY; have CY := n0_; clear n0_; have n0_ := Aside0.mk (blk_below BKs.out HW.out); clear BKs; have BKs := n0_; clear n0_; have n0_ := Aside0.mk (below_then HB.out HB.out.size HW.out); clear HB; have HB := n0_; clear n0_; clear HW; have CG := Aside0.mk (Kd.R_reads' HR.out).2.2; have LCG := Aside0.mk (Kd.R_reads' HR.out).2.1; clear HR)
    | (go_at_call 34; refine (DecodeDinode_call A4 c4 l0 _ (by repeat (first | exact CG.out | refine Kd.C_drewN ?_ _ | refine Kd.C_drew ?_)) LCG.out HWF.out).mono ?_; rintro e w5 ⟨he, hb⟩; rw [HD.out] at he; subst he; have HW := Aside0.mk (below_step (w := w4) (w2 := w5) (by repeat (first | exact Below.refl _ _ | apply below_alloc | apply pw_below_drewN | apply below_drew1)) hb); clear hb; have n0_ := Aside0.mk (Kd.C_below CL.out HW.out); clear CL; have CL := n0_; clear n0_; have n0_ := Aside0.mk (Kd.C_below CX.out HW.out); clear CX; have CX := n0_; clear n0_; have n0_ := Aside0.mk (Kd.C_below CY.out HW.out); clear CY; have CY := n0_; clear n0_; have n0_ := Aside0.mk (Kd.C_below CG.out HW.out); clear CG; have CG := n0_; clear n0_; have n0_ := Aside0.mk (blk_below BKs.out HW.out); clear BKs; have BKs := n0_; clear n0_; have n0_ := Aside0.mk (below_then HB.out HB.out.size HW.out); clear HB; have HB := n0_; clear n0_; clear HW)
    | ((with_reducible refine gate_dst (N := 10) rfl ?_); refine box_event ?hg (N := 10) ?hd (cs := zD) (t := 59) ?hr ?_; (case hd => rfl); (case hg => rfl); (case hr => first | (go_simp; done) | (go_simp; rfl) | kernel_rfl); intro gp hg w6 hbox hb; have HW := Aside0.mk (below_step (w := w5) (w2 := w6) (by repeat (first | exact Below.refl _ _ | apply below_alloc | apply pw_below_drewN | apply below_drew1)) hb); have Ggp := Aside0.mk (show w5.heap.size ≤ gp by rw [hg]; exact Nat.le_refl _); have BKp := Aside0.mk hbox; clear hb hbox hg; have HW_ := HW; clear HW)
    | ((with_reducible refine gate_st (x := .tmp 10) (y := .tmp 29) rfl ?_); refine Gw.store_event rfl 59 (.tmp 10) (.tmp 29) rfl gp zD (dnT Y) 59 rfl rfl BKp.out rfl (by kernel_rfl) (by kernel_rfl) ?_; intro w7 hb1 hb2 hb3; have HW := Aside0.mk (hb3 w5.heap.size w5 Ggp.out HW_.out); clear HW_; have BKp := Aside0.mk hb1; clear hb1 hb2 hb3; have n0_ := Aside0.mk (Kd.C_below CL.out HW.out); clear CL; have CL := n0_; clear n0_; have n0_ := Aside0.mk (Kd.C_below CX.out HW.out); clear CX; have CX := n0_; clear n0_; have n0_ := Aside0.mk (Kd.C_below CY.out HW.out); clear CY; have CY := n0_; clear n0_; have n0_ := Aside0.mk (Kd.C_below CG.out HW.out); clear CG; have CG := n0_; clear n0_; have n0_ := Aside0.mk (blk_below BKs.out HW.out); clear BKs; have BKs := n0_; clear n0_; have n0_ := Aside0.mk (below_then HB.out HB.out.size HW.out); clear HB; have HB := n0_; clear n0_; clear HW)
    | (go_at_call 35; refine (RDecodeDinode_call A0 c0 l0 _ (by repeat (first | exact CL.out | refine Kd.C_drewN ?_ _ | refine Kd.C_drew ?_)) HC0.out HWF.out).mono ?_; rintro e w8 ⟨he, hb⟩; rw [HD.out] at he; subst he; have HW := Aside0.mk (below_step (w := w7) (w2 := w8) (by repeat (first | exact Below.refl _ _ | apply below_alloc | apply pw_below_drewN | apply below_drew1)) hb); clear hb; have n0_ := Aside0.mk (Kd.C_below CL.out HW.out); clear CL; have CL := n0_; clear n0_; have n0_ := Aside0.mk (Kd.C_below CX.out HW.out); clear CX; have CX := n0_; clear n0_; have n0_ := Aside0.mk (Kd.C_below CY.out HW.out); clear CY; have CY := n0_; clear n0_; have n0_ := Aside0.mk (Kd.C_below CG.out HW.out); clear CG; have CG := n0_; clear n0_; have n0_ := Aside0.mk (blk_below BKs.out HW.out); clear BKs; have BKs := n0_; clear n0_; have n0_ := Aside0.mk (blk_below BKp.out HW.out); clear BKp; have BKp := n0_; clear n0_; have n0_ := Aside0.mk (below_then HB.out HB.out.size HW.out); clear HB; have HB := n0_; clear n0_; clear HW)
    | ((with_reducible refine gate_dst (N := 12) rfl ?_); refine box_event ?hg (N := 12) ?hd (cs := zD) (t := 59) ?hr ?_; (case hd => rfl); (case hg => rfl); (case hr => first | (go_simp; done) | (go_simp; rfl) | kernel_rfl); intro gq hg w9 hbox hb; have HW := Aside0.mk (below_step (w := w8) (w2 := w9) (by repeat (first | exact Below.refl _ _ | apply below_alloc | apply pw_below_drewN | apply below_drew1)) hb); have Ggq := Aside0.mk (show w8.heap.size ≤ gq by rw [hg]; exact Nat.le_refl _); have BKq := Aside0.mk hbox; clear hb hbox hg; have HW_ := HW; clear HW)
    | ((with_reducible refine gate_st (x := .tmp 12) (y := .tmp 34) rfl ?_); refine Gw.store_event rfl 59 (.tmp 12) (.tmp 34) rfl gq zD (dnT Y) 59 rfl rfl BKq.out rfl (by kernel_rfl) (by kernel_rfl) ?_; intro wa hb1 hb2 hb3; have HW := Aside0.mk (hb3 w8.heap.size w8 Ggq.out HW_.out); clear HW_; have BKq := Aside0.mk hb1; clear hb1 hb2 hb3; have n0_ := Aside0.mk (Kd.C_below CL.out HW.out); clear CL; have CL := n0_; clear n0_; have n0_ := Aside0.mk (Kd.C_below CX.out HW.out); clear CX; have CX := n0_; clear n0_; have n0_ := Aside0.mk (Kd.C_below CY.out HW.out); clear CY; have CY := n0_; clear n0_; have n0_ := Aside0.mk (Kd.C_below CG.out HW.out); clear CG; have CG := n0_; clear n0_; have n0_ := Aside0.mk (blk_below BKs.out HW.out); clear BKs; have BKs := n0_; clear n0_; have n0_ := Aside0.mk (blk_below BKp.out HW.out); clear BKp; have BKp := n0_; clear n0_; have n0_ := Aside0.mk (below_then HB.out HB.out.size HW.out); clear HB; have HB := n0_; clear n0_; clear HW)
    | (have n_ := TK1.out; clear n_; go_at_call 15; refine (bytes_Equal.calls A2 c2 x1 A3 c3 x1 true _ (by repeat (first | exact CX.out | refine Kd.C_drewN ?_ _ | refine Kd.C_drew ?_)) LCX.out (by repeat (first | exact CY.out | refine Kd.C_drewN ?_ _ | refine Kd.C_drew ?_)) LCY.out HQ1.out).mono ?_; rintro e w' ⟨rfl, ⟨nd, rfl⟩⟩; clear TK1)
    | ((with_reducible refine gate_dst (N := 45) rfl ?_); refine gate_guard (by rfl) ?_; refine Gw.load_event rfl 59 (.tmp 10) rfl gp (dnT Y) 59 _ rfl (by (with_reducible repeat (first | refine blk_drewN ?_ _ | refine blk_drew ?_ | refine blk_alloc ?_ _)); exact BKp.out) hu59 rfl (by kernel_rfl) ?_)
    | ((with_reducible refine gate_dst (N := 46) rfl ?_); refine gate_guard (by rfl) ?_; refine Gw.load_event rfl 59 (.tmp 12) rfl gq (dnT Y) 59 _ rfl (by (with_reducible repeat (first | refine blk_drewN ?_ _ | refine blk_drew ?_ | refine blk_alloc ?_ _)); exact BKq.out) hu59 rfl (by kernel_rfl) ?_)
    | ((with_reducible refine gate_dst (N := 47) rfl ?_); refine gate_guard (by rfl) ?_; refine Kd.event_run rfl (Gw.eql_yield rfl rfl rfl (by kernel_rfl) (dnT_eql Y _)) ?_)
    | (have n_ := TK2.out; clear n_; go_at_call 15; refine (bytes_Equal.calls A4 c4 l0 A0 c0 l0 true _ (by repeat (first | exact CG.out | refine Kd.C_drewN ?_ _ | refine Kd.C_drew ?_)) LCG.out (by repeat (first | exact CL.out | refine Kd.C_drewN ?_ _ | refine Kd.C_drew ?_)) HC0.out HQ2.out).mono ?_; rintro e w' ⟨rfl, ⟨nd, rfl⟩⟩; clear TK2))
  go_ret
  exact ⟨rfl, by repeat (first | exact HB.out | apply pw_below_drewN | apply below_drew1)⟩
/-- The same, with the inode's cells as an argument has them. -/
theorem LayoutDinodes_row (x : Int × Int × Int × List Int × Int × Int) (cs : Array Value) (A0 : Option Addr) (c0 : Nat) (l0 : List Int) (w : World) (hK : (Kd.pair (Kd.int .i64) (Kd.pair (Kd.int .i64) (Kd.pair (Kd.int .i64) (Kd.pair (Kd.arr 4 (Kd.int .i64) (by decide)) (Kd.pair (Kd.int .i64) (Kd.int .i64)))))).K w x cs.toList) (hr0 : Kd.C (Kd.int .u8) w A0 l0.length l0) (hc0 : l0.length ≤ c0) (hl : l0.length ≤ 140737488351232) (hwf : ∀ n ∈ l0, (Lit.int .u8 n).wf = true) :
    Calls Try.prog 7 #[.agg cs, .slice A0 l0.length c0] w fun e w' => e = .returned (.bool true) ∧ Below w.heap.size w w' := by
  obtain ⟨m, l, s, ds, u, v, rfl⟩ := dn_open hK
  exact LayoutDinodes_walk m l s _ _ _ _ u v A0 c0 l0 w hr0 hc0 hl (fun x hx => u8_bd (hwf x hx))
end Go.Proofs.Ytdaeanodgnmknaa.Di
