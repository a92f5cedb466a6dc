/- A group's header of bytes: the reference's walk. -/
import Derived.Test.YtdaeanodgnmknaaGd
namespace Go.Proofs.Ytdaeanodgnmknaa.Gw
open Go.RowKit Go.Proofs.Ytdaeanodgnmknaa.Rd Go.Proofs.Ytdaeanodgnmknaa.XLayoutGroups Go.Proofs.YtdaeanodgnmknaaW.PrintWords Go.Proofs.YtdaeanodgnmknaaW.PrintLast Go.Proofs.YtdaeanodgnmknaaW.PrintMore
set_option linter.unusedVariables false
set_option linter.unusedSimpArgs false
def z8 : List Int := List.replicate 8 0
def z32 : List Int := List.replicate 32 0
theorem grp_build1 {n : Int} (h0 : 0 ≤ n) (h : n ≤ 255) (m : Int) (hm : m = n ∨ m = wrap64 n) (W : World) : (Instr.build 25 #[(0, .int .i64 m)]).run Try.prog W = .ok (.agg (grp n z8 z32)) W := by
  have e : m = n := by
    rcases hm with h | h
    · exact h
    · rw [h]; exact w_small n (by omega) (by omega)
  rw [e]
  exact run_build W _ _ _ (by kernel_rfl)
theorem build_event {P : Program} {ops : Array Oper} {rest : List Oper} {op : Oper} {a : Act} {Q : Exit → Act → World → Prop} {W : World} (hgd : op.guard = none) (t : TypeId) (parts : Array (Nat × Operand)) (ho : op.op = .build t parts) (ps : Array (Nat × Value)) (v : Value)
    (hr : (Instr.build t ps).run P W = .ok v W) (hp : (parts.map fun (i, x) => (i, a.eval x)) = ps) (h : wpList P ops Q rest (a.put op.dst v) W) : wpList P ops Q (op :: rest) a W := by
  refine wpList_plain hgd fun K hK => ?_
  unfold Oper.wp
  rw [build_yield ho hr hp]
  exact hK _ _ h
theorem splice_1 (n : Int) {is bs : List Int} (h1 : is.length = 8) : (splice (grp n z8 bs).toList 1 (is.map (Value.int .u8))).toArray = grp n is bs := by
  unfold splice grp
  simp only [List.length_map, h1]
  rfl
theorem splice_9 (n : Int) {is bs : List Int} (h1 : is.length = 8) (h2 : bs.length = 32) : (splice (grp n is z32).toList 9 (bs.map (Value.int .u8))).toArray = grp n is bs := by
  obtain ⟨a0, a1, a2, a3, a4, a5, a6, a7, rfl⟩ := len8 h1
  unfold splice grp
  simp only [List.length_map, h2]
  rw [show List.drop (9 + 32) (Value.int IntKind.i64 n :: (List.map (Value.int IntKind.u8) [a0, a1, a2, a3, a4, a5, a6, a7] ++ List.map (Value.int IntKind.u8) z32)) = [] from rfl, List.append_nil]
  rfl
set_option maxHeartbeats 8000000 in
set_option maxRecDepth 100000 in
theorem RDecodeGroup_call (A0 : Option Addr) (c0 : Nat) (l0 : List Int) (w : World) (hr0 : Kd.C (Kd.int .u8) w A0 l0.length l0) (hc0 : l0.length ≤ c0) (hwf : ∀ x ∈ l0, 0 ≤ x ∧ x ≤ 255) :
    Calls Try.prog 14 #[.slice A0 l0.length c0] w fun e w' => e = .returned (.tuple #[.agg (grp (decG l0).1.1 (decG l0).1.2.1 (decG l0).1.2.2), .int .i64 (decG l0).2]) ∧ Below w.heap.size w w' := by
  have hu25 := Try.underlying25
  have hzb := zero_built
  have HR0 := Aside0.mk hr0
  have HC0 := Aside0.mk hc0
  have HB := Aside0.mk (Below.refl w.heap.size w)
  unfold decG
  clear hr0 hc0
  by_cases hlen : (l0.length : Int) = 128
  · rw [if_pos hlen]
    have hb0 : ((l0.length : Int) == 128) = true := beq_iff_eq.mpr hlen
    have hb1 : ((l0.length : Int) != 128) = false := bne_eq_false_iff_eq.mpr hlen
    have HLEN := Aside0.mk (show l0.length = 128 by omega)
    have h4b : decide (2 ≤ (l0.length : Int)) = true := decide_eq_true (by omega)
    clear hlen
    by_cases hm : (strOfNums (l0.take 2)).toList = ([104, 100] : List UInt8)
    · rw [if_pos hm]
      have hmb0 : ((strOfNums (l0.take 2)).toList == ([104, 100] : List UInt8)) = true := beq_iff_eq.mpr hm
      have hmb1 : ((strOfNums (l0.take 2)).toList != ([104, 100] : List UInt8)) = false := bne_eq_false_iff_eq.mpr hm
      clear hm
      obtain ⟨tn, ht⟩ : ∃ x, x = rd l0 2 := ⟨_, rfl⟩
      obtain ⟨is, his⟩ : ∃ x, x = (l0.take 12).drop 4 := ⟨_, rfl⟩
      obtain ⟨bs, hbs⟩ : ∃ x, x = (l0.take 44).drop 12 := ⟨_, rfl⟩
      obtain ⟨⟨x1, x2⟩, hx⟩ : ∃ x, x = encG tn is bs := ⟨_, rfl⟩
      rw [← ht, ← his, ← hbs, ← hx]
      have L8 := Aside0.mk (show is.length = 8 by rw [his, List.length_drop, List.length_take, HLEN.out]; rfl)
      have L32 := Aside0.mk (show bs.length = 32 by rw [hbs, List.length_drop, List.length_take, HLEN.out]; rfl)
      obtain ⟨r1, r2, r3⟩ := Kd.reads_of_C (d := (0 : Int)) HR0.out
      obtain ⟨ad, rfl, hcell⟩ := r3 (by have := HLEN.out; omega)
      have HCE := Aside0.mk hcell
      have hwx : 0 ≤ tn ∧ tn ≤ 255 := by rw [ht]; exact rd_bd hwf 2
      obtain ⟨ht0, ht1⟩ := hwx
      have HX := Aside0.mk hx.symm
      have HIS := Aside0.mk his
      have HBS := Aside0.mk hbs
      have HTN := Aside0.mk ht
      have hk5 := grp_build1 ht0 ht1
      have HK := Aside0.mk hk5
      have hz1 : (2 : Int) < (l0.length : Int) := by have := HLEN.out; omega
      have hz2 : (12 : Int) ≤ (c0 : Int) := by have := HLEN.out; have := HC0.out; omega
      have hz3 : (44 : Int) ≤ (c0 : Int) := by have := HLEN.out; have := HC0.out; omega
      have hz4 : ¬ c0 = 4 := by have := HLEN.out; have := HC0.out; omega
      have hz5 : ¬ c0 = 12 := by have := HLEN.out; have := HC0.out; omega
      clear hx his hbs ht r1 r2 r3 hcell hwf hk5
      by_cases hq2 : x2 = 0
      · rw [if_pos hq2]
        have hqb : (x2 == 0) = true := beq_iff_eq.mpr hq2
        have hqc : (x2 != 0) = false := bne_eq_false_iff_eq.mpr hq2
        clear hq2
        by_cases hs : (strOfNums x1).toList = (strOfNums l0).toList
        · rw [if_pos hs]
          have HS := Aside0.mk (show bollardref03_same.f l0 x1 = some true by unfold bollardref03_same.f; rw [hs]; simp)
          clear hs
          go_enter Try.func14, Try.ntmps14
          go_wp2_with (first
            | ((with_reducible refine gate_dst (N := 2) rfl ?_); refine box_event ?hg (N := 2) ?hd (cs := zG) (t := 25) ?hr ?_; (case hd => rfl); (case hg => rfl); (case hr => first | (go_simp; done) | (go_simp; rfl) | (kernel_rfl)); intro gb hg w1 hbox hb; have n0_ := Aside0.mk (below_step (w2 := w1) (by repeat (first | (with_reducible first | exact HB.out | apply below_alloc | apply pw_below_drewN | apply below_drew1) | exact HB.out)) hb); have BKb := Aside0.mk hbox; have GE := Aside0.mk (show w.heap.size ≤ gb by rw [hg]; exact Nat.le_refl _); clear HB; have HB := n0_; clear n0_ hb hbox hg; obtain ⟨ii, hii, _, hsz, _⟩ := info_parts infou8; obtain ⟨hcut, hA, hC⟩ := print_take_of (P := Try.prog) (Value.int .u8) 0 26 5 .i64 Try.underlying26 hii hsz (some ad) c0 l0 2 (by omega) (of_decide_eq_true h4b) HC0.out; have HR4 := Aside0.mk (Kd.C_of_reads (h1 := fun _ => rfl) (hA _ (Kd.reads_of_C HR0.out))); clear hA hC hii hsz; have hcv := Kd.C_string (P := Try.prog) (A := (some ad)) (c := c0) Try.underlying26 Try.underlying5 Try.underlying9 (Kd.C_below HR4.out HB.out); have hcvs := hcv; simp only [Int.reduceToNat, List.length_take] at hcvs; have hcell2 : w1.cell? ⟨ad.block, ad.off + 2, none⟩ = some (.int .u8 tn) := (dg_held (Kd.C_below HR0.out HB.out) HLEN.out HTN.out HIS.out HBS.out).1)
            | ((with_reducible refine gate_dst (N := 20) rfl ?_); first | refine build_event rfl 25 _ rfl #[(0, .int .i64 tn)] (.agg (grp tn z8 z32)) (HK.out tn (.inl rfl) _) (by simp only [List.map_toArray, List.map_cons, List.map_nil]; rfl) ?_ | refine build_event rfl 25 _ rfl #[(0, .int .i64 (wrap64 tn))] (.agg (grp tn z8 z32)) (HK.out (wrap64 tn) (.inr rfl) _) (by simp only [List.map_toArray, List.map_cons, List.map_nil]; rfl) ?_)
            | ((with_reducible refine gate_dst (N := 4) rfl ?_); clear hcell2 hcv hcvs; refine box_event ?hg (N := 4) ?hd (cs := zG) (t := 25) ?hr ?_; (case hd => rfl); (case hg => rfl); (case hr => first | (go_simp; done) | (go_simp; rfl) | (kernel_rfl)); intro ge hg w2 hbox hb; have GG := Aside0.mk (show gb < ge by rw [hg]; exact blk_lt BKb.out); have n0_ := Aside0.mk (below_step (w2 := w2) (by repeat (first | (with_reducible first | exact HB.out | apply below_alloc | apply pw_below_drewN | apply below_drew1) | exact HB.out)) hb); have n1_ := Aside0.mk (blk_below (w1 := w2) (g := gb) (o := .cells zG 25 (0, 0)) (by (with_reducible repeat (first | refine blk_drewN ?_ _ | refine blk_drew ?_ | refine blk_alloc ?_ _)); exact BKb.out) hb); have BKe := Aside0.mk hbox; clear HB BKb; have HB := n0_; have BKb := n1_; clear n0_ n1_ hb hbox hg; have hs8 := sl8 ge 1; have hs32 := sl32 ge 9)
            | (refine store_event rfl 25 (.tmp 4) (.tmp 20) rfl ge zG (grp tn z8 z32) 25 rfl rfl BKe.out (grp_sizes _ _ (by rfl) (by rfl) (by rfl) (by rfl)) (grp_info tn (by rfl) (by rfl)) (grp_one _ _ _) ?_; intro w3 hb1 hb2 hb3; have n0_ := Aside0.mk (hb3 w.heap.size w (Nat.le_trans GE.out (Nat.le_of_lt GG.out)) HB.out); have n1_ := Aside0.mk ((hb2 gb (Nat.ne_of_lt GG.out)).trans BKb.out); clear HB BKb BKe; have HB := n0_; have BKb := n1_; have BKe := Aside0.mk hb1; clear n0_ n1_ hb1 hb2 hb3))
          refine start_ (n := 5) (S := fun w' => True) (ds := []) #[false, false, false, false, false] (by kernel_rfl) rfl rfl trivial (fun hHeld => ?_)
          refine pure_ (i := 0) (N := some 21) (v := ?_) (a' := ?_) #[true, false, false, false, false] rfl rfl (by kernel_rfl) (fun _ _ _ h => h) (Or.inl ⟨by rfl, ?_⟩) ?_ ?_
          rotate_left
          · intro w'
            go_simp
            with_reducible rfl
          rotate_left
          · simp only [Act.put, List.setIfInBounds_toArray, List.set_cons_zero, List.set_cons_succ, i64_w, i32_w]
            rfl
          refine pure_ (i := 1) (N := some 22) (v := ?_) (a' := ?_) #[true, true, false, false, false] rfl rfl (by kernel_rfl) (fun _ _ _ h => h) (Or.inl ⟨by rfl, ?_⟩) ?_ ?_
          rotate_left
          · intro w'
            go_simp
            with_reducible rfl
          rotate_left
          · simp only [Act.put, List.setIfInBounds_toArray, List.set_cons_zero, List.set_cons_succ, i64_w, i32_w]
            rfl
          refine pure_ (i := 2) (N := some 23) (v := ?_) (a' := ?_) #[true, true, true, false, false] rfl rfl (by kernel_rfl) (fun _ _ _ h => h) (Or.inl ⟨by rfl, ?_⟩) ?_ ?_
          rotate_left
          · intro w'
            go_simp
            with_reducible rfl
          rotate_left
          · simp only [Act.put, List.setIfInBounds_toArray, List.set_cons_zero, List.set_cons_succ, i64_w, i32_w]
            rfl
          refine pure_ (i := 3) (N := some 24) (v := ?_) (a' := ?_) #[true, true, true, true, false] rfl rfl (by kernel_rfl) (fun _ _ _ h => h) (Or.inl ⟨by rfl, ?_⟩) ?_ ?_
          rotate_left
          · intro w'
            go_simp
            with_reducible rfl
          rotate_left
          · simp only [Act.put, List.setIfInBounds_toArray, List.set_cons_zero, List.set_cons_succ, i64_w, i32_w]
            rfl
          refine one_ (i := 4) (N := some 25) #[true, true, true, true, true] rfl rfl (by kernel_rfl) (by decide) (fun K hK => ?_)
          refine step_copy_splice rfl (.tmp 22) (.tmp 24) 26 26 (by rfl) 5 Try.underlying26 (by kernel_rfl) (some ⟨ge, 1, none⟩) (some ⟨ad.block, ad.off + 4, none⟩) 8 8 8 (c0 - 4) (by rfl) (by rfl) ge 1 (grp tn z8 z32).toList 25 (by (with_reducible repeat (first | refine blk_drewN ?_ _ | refine blk_drew ?_ | refine blk_alloc ?_ _)); exact BKe.out) (is.map (Value.int .u8)) (by rw [List.length_map, L8.out]; rfl) (fun _ => ⟨rfl, _, rfl, by rw [HIS.out]; exact cut_cells (fun j hj => pw_cell_below (below_drew1 HB.out) (HCE.out j hj)) 4 12 (by omega) (by have := HLEN.out; omega)⟩) (by rw [List.length_map, L8.out, Array.length_toList, grp_size]; have h1_ := L8.out; have h2_ : z8.length = 8 := rfl; have h3_ : z32.length = 32 := rfl; omega) (by intro v hv; obtain ⟨x, _, rfl⟩ := List.mem_map.1 hv; rfl) ge (w3.drew) (Below.refl _ _) (Nat.le_refl _) ?_
          intro w4 hg2 hb2
          have hg3 := hg2.out
          rw [splice_1 tn L8.out] at hg3
          have n0_ := Aside0.mk ((below_drew1 HB.out).trans (hb2.mono (Nat.le_trans GE.out (Nat.le_of_lt GG.out))))
          have n1_ := Aside0.mk ((hb2.block gb GG.out).trans (show _ = some (.cells zG 25 (0, 0)) by (with_reducible repeat (first | refine blk_drewN ?_ _ | refine blk_drew ?_ | refine blk_alloc ?_ _)); exact BKb.out))
          clear HB BKb BKe hg2 hb2
          have HB := n0_
          have BKb := n1_
          have BKe := Aside0.mk hg3
          clear n0_ n1_ hg3
          refine hK.out _ _ trivial (fun hHeld => ?_)
          clear hK K
          refine norm_ (a' := ?_) ?_ ?_
          rotate_left
          · show Act.put _ (some 25) _ = _
            simp only [Act.put, List.setIfInBounds_toArray, List.set_cons_zero, List.set_cons_succ, i64_w, i32_w]
            rfl
          refine done_ (by kernel_rfl) ?_
          go_wp2
          refine start_ (n := 5) (S := fun w' => True) (ds := []) #[false, false, false, false, false] (by kernel_rfl) rfl rfl trivial (fun hHeld => ?_)
          refine pure_ (i := 0) (N := some 26) (v := ?_) (a' := ?_) #[true, false, false, false, false] rfl rfl (by kernel_rfl) (fun _ _ _ h => h) (Or.inl ⟨by rfl, ?_⟩) ?_ ?_
          rotate_left
          · intro w'
            go_simp
            with_reducible rfl
          rotate_left
          · simp only [Act.put, List.setIfInBounds_toArray, List.set_cons_zero, List.set_cons_succ, i64_w, i32_w]
            rfl
          refine pure_ (i := 1) (N := some 27) (v := ?_) (a' := ?_) #[true, true, false, false, false] rfl rfl (by kernel_rfl) (fun _ _ _ h => h) (Or.inl ⟨by rfl, ?_⟩) ?_ ?_
          rotate_left
          · intro w'
            go_simp
            with_reducible rfl
          rotate_left
          · simp only [Act.put, List.setIfInBounds_toArray, List.set_cons_zero, List.set_cons_succ, i64_w, i32_w]
            rfl
          refine pure_ (i := 2) (N := some 28) (v := ?_) (a' := ?_) #[true, true, true, false, false] rfl rfl (by kernel_rfl) (fun _ _ _ h => h) (Or.inl ⟨by rfl, ?_⟩) ?_ ?_
          rotate_left
          · intro w'
            go_simp
            with_reducible rfl
          rotate_left
          · simp only [Act.put, List.setIfInBounds_toArray, List.set_cons_zero, List.set_cons_succ, i64_w, i32_w]
            rfl
          refine pure_ (i := 3) (N := some 29) (v := ?_) (a' := ?_) #[true, true, true, true, false] rfl rfl (by kernel_rfl) (fun _ _ _ h => h) (Or.inl ⟨by rfl, ?_⟩) ?_ ?_
          rotate_left
          · intro w'
            go_simp
            with_reducible rfl
          rotate_left
          · simp only [Act.put, List.setIfInBounds_toArray, List.set_cons_zero, List.set_cons_succ, i64_w, i32_w]
            rfl
          refine one_ (i := 4) (N := some 30) #[true, true, true, true, true] rfl rfl (by kernel_rfl) (by decide) (fun K hK => ?_)
          refine step_copy_splice rfl (.tmp 27) (.tmp 29) 26 26 (by rfl) 5 Try.underlying26 (by kernel_rfl) (some ⟨ge, 9, none⟩) (some ⟨ad.block, ad.off + 12, none⟩) 32 32 32 (c0 - 12) (by rfl) (by rfl) ge 9 (grp tn is z32).toList 25 (by (with_reducible repeat (first | refine blk_drewN ?_ _ | refine blk_drew ?_ | refine blk_alloc ?_ _)); exact BKe.out) (bs.map (Value.int .u8)) (by rw [List.length_map, L32.out]; rfl) (fun _ => ⟨rfl, _, rfl, by rw [HBS.out]; exact cut_cells (fun j hj => pw_cell_below (below_drew1 HB.out) (HCE.out j hj)) 12 44 (by omega) (by have := HLEN.out; omega)⟩) (by rw [List.length_map, L32.out, Array.length_toList, grp_size]; have h1_ := L8.out; have h2_ : z8.length = 8 := rfl; have h3_ : z32.length = 32 := rfl; omega) (by intro v hv; obtain ⟨x, _, rfl⟩ := List.mem_map.1 hv; rfl) ge (w4.drew) (Below.refl _ _) (Nat.le_refl _) ?_
          intro w5 hg2 hb2
          have hg3 := hg2.out
          rw [splice_9 tn L8.out L32.out] at hg3
          have n0_ := Aside0.mk ((below_drew1 HB.out).trans (hb2.mono (Nat.le_trans GE.out (Nat.le_of_lt GG.out))))
          have n1_ := Aside0.mk ((hb2.block gb GG.out).trans (show _ = some (.cells zG 25 (0, 0)) by (with_reducible repeat (first | refine blk_drewN ?_ _ | refine blk_drew ?_ | refine blk_alloc ?_ _)); exact BKb.out))
          clear HB BKb BKe hg2 hb2
          have HB := n0_
          have BKb := n1_
          have BKe := Aside0.mk hg3
          clear n0_ n1_ hg3
          refine hK.out _ _ trivial (fun hHeld => ?_)
          clear hK K
          refine norm_ (a' := ?_) ?_ ?_
          rotate_left
          · show Act.put _ (some 30) _ = _
            simp only [Act.put, List.setIfInBounds_toArray, List.set_cons_zero, List.set_cons_succ, i64_w, i32_w]
            rfl
          refine done_ (by kernel_rfl) ?_
          clear hs8 hs32
          go_wp2_with (first
            | ((with_reducible refine gate_dst (N := 32) rfl ?_); refine load_event rfl 25 (.tmp 4) rfl ge (grp tn is bs) 25 _ rfl BKe.out hu25 rfl (grp_info tn L8.out L32.out) ?_)
            | (go_at_call 11; refine (REncodeGroup_call tn is bs _ L8.out L32.out).mono ?_; rintro e w6 ⟨v0, he, hr, hb⟩; rw [HX.out] at he hr; subst he; have HR7 := Aside0.mk hr; have n0_ := Aside0.mk (below_step (w2 := w6) (by repeat (first | (with_reducible first | exact HB.out | apply below_alloc | apply pw_below_drewN | apply below_drew1) | exact HB.out)) hb); have n1_ := Aside0.mk (blk_below (w1 := w6) (g := gb) (o := .cells zG 25 (0, 0)) (by (with_reducible repeat (first | refine blk_drewN ?_ _ | refine blk_drew ?_ | refine blk_alloc ?_ _)); exact BKb.out) hb); have n2_ := Aside0.mk (blk_below (w1 := w6) (g := ge) (o := .cells (grp tn is bs) 25 (0, 0)) (by (with_reducible repeat (first | refine blk_drewN ?_ _ | refine blk_drew ?_ | refine blk_alloc ?_ _)); exact BKe.out) hb); clear HB BKb BKe; have HB := n0_; have BKb := n1_; have BKe := n2_; clear n0_ n1_ n2_ hr hb; obtain ⟨A7, c7, e7⟩ := Kd.R_slice HR7.out; subst e7)
            | (go_at_call 39; refine (bollardref03_same.calls (some ad) c0 l0 A7 c7 x1 true _ (by repeat (first | exact Kd.C_below HR0.out HB.out | refine Kd.C_drewN ?_ _ | refine Kd.C_drew ?_)) HC0.out (by repeat (first | exact (Kd.R_reads' HR7.out).2.2 | refine Kd.C_drewN ?_ _ | refine Kd.C_drew ?_)) (Kd.R_reads' HR7.out).2.1 HS.out).mono ?_; rintro e w12 ⟨rfl, m9, rfl⟩)
            | ((with_reducible refine gate_dst (N := 45) rfl ?_); refine load_event rfl 25 (.tmp 4) rfl ge (grp tn is bs) 25 _ rfl (by (with_reducible repeat (first | refine blk_drewN ?_ _ | refine blk_drew ?_ | refine blk_alloc ?_ _)); exact BKe.out) hu25 rfl (grp_info tn L8.out L32.out) ?_)
            | (refine store_event rfl 25 (.tmp 2) (.tmp 45) rfl gb zG (grp tn is bs) 25 rfl rfl (by (with_reducible repeat (first | refine blk_drewN ?_ _ | refine blk_drew ?_ | refine blk_alloc ?_ _)); exact BKb.out) (grp_sizes _ _ (by rfl) (by rfl) L8.out L32.out) (grp_info tn L8.out L32.out) (grp_one _ _ _) ?_; intro w9 hb1 hb2 hb3; have n0_ := Aside0.mk (hb3 w.heap.size w GE.out (by repeat (first | (with_reducible first | exact HB.out | apply below_alloc | apply pw_below_drewN | apply below_drew1) | exact HB.out))); have BKz := Aside0.mk hb1; clear HB; have HB := n0_; clear n0_ hb1 hb2 hb3))
          refine bodyPost_ret (results_ct rfl _ _ gb 25 (grp tn is bs) (0, 0) _ rfl (by (with_reducible repeat (first | refine blk_drewN ?_ _ | refine blk_drew ?_ | refine blk_alloc ?_ _)); exact BKz.out) hu25 rfl (grp_info tn L8.out L32.out)) rfl ?_
          exact ⟨rfl, by repeat (first | exact HB.out | apply pw_below_drewN | apply below_drew1)⟩
        · rw [if_neg hs]
          have HS := Aside0.mk (show bollardref03_same.f l0 x1 = some false by unfold bollardref03_same.f; rw [beq_eq_false_iff_ne.mpr (fun h => hs h.symm)])
          clear hs
          go_enter Try.func14, Try.ntmps14
          go_wp2_with (first
            | ((with_reducible refine gate_dst (N := 2) rfl ?_); refine box_event ?hg (N := 2) ?hd (cs := zG) (t := 25) ?hr ?_; (case hd => rfl); (case hg => rfl); (case hr => first | (go_simp; done) | (go_simp; rfl) | (kernel_rfl)); intro gb hg w1 hbox hb; have n0_ := Aside0.mk (below_step (w2 := w1) (by repeat (first | (with_reducible first | exact HB.out | apply below_alloc | apply pw_below_drewN | apply below_drew1) | exact HB.out)) hb); have BKb := Aside0.mk hbox; have GE := Aside0.mk (show w.heap.size ≤ gb by rw [hg]; exact Nat.le_refl _); clear HB; have HB := n0_; clear n0_ hb hbox hg; obtain ⟨ii, hii, _, hsz, _⟩ := info_parts infou8; obtain ⟨hcut, hA, hC⟩ := print_take_of (P := Try.prog) (Value.int .u8) 0 26 5 .i64 Try.underlying26 hii hsz (some ad) c0 l0 2 (by omega) (of_decide_eq_true h4b) HC0.out; have HR4 := Aside0.mk (Kd.C_of_reads (h1 := fun _ => rfl) (hA _ (Kd.reads_of_C HR0.out))); clear hA hC hii hsz; have hcv := Kd.C_string (P := Try.prog) (A := (some ad)) (c := c0) Try.underlying26 Try.underlying5 Try.underlying9 (Kd.C_below HR4.out HB.out); have hcvs := hcv; simp only [Int.reduceToNat, List.length_take] at hcvs; have hcell2 : w1.cell? ⟨ad.block, ad.off + 2, none⟩ = some (.int .u8 tn) := (dg_held (Kd.C_below HR0.out HB.out) HLEN.out HTN.out HIS.out HBS.out).1)
            | ((with_reducible refine gate_dst (N := 20) rfl ?_); first | refine build_event rfl 25 _ rfl #[(0, .int .i64 tn)] (.agg (grp tn z8 z32)) (HK.out tn (.inl rfl) _) (by simp only [List.map_toArray, List.map_cons, List.map_nil]; rfl) ?_ | refine build_event rfl 25 _ rfl #[(0, .int .i64 (wrap64 tn))] (.agg (grp tn z8 z32)) (HK.out (wrap64 tn) (.inr rfl) _) (by simp only [List.map_toArray, List.map_cons, List.map_nil]; rfl) ?_)
            | ((with_reducible refine gate_dst (N := 4) rfl ?_); clear hcell2 hcv hcvs; refine box_event ?hg (N := 4) ?hd (cs := zG) (t := 25) ?hr ?_; (case hd => rfl); (case hg => rfl); (case hr => first | (go_simp; done) | (go_simp; rfl) | (kernel_rfl)); intro ge hg w2 hbox hb; have GG := Aside0.mk (show gb < ge by rw [hg]; exact blk_lt BKb.out); have n0_ := Aside0.mk (below_step (w2 := w2) (by repeat (first | (with_reducible first | exact HB.out | apply below_alloc | apply pw_below_drewN | apply below_drew1) | exact HB.out)) hb); have n1_ := Aside0.mk (blk_below (w1 := w2) (g := gb) (o := .cells zG 25 (0, 0)) (by (with_reducible repeat (first | refine blk_drewN ?_ _ | refine blk_drew ?_ | refine blk_alloc ?_ _)); exact BKb.out) hb); have BKe := Aside0.mk hbox; clear HB BKb; have HB := n0_; have BKb := n1_; clear n0_ n1_ hb hbox hg; have hs8 := sl8 ge 1; have hs32 := sl32 ge 9)
            | (refine store_event rfl 25 (.tmp 4) (.tmp 20) rfl ge zG (grp tn z8 z32) 25 rfl rfl BKe.out (grp_sizes _ _ (by rfl) (by rfl) (by rfl) (by rfl)) (grp_info tn (by rfl) (by rfl)) (grp_one _ _ _) ?_; intro w3 hb1 hb2 hb3; have n0_ := Aside0.mk (hb3 w.heap.size w (Nat.le_trans GE.out (Nat.le_of_lt GG.out)) HB.out); have n1_ := Aside0.mk ((hb2 gb (Nat.ne_of_lt GG.out)).trans BKb.out); clear HB BKb BKe; have HB := n0_; have BKb := n1_; have BKe := Aside0.mk hb1; clear n0_ n1_ hb1 hb2 hb3))
          refine start_ (n := 5) (S := fun w' => True) (ds := []) #[false, false, false, false, false] (by kernel_rfl) rfl rfl trivial (fun hHeld => ?_)
          refine pure_ (i := 0) (N := some 21) (v := ?_) (a' := ?_) #[true, false, false, false, false] rfl rfl (by kernel_rfl) (fun _ _ _ h => h) (Or.inl ⟨by rfl, ?_⟩) ?_ ?_
          rotate_left
          · intro w'
            go_simp
            with_reducible rfl
          rotate_left
          · simp only [Act.put, List.setIfInBounds_toArray, List.set_cons_zero, List.set_cons_succ, i64_w, i32_w]
            rfl
          refine pure_ (i := 1) (N := some 22) (v := ?_) (a' := ?_) #[true, true, false, false, false] rfl rfl (by kernel_rfl) (fun _ _ _ h => h) (Or.inl ⟨by rfl, ?_⟩) ?_ ?_
          rotate_left
          · intro w'
            go_simp
            with_reducible rfl
          rotate_left
          · simp only [Act.put, List.setIfInBounds_toArray, List.set_cons_zero, List.set_cons_succ, i64_w, i32_w]
            rfl
          refine pure_ (i := 2) (N := some 23) (v := ?_) (a' := ?_) #[true, true, true, false, false] rfl rfl (by kernel_rfl) (fun _ _ _ h => h) (Or.inl ⟨by rfl, ?_⟩) ?_ ?_
          rotate_left
          · intro w'
            go_simp
            with_reducible rfl
          rotate_left
          · simp only [Act.put, List.setIfInBounds_toArray, List.set_cons_zero, List.set_cons_succ, i64_w, i32_w]
            rfl
          refine pure_ (i := 3) (N := some 24) (v := ?_) (a' := ?_) #[true, true, true, true, false] rfl rfl (by kernel_rfl) (fun _ _ _ h => h) (Or.inl ⟨by rfl, ?_⟩) ?_ ?_
          rotate_left
          · intro w'
            go_simp
            with_reducible rfl
          rotate_left
          · simp only [Act.put, List.setIfInBounds_toArray, List.set_cons_zero, List.set_cons_succ, i64_w, i32_w]
            rfl
          refine one_ (i := 4) (N := some 25) #[true, true, true, true, true] rfl rfl (by kernel_rfl) (by decide) (fun K hK => ?_)
          refine step_copy_splice rfl (.tmp 22) (.tmp 24) 26 26 (by rfl) 5 Try.underlying26 (by kernel_rfl) (some ⟨ge, 1, none⟩) (some ⟨ad.block, ad.off + 4, none⟩) 8 8 8 (c0 - 4) (by rfl) (by rfl) ge 1 (grp tn z8 z32).toList 25 (by (with_reducible repeat (first | refine blk_drewN ?_ _ | refine blk_drew ?_ | refine blk_alloc ?_ _)); exact BKe.out) (is.map (Value.int .u8)) (by rw [List.length_map, L8.out]; rfl) (fun _ => ⟨rfl, _, rfl, by rw [HIS.out]; exact cut_cells (fun j hj => pw_cell_below (below_drew1 HB.out) (HCE.out j hj)) 4 12 (by omega) (by have := HLEN.out; omega)⟩) (by rw [List.length_map, L8.out, Array.length_toList, grp_size]; have h1_ := L8.out; have h2_ : z8.length = 8 := rfl; have h3_ : z32.length = 32 := rfl; omega) (by intro v hv; obtain ⟨x, _, rfl⟩ := List.mem_map.1 hv; rfl) ge (w3.drew) (Below.refl _ _) (Nat.le_refl _) ?_
          intro w4 hg2 hb2
          have hg3 := hg2.out
          rw [splice_1 tn L8.out] at hg3
          have n0_ := Aside0.mk ((below_drew1 HB.out).trans (hb2.mono (Nat.le_trans GE.out (Nat.le_of_lt GG.out))))
          have n1_ := Aside0.mk ((hb2.block gb GG.out).trans (show _ = some (.cells zG 25 (0, 0)) by (with_reducible repeat (first | refine blk_drewN ?_ _ | refine blk_drew ?_ | refine blk_alloc ?_ _)); exact BKb.out))
          clear HB BKb BKe hg2 hb2
          have HB := n0_
          have BKb := n1_
          have BKe := Aside0.mk hg3
          clear n0_ n1_ hg3
          refine hK.out _ _ trivial (fun hHeld => ?_)
          clear hK K
          refine norm_ (a' := ?_) ?_ ?_
          rotate_left
          · show Act.put _ (some 25) _ = _
            simp only [Act.put, List.setIfInBounds_toArray, List.set_cons_zero, List.set_cons_succ, i64_w, i32_w]
            rfl
          refine done_ (by kernel_rfl) ?_
          go_wp2
          refine start_ (n := 5) (S := fun w' => True) (ds := []) #[false, false, false, false, false] (by kernel_rfl) rfl rfl trivial (fun hHeld => ?_)
          refine pure_ (i := 0) (N := some 26) (v := ?_) (a' := ?_) #[true, false, false, false, false] rfl rfl (by kernel_rfl) (fun _ _ _ h => h) (Or.inl ⟨by rfl, ?_⟩) ?_ ?_
          rotate_left
          · intro w'
            go_simp
            with_reducible rfl
          rotate_left
          · simp only [Act.put, List.setIfInBounds_toArray, List.set_cons_zero, List.set_cons_succ, i64_w, i32_w]
            rfl
          refine pure_ (i := 1) (N := some 27) (v := ?_) (a' := ?_) #[true, true, false, false, false] rfl rfl (by kernel_rfl) (fun _ _ _ h => h) (Or.inl ⟨by rfl, ?_⟩) ?_ ?_
          rotate_left
          · intro w'
            go_simp
            with_reducible rfl
          rotate_left
          · simp only [Act.put, List.setIfInBounds_toArray, List.set_cons_zero, List.set_cons_succ, i64_w, i32_w]
            rfl
          refine pure_ (i := 2) (N := some 28) (v := ?_) (a' := ?_) #[true, true, true, false, false] rfl rfl (by kernel_rfl) (fun _ _ _ h => h) (Or.inl ⟨by rfl, ?_⟩) ?_ ?_
          rotate_left
          · intro w'
            go_simp
            with_reducible rfl
          rotate_left
          · simp only [Act.put, List.setIfInBounds_toArray, List.set_cons_zero, List.set_cons_succ, i64_w, i32_w]
            rfl
          refine pure_ (i := 3) (N := some 29) (v := ?_) (a' := ?_) #[true, true, true, true, false] rfl rfl (by kernel_rfl) (fun _ _ _ h => h) (Or.inl ⟨by rfl, ?_⟩) ?_ ?_
          rotate_left
          · intro w'
            go_simp
            with_reducible rfl
          rotate_left
          · simp only [Act.put, List.setIfInBounds_toArray, List.set_cons_zero, List.set_cons_succ, i64_w, i32_w]
            rfl
          refine one_ (i := 4) (N := some 30) #[true, true, true, true, true] rfl rfl (by kernel_rfl) (by decide) (fun K hK => ?_)
          refine step_copy_splice rfl (.tmp 27) (.tmp 29) 26 26 (by rfl) 5 Try.underlying26 (by kernel_rfl) (some ⟨ge, 9, none⟩) (some ⟨ad.block, ad.off + 12, none⟩) 32 32 32 (c0 - 12) (by rfl) (by rfl) ge 9 (grp tn is z32).toList 25 (by (with_reducible repeat (first | refine blk_drewN ?_ _ | refine blk_drew ?_ | refine blk_alloc ?_ _)); exact BKe.out) (bs.map (Value.int .u8)) (by rw [List.length_map, L32.out]; rfl) (fun _ => ⟨rfl, _, rfl, by rw [HBS.out]; exact cut_cells (fun j hj => pw_cell_below (below_drew1 HB.out) (HCE.out j hj)) 12 44 (by omega) (by have := HLEN.out; omega)⟩) (by rw [List.length_map, L32.out, Array.length_toList, grp_size]; have h1_ := L8.out; have h2_ : z8.length = 8 := rfl; have h3_ : z32.length = 32 := rfl; omega) (by intro v hv; obtain ⟨x, _, rfl⟩ := List.mem_map.1 hv; rfl) ge (w4.drew) (Below.refl _ _) (Nat.le_refl _) ?_
          intro w5 hg2 hb2
          have hg3 := hg2.out
          rw [splice_9 tn L8.out L32.out] at hg3
          have n0_ := Aside0.mk ((below_drew1 HB.out).trans (hb2.mono (Nat.le_trans GE.out (Nat.le_of_lt GG.out))))
          have n1_ := Aside0.mk ((hb2.block gb GG.out).trans (show _ = some (.cells zG 25 (0, 0)) by (with_reducible repeat (first | refine blk_drewN ?_ _ | refine blk_drew ?_ | refine blk_alloc ?_ _)); exact BKb.out))
          clear HB BKb BKe hg2 hb2
          have HB := n0_
          have BKb := n1_
          have BKe := Aside0.mk hg3
          clear n0_ n1_ hg3
          refine hK.out _ _ trivial (fun hHeld => ?_)
          clear hK K
          refine norm_ (a' := ?_) ?_ ?_
          rotate_left
          · show Act.put _ (some 30) _ = _
            simp only [Act.put, List.setIfInBounds_toArray, List.set_cons_zero, List.set_cons_succ, i64_w, i32_w]
            rfl
          refine done_ (by kernel_rfl) ?_
          clear hs8 hs32
          go_wp2_with (first
            | ((with_reducible refine gate_dst (N := 32) rfl ?_); refine load_event rfl 25 (.tmp 4) rfl ge (grp tn is bs) 25 _ rfl BKe.out hu25 rfl (grp_info tn L8.out L32.out) ?_)
            | (go_at_call 11; refine (REncodeGroup_call tn is bs _ L8.out L32.out).mono ?_; rintro e w6 ⟨v0, he, hr, hb⟩; rw [HX.out] at he hr; subst he; have HR7 := Aside0.mk hr; have n0_ := Aside0.mk (below_step (w2 := w6) (by repeat (first | (with_reducible first | exact HB.out | apply below_alloc | apply pw_below_drewN | apply below_drew1) | exact HB.out)) hb); have n1_ := Aside0.mk (blk_below (w1 := w6) (g := gb) (o := .cells zG 25 (0, 0)) (by (with_reducible repeat (first | refine blk_drewN ?_ _ | refine blk_drew ?_ | refine blk_alloc ?_ _)); exact BKb.out) hb); have n2_ := Aside0.mk (blk_below (w1 := w6) (g := ge) (o := .cells (grp tn is bs) 25 (0, 0)) (by (with_reducible repeat (first | refine blk_drewN ?_ _ | refine blk_drew ?_ | refine blk_alloc ?_ _)); exact BKe.out) hb); clear HB BKb BKe; have HB := n0_; have BKb := n1_; have BKe := n2_; clear n0_ n1_ n2_ hr hb; obtain ⟨A7, c7, e7⟩ := Kd.R_slice HR7.out; subst e7)
            | (go_at_call 39; refine (bollardref03_same.calls (some ad) c0 l0 A7 c7 x1 false _ (by repeat (first | exact Kd.C_below HR0.out HB.out | refine Kd.C_drewN ?_ _ | refine Kd.C_drew ?_)) HC0.out (by repeat (first | exact (Kd.R_reads' HR7.out).2.2 | refine Kd.C_drewN ?_ _ | refine Kd.C_drew ?_)) (Kd.R_reads' HR7.out).2.1 HS.out).mono ?_; rintro e w12 ⟨rfl, m9, rfl⟩)
            | (refine store_event rfl 25 (.tmp 2) (.tmp 44) rfl gb zG (zG) 25 rfl rfl (by (with_reducible repeat (first | refine blk_drewN ?_ _ | refine blk_drew ?_ | refine blk_alloc ?_ _)); exact BKb.out) (rfl) (grp_info 0 (by rfl) (by rfl)) (grp_one _ _ _) ?_; intro w9 hb1 hb2 hb3; have n0_ := Aside0.mk (hb3 w.heap.size w GE.out (by repeat (first | (with_reducible first | exact HB.out | apply below_alloc | apply pw_below_drewN | apply below_drew1) | exact HB.out))); have BKz := Aside0.mk hb1; clear HB; have HB := n0_; clear n0_ hb1 hb2 hb3))
          refine bodyPost_ret (results_ct rfl _ _ gb 25 (zG) (0, 0) _ rfl (by (with_reducible repeat (first | refine blk_drewN ?_ _ | refine blk_drew ?_ | refine blk_alloc ?_ _)); exact BKz.out) hu25 rfl (grp_info 0 (by rfl) (by rfl))) rfl ?_
          exact ⟨rfl, by repeat (first | exact HB.out | apply pw_below_drewN | apply below_drew1)⟩
      · rw [if_neg hq2]
        have hqb : (x2 == 0) = false := beq_eq_false_iff_ne.mpr hq2
        have hqc : (x2 != 0) = true := bne_iff_ne.mpr hq2
        clear hq2
        go_enter Try.func14, Try.ntmps14
        go_wp2_with (first
          | ((with_reducible refine gate_dst (N := 2) rfl ?_); refine box_event ?hg (N := 2) ?hd (cs := zG) (t := 25) ?hr ?_; (case hd => rfl); (case hg => rfl); (case hr => first | (go_simp; done) | (go_simp; rfl) | (kernel_rfl)); intro gb hg w1 hbox hb; have n0_ := Aside0.mk (below_step (w2 := w1) (by repeat (first | (with_reducible first | exact HB.out | apply below_alloc | apply pw_below_drewN | apply below_drew1) | exact HB.out)) hb); have BKb := Aside0.mk hbox; have GE := Aside0.mk (show w.heap.size ≤ gb by rw [hg]; exact Nat.le_refl _); clear HB; have HB := n0_; clear n0_ hb hbox hg; obtain ⟨ii, hii, _, hsz, _⟩ := info_parts infou8; obtain ⟨hcut, hA, hC⟩ := print_take_of (P := Try.prog) (Value.int .u8) 0 26 5 .i64 Try.underlying26 hii hsz (some ad) c0 l0 2 (by omega) (of_decide_eq_true h4b) HC0.out; have HR4 := Aside0.mk (Kd.C_of_reads (h1 := fun _ => rfl) (hA _ (Kd.reads_of_C HR0.out))); clear hA hC hii hsz; have hcv := Kd.C_string (P := Try.prog) (A := (some ad)) (c := c0) Try.underlying26 Try.underlying5 Try.underlying9 (Kd.C_below HR4.out HB.out); have hcvs := hcv; simp only [Int.reduceToNat, List.length_take] at hcvs; have hcell2 : w1.cell? ⟨ad.block, ad.off + 2, none⟩ = some (.int .u8 tn) := (dg_held (Kd.C_below HR0.out HB.out) HLEN.out HTN.out HIS.out HBS.out).1)
          | ((with_reducible refine gate_dst (N := 20) rfl ?_); first | refine build_event rfl 25 _ rfl #[(0, .int .i64 tn)] (.agg (grp tn z8 z32)) (HK.out tn (.inl rfl) _) (by simp only [List.map_toArray, List.map_cons, List.map_nil]; rfl) ?_ | refine build_event rfl 25 _ rfl #[(0, .int .i64 (wrap64 tn))] (.agg (grp tn z8 z32)) (HK.out (wrap64 tn) (.inr rfl) _) (by simp only [List.map_toArray, List.map_cons, List.map_nil]; rfl) ?_)
          | ((with_reducible refine gate_dst (N := 4) rfl ?_); clear hcell2 hcv hcvs; refine box_event ?hg (N := 4) ?hd (cs := zG) (t := 25) ?hr ?_; (case hd => rfl); (case hg => rfl); (case hr => first | (go_simp; done) | (go_simp; rfl) | (kernel_rfl)); intro ge hg w2 hbox hb; have GG := Aside0.mk (show gb < ge by rw [hg]; exact blk_lt BKb.out); have n0_ := Aside0.mk (below_step (w2 := w2) (by repeat (first | (with_reducible first | exact HB.out | apply below_alloc | apply pw_below_drewN | apply below_drew1) | exact HB.out)) hb); have n1_ := Aside0.mk (blk_below (w1 := w2) (g := gb) (o := .cells zG 25 (0, 0)) (by (with_reducible repeat (first | refine blk_drewN ?_ _ | refine blk_drew ?_ | refine blk_alloc ?_ _)); exact BKb.out) hb); have BKe := Aside0.mk hbox; clear HB BKb; have HB := n0_; have BKb := n1_; clear n0_ n1_ hb hbox hg; have hs8 := sl8 ge 1; have hs32 := sl32 ge 9)
          | (refine store_event rfl 25 (.tmp 4) (.tmp 20) rfl ge zG (grp tn z8 z32) 25 rfl rfl BKe.out (grp_sizes _ _ (by rfl) (by rfl) (by rfl) (by rfl)) (grp_info tn (by rfl) (by rfl)) (grp_one _ _ _) ?_; intro w3 hb1 hb2 hb3; have n0_ := Aside0.mk (hb3 w.heap.size w (Nat.le_trans GE.out (Nat.le_of_lt GG.out)) HB.out); have n1_ := Aside0.mk ((hb2 gb (Nat.ne_of_lt GG.out)).trans BKb.out); clear HB BKb BKe; have HB := n0_; have BKb := n1_; have BKe := Aside0.mk hb1; clear n0_ n1_ hb1 hb2 hb3))
        refine start_ (n := 5) (S := fun w' => True) (ds := []) #[false, false, false, false, false] (by kernel_rfl) rfl rfl trivial (fun hHeld => ?_)
        refine pure_ (i := 0) (N := some 21) (v := ?_) (a' := ?_) #[true, false, false, false, false] rfl rfl (by kernel_rfl) (fun _ _ _ h => h) (Or.inl ⟨by rfl, ?_⟩) ?_ ?_
        rotate_left
        · intro w'
          go_simp
          with_reducible rfl
        rotate_left
        · simp only [Act.put, List.setIfInBounds_toArray, List.set_cons_zero, List.set_cons_succ, i64_w, i32_w]
          rfl
        refine pure_ (i := 1) (N := some 22) (v := ?_) (a' := ?_) #[true, true, false, false, false] rfl rfl (by kernel_rfl) (fun _ _ _ h => h) (Or.inl ⟨by rfl, ?_⟩) ?_ ?_
        rotate_left
        · intro w'
          go_simp
          with_reducible rfl
        rotate_left
        · simp only [Act.put, List.setIfInBounds_toArray, List.set_cons_zero, List.set_cons_succ, i64_w, i32_w]
          rfl
        refine pure_ (i := 2) (N := some 23) (v := ?_) (a' := ?_) #[true, true, true, false, false] rfl rfl (by kernel_rfl) (fun _ _ _ h => h) (Or.inl ⟨by rfl, ?_⟩) ?_ ?_
        rotate_left
        · intro w'
          go_simp
          with_reducible rfl
        rotate_left
        · simp only [Act.put, List.setIfInBounds_toArray, List.set_cons_zero, List.set_cons_succ, i64_w, i32_w]
          rfl
        refine pure_ (i := 3) (N := some 24) (v := ?_) (a' := ?_) #[true, true, true, true, false] rfl rfl (by kernel_rfl) (fun _ _ _ h => h) (Or.inl ⟨by rfl, ?_⟩) ?_ ?_
        rotate_left
        · intro w'
          go_simp
          with_reducible rfl
        rotate_left
        · simp only [Act.put, List.setIfInBounds_toArray, List.set_cons_zero, List.set_cons_succ, i64_w, i32_w]
          rfl
        refine one_ (i := 4) (N := some 25) #[true, true, true, true, true] rfl rfl (by kernel_rfl) (by decide) (fun K hK => ?_)
        refine step_copy_splice rfl (.tmp 22) (.tmp 24) 26 26 (by rfl) 5 Try.underlying26 (by kernel_rfl) (some ⟨ge, 1, none⟩) (some ⟨ad.block, ad.off + 4, none⟩) 8 8 8 (c0 - 4) (by rfl) (by rfl) ge 1 (grp tn z8 z32).toList 25 (by (with_reducible repeat (first | refine blk_drewN ?_ _ | refine blk_drew ?_ | refine blk_alloc ?_ _)); exact BKe.out) (is.map (Value.int .u8)) (by rw [List.length_map, L8.out]; rfl) (fun _ => ⟨rfl, _, rfl, by rw [HIS.out]; exact cut_cells (fun j hj => pw_cell_below (below_drew1 HB.out) (HCE.out j hj)) 4 12 (by omega) (by have := HLEN.out; omega)⟩) (by rw [List.length_map, L8.out, Array.length_toList, grp_size]; have h1_ := L8.out; have h2_ : z8.length = 8 := rfl; have h3_ : z32.length = 32 := rfl; omega) (by intro v hv; obtain ⟨x, _, rfl⟩ := List.mem_map.1 hv; rfl) ge (w3.drew) (Below.refl _ _) (Nat.le_refl _) ?_
        intro w4 hg2 hb2
        have hg3 := hg2.out
        rw [splice_1 tn L8.out] at hg3
        have n0_ := Aside0.mk ((below_drew1 HB.out).trans (hb2.mono (Nat.le_trans GE.out (Nat.le_of_lt GG.out))))
        have n1_ := Aside0.mk ((hb2.block gb GG.out).trans (show _ = some (.cells zG 25 (0, 0)) by (with_reducible repeat (first | refine blk_drewN ?_ _ | refine blk_drew ?_ | refine blk_alloc ?_ _)); exact BKb.out))
        clear HB BKb BKe hg2 hb2
        have HB := n0_
        have BKb := n1_
        have BKe := Aside0.mk hg3
        clear n0_ n1_ hg3
        refine hK.out _ _ trivial (fun hHeld => ?_)
        clear hK K
        refine norm_ (a' := ?_) ?_ ?_
        rotate_left
        · show Act.put _ (some 25) _ = _
          simp only [Act.put, List.setIfInBounds_toArray, List.set_cons_zero, List.set_cons_succ, i64_w, i32_w]
          rfl
        refine done_ (by kernel_rfl) ?_
        go_wp2
        refine start_ (n := 5) (S := fun w' => True) (ds := []) #[false, false, false, false, false] (by kernel_rfl) rfl rfl trivial (fun hHeld => ?_)
        refine pure_ (i := 0) (N := some 26) (v := ?_) (a' := ?_) #[true, false, false, false, false] rfl rfl (by kernel_rfl) (fun _ _ _ h => h) (Or.inl ⟨by rfl, ?_⟩) ?_ ?_
        rotate_left
        · intro w'
          go_simp
          with_reducible rfl
        rotate_left
        · simp only [Act.put, List.setIfInBounds_toArray, List.set_cons_zero, List.set_cons_succ, i64_w, i32_w]
          rfl
        refine pure_ (i := 1) (N := some 27) (v := ?_) (a' := ?_) #[true, true, false, false, false] rfl rfl (by kernel_rfl) (fun _ _ _ h => h) (Or.inl ⟨by rfl, ?_⟩) ?_ ?_
        rotate_left
        · intro w'
          go_simp
          with_reducible rfl
        rotate_left
        · simp only [Act.put, List.setIfInBounds_toArray, List.set_cons_zero, List.set_cons_succ, i64_w, i32_w]
          rfl
        refine pure_ (i := 2) (N := some 28) (v := ?_) (a' := ?_) #[true, true, true, false, false] rfl rfl (by kernel_rfl) (fun _ _ _ h => h) (Or.inl ⟨by rfl, ?_⟩) ?_ ?_
        rotate_left
        · intro w'
          go_simp
          with_reducible rfl
        rotate_left
        · simp only [Act.put, List.setIfInBounds_toArray, List.set_cons_zero, List.set_cons_succ, i64_w, i32_w]
          rfl
        refine pure_ (i := 3) (N := some 29) (v := ?_) (a' := ?_) #[true, true, true, true, false] rfl rfl (by kernel_rfl) (fun _ _ _ h => h) (Or.inl ⟨by rfl, ?_⟩) ?_ ?_
        rotate_left
        · intro w'
          go_simp
          with_reducible rfl
        rotate_left
        · simp only [Act.put, List.setIfInBounds_toArray, List.set_cons_zero, List.set_cons_succ, i64_w, i32_w]
          rfl
        refine one_ (i := 4) (N := some 30) #[true, true, true, true, true] rfl rfl (by kernel_rfl) (by decide) (fun K hK => ?_)
        refine step_copy_splice rfl (.tmp 27) (.tmp 29) 26 26 (by rfl) 5 Try.underlying26 (by kernel_rfl) (some ⟨ge, 9, none⟩) (some ⟨ad.block, ad.off + 12, none⟩) 32 32 32 (c0 - 12) (by rfl) (by rfl) ge 9 (grp tn is z32).toList 25 (by (with_reducible repeat (first | refine blk_drewN ?_ _ | refine blk_drew ?_ | refine blk_alloc ?_ _)); exact BKe.out) (bs.map (Value.int .u8)) (by rw [List.length_map, L32.out]; rfl) (fun _ => ⟨rfl, _, rfl, by rw [HBS.out]; exact cut_cells (fun j hj => pw_cell_below (below_drew1 HB.out) (HCE.out j hj)) 12 44 (by omega) (by have := HLEN.out; omega)⟩) (by rw [List.length_map, L32.out, Array.length_toList, grp_size]; have h1_ := L8.out; have h2_ : z8.length = 8 := rfl; have h3_ : z32.length = 32 := rfl; omega) (by intro v hv; obtain ⟨x, _, rfl⟩ := List.mem_map.1 hv; rfl) ge (w4.drew) (Below.refl _ _) (Nat.le_refl _) ?_
        intro w5 hg2 hb2
        have hg3 := hg2.out
        rw [splice_9 tn L8.out L32.out] at hg3
        have n0_ := Aside0.mk ((below_drew1 HB.out).trans (hb2.mono (Nat.le_trans GE.out (Nat.le_of_lt GG.out))))
        have n1_ := Aside0.mk ((hb2.block gb GG.out).trans (show _ = some (.cells zG 25 (0, 0)) by (with_reducible repeat (first | refine blk_drewN ?_ _ | refine blk_drew ?_ | refine blk_alloc ?_ _)); exact BKb.out))
        clear HB BKb BKe hg2 hb2
        have HB := n0_
        have BKb := n1_
        have BKe := Aside0.mk hg3
        clear n0_ n1_ hg3
        refine hK.out _ _ trivial (fun hHeld => ?_)
        clear hK K
        refine norm_ (a' := ?_) ?_ ?_
        rotate_left
        · show Act.put _ (some 30) _ = _
          simp only [Act.put, List.setIfInBounds_toArray, List.set_cons_zero, List.set_cons_succ, i64_w, i32_w]
          rfl
        refine done_ (by kernel_rfl) ?_
        clear hs8 hs32
        go_wp2_with (first
          | ((with_reducible refine gate_dst (N := 32) rfl ?_); refine load_event rfl 25 (.tmp 4) rfl ge (grp tn is bs) 25 _ rfl BKe.out hu25 rfl (grp_info tn L8.out L32.out) ?_)
          | (go_at_call 11; refine (REncodeGroup_call tn is bs _ L8.out L32.out).mono ?_; rintro e w6 ⟨v0, he, hr, hb⟩; rw [HX.out] at he hr; subst he; have HR7 := Aside0.mk hr; have n0_ := Aside0.mk (below_step (w2 := w6) (by repeat (first | (with_reducible first | exact HB.out | apply below_alloc | apply pw_below_drewN | apply below_drew1) | exact HB.out)) hb); have n1_ := Aside0.mk (blk_below (w1 := w6) (g := gb) (o := .cells zG 25 (0, 0)) (by (with_reducible repeat (first | refine blk_drewN ?_ _ | refine blk_drew ?_ | refine blk_alloc ?_ _)); exact BKb.out) hb); have n2_ := Aside0.mk (blk_below (w1 := w6) (g := ge) (o := .cells (grp tn is bs) 25 (0, 0)) (by (with_reducible repeat (first | refine blk_drewN ?_ _ | refine blk_drew ?_ | refine blk_alloc ?_ _)); exact BKe.out) hb); clear HB BKb BKe; have HB := n0_; have BKb := n1_; have BKe := n2_; clear n0_ n1_ n2_ hr hb; obtain ⟨A7, c7, e7⟩ := Kd.R_slice HR7.out; subst e7)
          | (refine store_event rfl 25 (.tmp 2) (.tmp 44) rfl gb zG (zG) 25 rfl rfl (by (with_reducible repeat (first | refine blk_drewN ?_ _ | refine blk_drew ?_ | refine blk_alloc ?_ _)); exact BKb.out) (rfl) (grp_info 0 (by rfl) (by rfl)) (grp_one _ _ _) ?_; intro w9 hb1 hb2 hb3; have n0_ := Aside0.mk (hb3 w.heap.size w GE.out (by repeat (first | (with_reducible first | exact HB.out | apply below_alloc | apply pw_below_drewN | apply below_drew1) | exact HB.out))); have BKz := Aside0.mk hb1; clear HB; have HB := n0_; clear n0_ hb1 hb2 hb3))
        refine bodyPost_ret (results_ct rfl _ _ gb 25 (zG) (0, 0) _ rfl (by (with_reducible repeat (first | refine blk_drewN ?_ _ | refine blk_drew ?_ | refine blk_alloc ?_ _)); exact BKz.out) hu25 rfl (grp_info 0 (by rfl) (by rfl))) rfl ?_
        exact ⟨rfl, by repeat (first | exact HB.out | apply pw_below_drewN | apply below_drew1)⟩
    · rw [if_neg hm]
      have hmb0 : ((strOfNums (l0.take 2)).toList == ([104, 100] : List UInt8)) = false := beq_eq_false_iff_ne.mpr hm
      have hmb1 : ((strOfNums (l0.take 2)).toList != ([104, 100] : List UInt8)) = true := bne_iff_ne.mpr hm
      clear hm
      go_enter Try.func14, Try.ntmps14
      go_wp2_with (first
        | ((with_reducible refine gate_dst (N := 2) rfl ?_); refine box_event ?hg (N := 2) ?hd (cs := zG) (t := 25) ?hr ?_; (case hd => rfl); (case hg => rfl); (case hr => first | (go_simp; done) | (go_simp; rfl) | (kernel_rfl)); intro gb hg w1 hbox hb; have n0_ := Aside0.mk (below_step (w2 := w1) (by repeat (first | (with_reducible first | exact HB.out | apply below_alloc | apply pw_below_drewN | apply below_drew1) | exact HB.out)) hb); have BKb := Aside0.mk hbox; have GE := Aside0.mk (show w.heap.size ≤ gb by rw [hg]; exact Nat.le_refl _); clear HB; have HB := n0_; clear n0_ hb hbox hg; obtain ⟨ii, hii, _, hsz, _⟩ := info_parts infou8; obtain ⟨hcut, hA, hC⟩ := print_take_of (P := Try.prog) (Value.int .u8) 0 26 5 .i64 Try.underlying26 hii hsz A0 c0 l0 2 (by omega) (of_decide_eq_true h4b) HC0.out; have HR4 := Aside0.mk (Kd.C_of_reads (h1 := fun _ => rfl) (hA _ (Kd.reads_of_C HR0.out))); clear hA hC hii hsz; have hcv := Kd.C_string (P := Try.prog) (A := A0) (c := c0) Try.underlying26 Try.underlying5 Try.underlying9 (Kd.C_below HR4.out HB.out); have hcvs := hcv; simp only [Int.reduceToNat, List.length_take] at hcvs)
        | (refine store_event rfl 25 (.tmp 2) (.tmp 15) rfl gb zG (zG) 25 rfl rfl (by (with_reducible repeat (first | refine blk_drewN ?_ _ | refine blk_drew ?_ | refine blk_alloc ?_ _)); exact BKb.out) (rfl) (grp_info 0 (by rfl) (by rfl)) (grp_one _ _ _) ?_; intro w9 hb1 hb2 hb3; have n0_ := Aside0.mk (hb3 w.heap.size w GE.out (by repeat (first | (with_reducible first | exact HB.out | apply below_alloc | apply pw_below_drewN | apply below_drew1) | exact HB.out))); have BKz := Aside0.mk hb1; clear HB; have HB := n0_; clear n0_ hb1 hb2 hb3))
      refine bodyPost_ret (results_ct rfl _ _ gb 25 (zG) (0, 0) _ rfl (by (with_reducible repeat (first | refine blk_drewN ?_ _ | refine blk_drew ?_ | refine blk_alloc ?_ _)); exact BKz.out) hu25 rfl (grp_info 0 (by rfl) (by rfl))) rfl ?_
      exact ⟨rfl, by repeat (first | exact HB.out | apply pw_below_drewN | apply below_drew1)⟩
  · rw [if_neg hlen]
    have hb0 : ((l0.length : Int) == 128) = false := beq_eq_false_iff_ne.mpr hlen
    have hb1 : ((l0.length : Int) != 128) = true := bne_iff_ne.mpr hlen
    clear hlen
    go_enter Try.func14, Try.ntmps14
    go_wp2_with (first
      | ((with_reducible refine gate_dst (N := 2) rfl ?_); refine box_event ?hg (N := 2) ?hd (cs := zG) (t := 25) ?hr ?_; (case hd => rfl); (case hg => rfl); (case hr => first | (go_simp; done) | (go_simp; rfl) | (kernel_rfl)); intro gb hg w1 hbox hb; have n0_ := Aside0.mk (below_step (w2 := w1) (by repeat (first | (with_reducible first | exact HB.out | apply below_alloc | apply pw_below_drewN | apply below_drew1) | exact HB.out)) hb); have BKb := Aside0.mk hbox; have GE := Aside0.mk (show w.heap.size ≤ gb by rw [hg]; exact Nat.le_refl _); clear HB; have HB := n0_; clear n0_ hb hbox hg)
      | (refine store_event rfl 25 (.tmp 2) (.tmp 10) rfl gb zG (zG) 25 rfl rfl (by (with_reducible repeat (first | refine blk_drewN ?_ _ | refine blk_drew ?_ | refine blk_alloc ?_ _)); exact BKb.out) (rfl) (grp_info 0 (by rfl) (by rfl)) (grp_one _ _ _) ?_; intro w9 hb1 hb2 hb3; have n0_ := Aside0.mk (hb3 w.heap.size w GE.out (by repeat (first | (with_reducible first | exact HB.out | apply below_alloc | apply pw_below_drewN | apply below_drew1) | exact HB.out))); have BKz := Aside0.mk hb1; clear HB; have HB := n0_; clear n0_ hb1 hb2 hb3))
    refine bodyPost_ret (results_ct rfl _ _ gb 25 (zG) (0, 0) _ rfl (by (with_reducible repeat (first | refine blk_drewN ?_ _ | refine blk_drew ?_ | refine blk_alloc ?_ _)); exact BKz.out) hu25 rfl (grp_info 0 (by rfl) (by rfl))) rfl ?_
    exact ⟨rfl, by repeat (first | exact HB.out | apply pw_below_drewN | apply below_drew1)⟩
end Go.Proofs.Ytdaeanodgnmknaa.Gw
