/- An inode of bytes: the reference's walk. -/
import Derived.Test.YtdaeanodgnmknaaDg
namespace Go.Proofs.Ytdaeanodgnmknaa.Di
open Go.RowKit Go.Proofs.Ytdaeanodgnmknaa.Rd Go.Proofs.Ytdaeanodgnmknaa.XLayoutDinodes Go.Proofs.YtdaeanodgnmknaaW.PrintWords Go.Proofs.YtdaeanodgnmknaaW.PrintLast Go.Proofs.YtdaeanodgnmknaaW.PrintMore
set_option linter.unusedVariables false
set_option linter.unusedSimpArgs false
theorem str_list (l : List Int) : (strOfNums l).toList = l.map fun n => UInt8.ofNat n.toNat := by
  rw [ByteArray.toList_eq]
  simp [strOfNums]
theorem same_zeros (l : List Int) (hl : l.length = 32) (hwf : ∀ x ∈ l, 0 ≤ x ∧ x ≤ 255) : bollardref03_same.f l P0 = some (zerosB l) := by
  unfold bollardref03_same.f
  congr 1
  rw [Bool.eq_iff_iff, beq_iff_eq, zerosB_iff, hl, str_list, str_list]
  constructor
  · intro h
    refine List.eq_replicate_iff.2 ⟨hl, fun x hx => ?_⟩
    have h1 : UInt8.ofNat x.toNat ∈ l.map (fun n => UInt8.ofNat n.toNat) := List.mem_map.2 ⟨x, hx, rfl⟩
    rw [h] at h1
    obtain ⟨y, hy, he⟩ := List.mem_map.1 h1
    rw [List.eq_of_mem_replicate hy] at he
    have h2 := congrArg UInt8.toNat he
    simp at h2
    have := hwf x hx
    omega
  · intro h
    rw [h]
    rfl
set_option maxHeartbeats 8000000 in
set_option maxRecDepth 100000 in
theorem RDecodeDinode_call (A0 : Option Addr) (c0 : Nat) (l0 : List Int) (w : World) (hr0 : Kd.C (Kd.int .u8) w A0 l0.length l0) (hc0 : l0.length ≤ c0) (hwf : ∀ x ∈ l0, 0 ≤ x ∧ x ≤ 255) :
    Calls Try.prog 35 #[.slice A0 l0.length c0] w fun e w' => e = .returned (.tuple #[.agg (dnT (decD l0).1), .int .i64 (decD l0).2]) ∧ Below w.heap.size w w' := by
  have hu59 := Try.underlying59
  have HR0 := Aside0.mk hr0
  have HC0 := Aside0.mk hc0
  have HB := Aside0.mk (Below.refl w.heap.size w)
  have HWF := Aside0.mk hwf
  have HD0 := Aside0.mk (show decD l0 = decD l0 from rfl)
  clear hr0 hc0 hwf
  by_cases hlen : (l0.length : Int) = 32
  · have HLEN := Aside0.mk (show l0.length = 32 by omega)
    have hb0 : ((l0.length : Int) == 32) = true := beq_iff_eq.mpr hlen
    have hb1 : ((l0.length : Int) != 32) = false := bne_eq_false_iff_eq.mpr hlen
    by_cases hz : zerosB l0 = true
    · have HD := Aside0.mk (show decD l0 = ((0, 0, 0, 0, 0, 0, 0, 0, 0), 0) by unfold decD; rw [if_pos hlen, if_pos hz])
      have HZ := Aside0.mk ((same_zeros l0 HLEN.out HWF.out).trans (by rw [hz]))
      clear hlen hz
      go_enter Try.func35, Try.ntmps35
      go_wp2_with (first
        | ((with_reducible refine gate_dst (N := 2) rfl ?_); refine box_event ?hg (N := 2) ?hd (cs := (dn 0 0 0 0 0 0 0 0 0)) (t := 59) ?hr ?_; (case hd => rfl); (case hg => rfl); (case hr => first | (go_simp; done) | (go_simp; rfl) | kernel_rfl); intro gb hg w1 hbox hb; have n0_ := Aside0.mk (below_step (w2 := w1) (by repeat (first | (with_reducible first | exact HB.out | apply below_alloc | apply pw_below_drewN | apply below_drew1) | exact HB.out)) hb); have BKb := Aside0.mk hbox; have GE := Aside0.mk (show w.heap.size ≤ gb by rw [hg]; exact Nat.le_refl _); clear HB; have HB := n0_; clear n0_ hb hbox hg)
        | ((with_reducible refine gate_dst (N := 13) rfl ?_); refine Kd.R_make (Kd.int .u8) _ 5 rfl (N := 13) rfl 26 _ _ rfl 32 rfl rfl Try.underlying26 (.int .u8 0) 1 Gw.infou8 rfl (by decide) (by omega) 0 (ok := fun _ => True) (okp := fun _ => True) rfl (fun _ hk => hk) trivial (by omega) (by omega) (Below.refl _ _) (Nat.le_refl _) ?_; intro v3 w3 ho hb hg_ hnew_; clear hg_ hnew_; have HO := Aside0.mk (show Kd.R (Kd.int .u8) 5 w3 w.heap.size (fun _ => True) v3 P0 from Kd.R_lower ho (below_size (by repeat (first | (with_reducible first | exact HB.out | apply below_alloc | apply pw_below_drewN | apply below_drew1) | exact HB.out)))); have n0_ := Aside0.mk (blk_below (w1 := w3) (g := gb) (o := .cells (dn 0 0 0 0 0 0 0 0 0) 59 (0, 0)) (by (with_reducible repeat (first | refine blk_drewN ?_ _ | refine blk_drew ?_ | refine blk_alloc ?_ _)); exact BKb.out) hb); clear BKb; have BKb := n0_; clear n0_; have n0_ := Aside0.mk (below_step (w2 := w3) (by repeat (first | (with_reducible first | exact HB.out | apply below_alloc | apply pw_below_drewN | apply below_drew1) | exact HB.out)) hb); clear HB; have HB := n0_; clear n0_; clear hb ho; obtain ⟨Az, cz, ez⟩ := Kd.R_slice HO.out; subst ez)
        | (have n_ := HZ.out; clear n_; go_at_call 39; refine (bollardref03_same.calls A0 c0 l0 Az cz P0 true _ (Kd.C_below HR0.out (by repeat (first | exact HB.out | apply pw_below_drewN | apply below_drew1))) HC0.out (by repeat (first | exact (Kd.R_reads' HO.out).2.2 | refine Kd.C_drewN ?_ _ | refine Kd.C_drew ?_)) (Kd.R_reads' HO.out).2.1 HZ.out).mono ?_; rintro e w' ⟨rfl, ⟨nd, rfl⟩⟩; clear HZ)
        | ((with_reducible refine gate_st (x := .tmp 2) (y := .tmp 15) rfl ?_); refine Gw.store_event rfl 59 (.tmp 2) (.tmp 15) rfl gb (dn 0 0 0 0 0 0 0 0 0) (dn 0 0 0 0 0 0 0 0 0) 59 rfl rfl (by (with_reducible repeat (first | refine blk_drewN ?_ _ | refine blk_drew ?_ | refine blk_alloc ?_ _)); exact BKb.out) rfl (by kernel_rfl) (by kernel_rfl) ?_; intro wz hb1 hb2 hb3; have n0_ := Aside0.mk (hb3 w.heap.size w GE.out (by repeat (first | (with_reducible first | exact HB.out | apply below_alloc | apply pw_below_drewN | apply below_drew1) | exact HB.out))); have BKz := Aside0.mk hb1; clear HB; have HB := n0_; clear n0_ hb1 hb2 hb3))
      refine bodyPost_ret (results_ct rfl _ _ gb 59 (dn 0 0 0 0 0 0 0 0 0) (0, 0) _ rfl (by (with_reducible repeat (first | refine blk_drewN ?_ _ | refine blk_drew ?_ | refine blk_alloc ?_ _)); exact BKz.out) hu59 rfl (by kernel_rfl)) rfl ?_
      exact ⟨by rw [HD.out]; rfl, by repeat (first | exact HB.out | apply pw_below_drewN | apply below_drew1)⟩
    · have HZ := Aside0.mk ((same_zeros l0 HLEN.out HWF.out).trans (by rw [Bool.eq_false_iff.mpr hz]))
      by_cases hse : sealedS l0 = true
      · have HSE := Aside0.mk ((rsealed_f l0 (u8_wf HWF.out) (by have := HLEN.out; omega) 600 (by have := HLEN.out; omega)).trans (by rw [hse]))
        obtain ⟨tm, htm⟩ : ∃ x, x = Rd.le (Rd.cutL l0 0 1) := ⟨_, rfl⟩
        obtain ⟨tl, htl⟩ : ∃ x, x = Rd.le (Rd.cutL l0 2 2) := ⟨_, rfl⟩
        obtain ⟨ts, hts⟩ : ∃ x, x = Rd.le (Rd.cutL l0 4 4) := ⟨_, rfl⟩
        obtain ⟨ta, hta⟩ : ∃ x, x = Rd.le (Rd.cutL l0 8 2) := ⟨_, rfl⟩
        obtain ⟨tb, htb⟩ : ∃ x, x = Rd.le (Rd.cutL l0 10 2) := ⟨_, rfl⟩
        obtain ⟨tc, htc⟩ : ∃ x, x = Rd.le (Rd.cutL l0 12 2) := ⟨_, rfl⟩
        obtain ⟨td, htd⟩ : ∃ x, x = Rd.le (Rd.cutL l0 14 2) := ⟨_, rfl⟩
        obtain ⟨tu, htu⟩ : ∃ x, x = Rd.le (Rd.cutL l0 16 2) := ⟨_, rfl⟩
        obtain ⟨tv, htv⟩ : ∃ x, x = Rd.le (Rd.cutL l0 18 2) := ⟨_, rfl⟩
        have hrd : readD l0 = (tm, tl, ts, ta, tb, tc, td, tu, tv) := by unfold readD; rw [htm, htl, hts, hta, htb, htc, htd, htu, htv]
        obtain ⟨⟨q1, q2⟩, hx⟩ : ∃ x, x = encD tm tl ts ta tb tc td tu tv := ⟨_, rfl⟩
        have het : encT (readD l0) = (q1, q2) := by rw [hrd, hx]; rfl
        have HX := Aside0.mk hx.symm
        have HT0 := Aside0.mk ((rgetb_f l0 (u8_wf HWF.out) (by have := HLEN.out; omega) 0 1 (by omega) (by omega) (by omega) (by have := HLEN.out; omega) 600 (by omega)).trans (by rw [← htm]))
        have HT1 := Aside0.mk ((rgetb_f l0 (u8_wf HWF.out) (by have := HLEN.out; omega) 2 2 (by omega) (by omega) (by omega) (by have := HLEN.out; omega) 600 (by omega)).trans (by rw [← htl]))
        have HT2 := Aside0.mk ((rgetb_f l0 (u8_wf HWF.out) (by have := HLEN.out; omega) 4 4 (by omega) (by omega) (by omega) (by have := HLEN.out; omega) 600 (by omega)).trans (by rw [← hts]))
        have HT3 := Aside0.mk ((rgetb_f l0 (u8_wf HWF.out) (by have := HLEN.out; omega) 8 2 (by omega) (by omega) (by omega) (by have := HLEN.out; omega) 600 (by omega)).trans (by rw [← hta]))
        have HT4 := Aside0.mk ((rgetb_f l0 (u8_wf HWF.out) (by have := HLEN.out; omega) 10 2 (by omega) (by omega) (by omega) (by have := HLEN.out; omega) 600 (by omega)).trans (by rw [← htb]))
        have HT5 := Aside0.mk ((rgetb_f l0 (u8_wf HWF.out) (by have := HLEN.out; omega) 12 2 (by omega) (by omega) (by omega) (by have := HLEN.out; omega) 600 (by omega)).trans (by rw [← htc]))
        have HT6 := Aside0.mk ((rgetb_f l0 (u8_wf HWF.out) (by have := HLEN.out; omega) 14 2 (by omega) (by omega) (by omega) (by have := HLEN.out; omega) 600 (by omega)).trans (by rw [← htd]))
        have HT7 := Aside0.mk ((rgetb_f l0 (u8_wf HWF.out) (by have := HLEN.out; omega) 16 2 (by omega) (by omega) (by omega) (by have := HLEN.out; omega) 600 (by omega)).trans (by rw [← htu]))
        have HT8 := Aside0.mk ((rgetb_f l0 (u8_wf HWF.out) (by have := HLEN.out; omega) 18 2 (by omega) (by omega) (by omega) (by have := HLEN.out; omega) 600 (by omega)).trans (by rw [← htv]))
        have HH := Aside0.mk (And.intro hlen (And.intro hz (And.intro hse (And.intro het hrd))))
        clear hlen hz hse hrd hx het htm htl hts hta htb htc htd htu htv
        go_enter Try.func35, Try.ntmps35
        go_wp2_with (first
          | ((with_reducible refine gate_dst (N := 2) rfl ?_); refine box_event ?hg (N := 2) ?hd (cs := (dn 0 0 0 0 0 0 0 0 0)) (t := 59) ?hr ?_; (case hd => rfl); (case hg => rfl); (case hr => first | (go_simp; done) | (go_simp; rfl) | kernel_rfl); intro gb hg w1 hbox hb; have n0_ := Aside0.mk (below_step (w2 := w1) (by repeat (first | (with_reducible first | exact HB.out | apply below_alloc | apply pw_below_drewN | apply below_drew1) | exact HB.out)) hb); have BKb := Aside0.mk hbox; have GE := Aside0.mk (show w.heap.size ≤ gb by rw [hg]; exact Nat.le_refl _); clear HB; have HB := n0_; clear n0_ hb hbox hg)
          | ((with_reducible refine gate_dst (N := 13) rfl ?_); refine Kd.R_make (Kd.int .u8) _ 5 rfl (N := 13) rfl 26 _ _ rfl 32 rfl rfl Try.underlying26 (.int .u8 0) 1 Gw.infou8 rfl (by decide) (by omega) 0 (ok := fun _ => True) (okp := fun _ => True) rfl (fun _ hk => hk) trivial (by omega) (by omega) (Below.refl _ _) (Nat.le_refl _) ?_; intro v3 w3 ho hb hg_ hnew_; clear hg_ hnew_; have HO := Aside0.mk (show Kd.R (Kd.int .u8) 5 w3 w.heap.size (fun _ => True) v3 P0 from Kd.R_lower ho (below_size (by repeat (first | (with_reducible first | exact HB.out | apply below_alloc | apply pw_below_drewN | apply below_drew1) | exact HB.out)))); have n0_ := Aside0.mk (blk_below (w1 := w3) (g := gb) (o := .cells (dn 0 0 0 0 0 0 0 0 0) 59 (0, 0)) (by (with_reducible repeat (first | refine blk_drewN ?_ _ | refine blk_drew ?_ | refine blk_alloc ?_ _)); exact BKb.out) hb); clear BKb; have BKb := n0_; clear n0_; have n0_ := Aside0.mk (below_step (w2 := w3) (by repeat (first | (with_reducible first | exact HB.out | apply below_alloc | apply pw_below_drewN | apply below_drew1) | exact HB.out)) hb); clear HB; have HB := n0_; clear n0_; clear hb ho; obtain ⟨Az, cz, ez⟩ := Kd.R_slice HO.out; subst ez)
          | (have n_ := HZ.out; clear n_; go_at_call 39; refine (bollardref03_same.calls A0 c0 l0 Az cz P0 false _ (Kd.C_below HR0.out (by repeat (first | exact HB.out | apply pw_below_drewN | apply below_drew1))) HC0.out (by repeat (first | exact (Kd.R_reads' HO.out).2.2 | refine Kd.C_drewN ?_ _ | refine Kd.C_drew ?_)) (Kd.R_reads' HO.out).2.1 HZ.out).mono ?_; rintro e w' ⟨rfl, ⟨nd, rfl⟩⟩; clear HZ)
          | (go_at_call 56; refine (bollardref01_Sealed.calls 600 A0 c0 l0 true _ (Kd.C_below HR0.out (by repeat (first | exact HB.out | apply pw_below_drewN | apply below_drew1))) HC0.out HSE.out).mono ?_; rintro e w' ⟨rfl, ⟨nd, rfl⟩⟩; clear HSE)
          | (have n_ := HT0.out; clear n_; go_at_call 47; refine (bollardref03_get.calls 600 A0 c0 l0 0 1 tm _ (Kd.C_below HR0.out (by repeat (first | exact HB.out | apply pw_below_drewN | apply below_drew1))) HC0.out HT0.out).mono ?_; rintro e w' ⟨rfl, ⟨nd, rfl⟩⟩; clear HT0)
          | (have n_ := HT1.out; clear n_; go_at_call 47; refine (bollardref03_get.calls 600 A0 c0 l0 2 2 tl _ (Kd.C_below HR0.out (by repeat (first | exact HB.out | apply pw_below_drewN | apply below_drew1))) HC0.out HT1.out).mono ?_; rintro e w' ⟨rfl, ⟨nd, rfl⟩⟩; clear HT1)
          | (have n_ := HT2.out; clear n_; go_at_call 47; refine (bollardref03_get.calls 600 A0 c0 l0 4 4 ts _ (Kd.C_below HR0.out (by repeat (first | exact HB.out | apply pw_below_drewN | apply below_drew1))) HC0.out HT2.out).mono ?_; rintro e w' ⟨rfl, ⟨nd, rfl⟩⟩; clear HT2)
          | (have n_ := HT7.out; clear n_; go_at_call 47; refine (bollardref03_get.calls 600 A0 c0 l0 16 2 tu _ (Kd.C_below HR0.out (by repeat (first | exact HB.out | apply pw_below_drewN | apply below_drew1))) HC0.out HT7.out).mono ?_; rintro e w' ⟨rfl, ⟨nd, rfl⟩⟩; clear HT7)
          | (have n_ := HT8.out; clear n_; go_at_call 47; refine (bollardref03_get.calls 600 A0 c0 l0 18 2 tv _ (Kd.C_below HR0.out (by repeat (first | exact HB.out | apply pw_below_drewN | apply below_drew1))) HC0.out HT8.out).mono ?_; rintro e w' ⟨rfl, ⟨nd, rfl⟩⟩; clear HT8)
          | ((with_reducible refine gate_dst (N := 4) rfl ?_); refine box_event ?hg (N := 4) ?hd (cs := (dn 0 0 0 0 0 0 0 0 0)) (t := 59) ?hr ?_; (case hd => rfl); (case hg => rfl); (case hr => first | (go_simp; done) | (go_simp; rfl) | kernel_rfl); intro ge hge w5 hbox hb; have GG := Aside0.mk (show gb < ge by rw [hge]; exact blk_lt BKb.out); have n0_ := Aside0.mk (blk_below (w1 := w5) (g := gb) (o := .cells (dn 0 0 0 0 0 0 0 0 0) 59 (0, 0)) (by (with_reducible repeat (first | refine blk_drewN ?_ _ | refine blk_drew ?_ | refine blk_alloc ?_ _)); exact BKb.out) hb); clear BKb; have BKb := n0_; clear n0_; have n0_ := Aside0.mk (below_step (w2 := w5) (by repeat (first | (with_reducible first | exact HB.out | apply below_alloc | apply pw_below_drewN | apply below_drew1) | exact HB.out)) hb); clear HB; have HB := n0_; clear n0_; have BKe := Aside0.mk hbox; clear hb hbox hge)
          | ((with_reducible refine gate_st (x := .tmp 4) (y := .tmp 30) rfl ?_); refine Gw.store_event rfl 59 (.tmp 4) (.tmp 30) rfl ge (dn 0 0 0 0 0 0 0 0 0) (dn tm tl ts 0 0 0 0 tu tv) 59 rfl rfl (by (with_reducible repeat (first | refine blk_drewN ?_ _ | refine blk_drew ?_ | refine blk_alloc ?_ _)); exact BKe.out) rfl (by kernel_rfl) (by kernel_rfl) ?_; intro w6 hb1 hb2 hb3; have n0_ := Aside0.mk (hb3 w.heap.size w (Nat.le_trans GE.out (Nat.le_of_lt GG.out)) (by repeat (first | (with_reducible first | exact HB.out | apply below_alloc | apply pw_below_drewN | apply below_drew1) | exact HB.out))); have n1_ := Aside0.mk ((hb2 gb (Nat.ne_of_lt GG.out)).trans (show _ = some (.cells (dn 0 0 0 0 0 0 0 0 0) 59 (0, 0)) by (with_reducible repeat (first | refine blk_drewN ?_ _ | refine blk_drew ?_ | refine blk_alloc ?_ _)); exact BKb.out)); clear HB BKb BKe; have HB := n0_; have BKb := n1_; have BKe := Aside0.mk hb1; clear n0_ n1_ hb1 hb2 hb3; skip))
        go_loopw [31] (fun v31 w' => ∃ x : Int, v31 = .int .i64 x ∧ Aside0 ((x = 0 ∧ w'.heap[ge]? = some (.cells (dn tm tl ts 0 0 0 0 tu tv) 59 (0, 0))) ∨ (x = 1 ∧ w'.heap[ge]? = some (.cells (dn tm tl ts ta 0 0 0 tu tv) 59 (0, 0))) ∨ (x = 2 ∧ w'.heap[ge]? = some (.cells (dn tm tl ts ta tb 0 0 tu tv) 59 (0, 0))) ∨ (x = 3 ∧ w'.heap[ge]? = some (.cells (dn tm tl ts ta tb tc 0 tu tv) 59 (0, 0))) ∨ (x = 4 ∧ w'.heap[ge]? = some (.cells (dn tm tl ts ta tb tc td tu tv) 59 (0, 0)))) ∧ Aside0 (w'.heap[gb]? = some (.cells (dn 0 0 0 0 0 0 0 0 0) 59 (0, 0))) ∧ Aside0 (Below w.heap.size w w')) (fun v31 _ => (4 - intOf v31).toNat)
        case atStart => exact ⟨0, rfl, ⟨.inl ⟨rfl, by (with_reducible repeat (first | refine blk_drewN ?_ _ | refine blk_drew ?_ | refine blk_alloc ?_ _)); exact BKe.out⟩⟩, ⟨by (with_reducible repeat (first | refine blk_drewN ?_ _ | refine blk_drew ?_ | refine blk_alloc ?_ _)); exact BKb.out⟩, ⟨by repeat (first | (with_reducible first | exact HB.out | apply below_alloc | apply pw_below_drewN | apply below_drew1) | exact HB.out)⟩⟩
        case round =>
          clear HB BKb BKe
          obtain ⟨x, rfl, HXX, BKb, HB⟩ := hrel
          have HX2 := HXX.out
          clear HXX
          rcases HX2 with ⟨rfl, hbk⟩ | ⟨rfl, hbk⟩ | ⟨rfl, hbk⟩ | ⟨rfl, hbk⟩ | ⟨rfl, hbk⟩
          · have BKe := Aside0.mk hbk
            clear hbk
            have hce3 : wr.cell? ⟨ge, 3, none⟩ = some (.int .i64 0) := (blk_cell BKe.out 3).trans rfl
            have hfe3 := blk_frozen BKe.out 3
            go_wp2_with (first
              | (have n_ := HT3.out; clear n_; go_at_call 47; refine (bollardref03_get.calls 600 A0 c0 l0 8 2 ta _ (Kd.C_below HR0.out (by repeat (first | exact HB.out | apply pw_below_drewN | apply below_drew1))) HC0.out HT3.out).mono ?_; rintro e w' ⟨rfl, ⟨nd, rfl⟩⟩; clear HT3))
            go_roundw
            case measure => simp [intOf]
            case rel => exact ⟨1, by first | rfl | simp, ⟨.inr (.inl ⟨rfl, by (with_reducible repeat (first | refine blk_drewN ?_ _ | refine blk_drew ?_ | refine blk_alloc ?_ _)); refine blk_put (cs := (dn tm tl ts 0 0 0 0 tu tv)) ?_ 3 _ rfl; (with_reducible repeat (first | refine blk_drewN ?_ _ | refine blk_drew ?_ | refine blk_alloc ?_ _)); exact BKe.out⟩)⟩, ⟨by (with_reducible repeat (first | refine blk_drewN ?_ _ | refine blk_drew ?_ | refine blk_alloc ?_ _)); refine (Below.heap_setCell _ _ _ gb (Nat.ne_of_lt GG.out)).trans ?_; (with_reducible repeat (first | refine blk_drewN ?_ _ | refine blk_drew ?_ | refine blk_alloc ?_ _)); exact BKb.out⟩, ⟨by repeat (first | (with_reducible first | exact HB.out | apply below_alloc | apply pw_below_drewN | apply below_drew1 | refine below_set ?_ (Nat.le_trans GE.out (Nat.le_of_lt GG.out))) | first | exact HB.out | apply below_alloc | apply pw_below_drewN | apply below_drew1 | refine below_set ?_ (Nat.le_trans GE.out (Nat.le_of_lt GG.out)))⟩⟩
          · have BKe := Aside0.mk hbk
            clear hbk
            have hce4 : wr.cell? ⟨ge, 4, none⟩ = some (.int .i64 0) := (blk_cell BKe.out 4).trans rfl
            have hfe4 := blk_frozen BKe.out 4
            go_wp2_with (first
              | (have n_ := HT4.out; clear n_; go_at_call 47; refine (bollardref03_get.calls 600 A0 c0 l0 10 2 tb _ (Kd.C_below HR0.out (by repeat (first | exact HB.out | apply pw_below_drewN | apply below_drew1))) HC0.out HT4.out).mono ?_; rintro e w' ⟨rfl, ⟨nd, rfl⟩⟩; clear HT4))
            go_roundw
            case measure => simp [intOf]
            case rel => exact ⟨2, by first | rfl | simp, ⟨.inr (.inr (.inl ⟨rfl, by (with_reducible repeat (first | refine blk_drewN ?_ _ | refine blk_drew ?_ | refine blk_alloc ?_ _)); refine blk_put (cs := (dn tm tl ts ta 0 0 0 tu tv)) ?_ 4 _ rfl; (with_reducible repeat (first | refine blk_drewN ?_ _ | refine blk_drew ?_ | refine blk_alloc ?_ _)); exact BKe.out⟩))⟩, ⟨by (with_reducible repeat (first | refine blk_drewN ?_ _ | refine blk_drew ?_ | refine blk_alloc ?_ _)); refine (Below.heap_setCell _ _ _ gb (Nat.ne_of_lt GG.out)).trans ?_; (with_reducible repeat (first | refine blk_drewN ?_ _ | refine blk_drew ?_ | refine blk_alloc ?_ _)); exact BKb.out⟩, ⟨by repeat (first | (with_reducible first | exact HB.out | apply below_alloc | apply pw_below_drewN | apply below_drew1 | refine below_set ?_ (Nat.le_trans GE.out (Nat.le_of_lt GG.out))) | first | exact HB.out | apply below_alloc | apply pw_below_drewN | apply below_drew1 | refine below_set ?_ (Nat.le_trans GE.out (Nat.le_of_lt GG.out)))⟩⟩
          · have BKe := Aside0.mk hbk
            clear hbk
            have hce5 : wr.cell? ⟨ge, 5, none⟩ = some (.int .i64 0) := (blk_cell BKe.out 5).trans rfl
            have hfe5 := blk_frozen BKe.out 5
            go_wp2_with (first
              | (have n_ := HT5.out; clear n_; go_at_call 47; refine (bollardref03_get.calls 600 A0 c0 l0 12 2 tc _ (Kd.C_below HR0.out (by repeat (first | exact HB.out | apply pw_below_drewN | apply below_drew1))) HC0.out HT5.out).mono ?_; rintro e w' ⟨rfl, ⟨nd, rfl⟩⟩; clear HT5))
            go_roundw
            case measure => simp [intOf]
            case rel => exact ⟨3, by first | rfl | simp, ⟨.inr (.inr (.inr (.inl ⟨rfl, by (with_reducible repeat (first | refine blk_drewN ?_ _ | refine blk_drew ?_ | refine blk_alloc ?_ _)); refine blk_put (cs := (dn tm tl ts ta tb 0 0 tu tv)) ?_ 5 _ rfl; (with_reducible repeat (first | refine blk_drewN ?_ _ | refine blk_drew ?_ | refine blk_alloc ?_ _)); exact BKe.out⟩)))⟩, ⟨by (with_reducible repeat (first | refine blk_drewN ?_ _ | refine blk_drew ?_ | refine blk_alloc ?_ _)); refine (Below.heap_setCell _ _ _ gb (Nat.ne_of_lt GG.out)).trans ?_; (with_reducible repeat (first | refine blk_drewN ?_ _ | refine blk_drew ?_ | refine blk_alloc ?_ _)); exact BKb.out⟩, ⟨by repeat (first | (with_reducible first | exact HB.out | apply below_alloc | apply pw_below_drewN | apply below_drew1 | refine below_set ?_ (Nat.le_trans GE.out (Nat.le_of_lt GG.out))) | first | exact HB.out | apply below_alloc | apply pw_below_drewN | apply below_drew1 | refine below_set ?_ (Nat.le_trans GE.out (Nat.le_of_lt GG.out)))⟩⟩
          · have BKe := Aside0.mk hbk
            clear hbk
            have hce6 : wr.cell? ⟨ge, 6, none⟩ = some (.int .i64 0) := (blk_cell BKe.out 6).trans rfl
            have hfe6 := blk_frozen BKe.out 6
            go_wp2_with (first
              | (have n_ := HT6.out; clear n_; go_at_call 47; refine (bollardref03_get.calls 600 A0 c0 l0 14 2 td _ (Kd.C_below HR0.out (by repeat (first | exact HB.out | apply pw_below_drewN | apply below_drew1))) HC0.out HT6.out).mono ?_; rintro e w' ⟨rfl, ⟨nd, rfl⟩⟩; clear HT6))
            go_roundw
            case measure => simp [intOf]
            case rel => exact ⟨4, by first | rfl | simp, ⟨.inr (.inr (.inr (.inr ⟨rfl, by (with_reducible repeat (first | refine blk_drewN ?_ _ | refine blk_drew ?_ | refine blk_alloc ?_ _)); refine blk_put (cs := (dn tm tl ts ta tb tc 0 tu tv)) ?_ 6 _ rfl; (with_reducible repeat (first | refine blk_drewN ?_ _ | refine blk_drew ?_ | refine blk_alloc ?_ _)); exact BKe.out⟩)))⟩, ⟨by (with_reducible repeat (first | refine blk_drewN ?_ _ | refine blk_drew ?_ | refine blk_alloc ?_ _)); refine (Below.heap_setCell _ _ _ gb (Nat.ne_of_lt GG.out)).trans ?_; (with_reducible repeat (first | refine blk_drewN ?_ _ | refine blk_drew ?_ | refine blk_alloc ?_ _)); exact BKb.out⟩, ⟨by repeat (first | (with_reducible first | exact HB.out | apply below_alloc | apply pw_below_drewN | apply below_drew1 | refine below_set ?_ (Nat.le_trans GE.out (Nat.le_of_lt GG.out))) | first | exact HB.out | apply below_alloc | apply pw_below_drewN | apply below_drew1 | refine below_set ?_ (Nat.le_trans GE.out (Nat.le_of_lt GG.out)))⟩⟩
          · have BKe := Aside0.mk hbk
            clear hbk
            obtain ⟨hlen, hz, hse, het, hrd⟩ := HH.out
            clear HH
            by_cases hq : q2 = 0
            · have hqb : (q2 == 0) = true := beq_iff_eq.mpr hq
              have hqc : (q2 != 0) = false := bne_eq_false_iff_eq.mpr hq
              by_cases hs : (strOfNums q1).toList = (strOfNums l0).toList
              · have HD := Aside0.mk (show decD l0 = ((tm, tl, ts, ta, tb, tc, td, tu, tv), 0) by unfold decD; rw [if_pos hlen, if_neg hz, if_pos hse, het, if_pos hq, if_pos hs, hrd])
                have HS := Aside0.mk (show bollardref03_same.f l0 q1 = some true by unfold bollardref03_same.f; rw [hs]; simp)
                clear hlen hz hse hrd het hq hs
                go_wp2_with (first
                  | ((with_reducible refine gate_dst (N := 44) rfl ?_); refine Gw.load_event rfl 59 (.tmp 4) rfl ge (dn tm tl ts ta tb tc td tu tv) 59 _ rfl (by (with_reducible repeat (first | refine blk_drewN ?_ _ | refine blk_drew ?_ | refine blk_alloc ?_ _)); exact BKe.out) hu59 rfl (by kernel_rfl) ?_)
                  | (go_at_call 33; refine (REncodeDinode_call tm tl ts ta tb tc td tu tv _).mono ?_; rintro e w11 ⟨v0, he, hr, hb⟩; rw [HX.out] at he hr; subst he; have HR7 := Aside0.mk hr; have n0_ := Aside0.mk (blk_below (w1 := w11) (g := ge) (o := .cells (dn tm tl ts ta tb tc td tu tv) 59 (0, 0)) (by (with_reducible repeat (first | refine blk_drewN ?_ _ | refine blk_drew ?_ | refine blk_alloc ?_ _)); exact BKe.out) hb); clear BKe; have BKe := n0_; clear n0_; have n0_ := Aside0.mk (blk_below (w1 := w11) (g := gb) (o := .cells (dn 0 0 0 0 0 0 0 0 0) 59 (0, 0)) (by (with_reducible repeat (first | refine blk_drewN ?_ _ | refine blk_drew ?_ | refine blk_alloc ?_ _)); exact BKb.out) hb); clear BKb; have BKb := n0_; clear n0_; have n0_ := Aside0.mk (below_step (w2 := w11) (by repeat (first | (with_reducible first | exact HB.out | apply below_alloc | apply pw_below_drewN | apply below_drew1) | exact HB.out)) hb); clear HB; have HB := n0_; clear n0_; clear hr hb; obtain ⟨A7, c7, e7⟩ := Kd.R_slice HR7.out; subst e7)
                  | (go_at_call 39; refine (bollardref03_same.calls A0 c0 l0 A7 c7 q1 true _ (by repeat (first | exact Kd.C_below HR0.out HB.out | refine Kd.C_drewN ?_ _ | refine Kd.C_drew ?_)) HC0.out (by repeat (first | exact (Kd.R_reads' HR7.out).2.2 | refine Kd.C_drewN ?_ _ | refine Kd.C_drew ?_)) (Kd.R_reads' HR7.out).2.1 HS.out).mono ?_; rintro e w12 ⟨rfl, m9, rfl⟩)
                  | ((with_reducible refine gate_dst (N := 57) rfl ?_); refine Gw.load_event rfl 59 (.tmp 4) rfl ge (dn tm tl ts ta tb tc td tu tv) 59 _ rfl (by (with_reducible repeat (first | refine blk_drewN ?_ _ | refine blk_drew ?_ | refine blk_alloc ?_ _)); exact BKe.out) hu59 rfl (by kernel_rfl) ?_)
                  | ((with_reducible refine gate_st (x := .tmp 2) (y := .tmp 57) rfl ?_); refine Gw.store_event rfl 59 (.tmp 2) (.tmp 57) rfl gb (dn 0 0 0 0 0 0 0 0 0) (dn tm tl ts ta tb tc td tu tv) 59 rfl rfl (by (with_reducible repeat (first | refine blk_drewN ?_ _ | refine blk_drew ?_ | refine blk_alloc ?_ _)); exact BKb.out) rfl (by kernel_rfl) (by kernel_rfl) ?_; intro wz hb1 hb2 hb3; have n0_ := Aside0.mk (hb3 w.heap.size w GE.out (by repeat (first | (with_reducible first | exact HB.out | apply below_alloc | apply pw_below_drewN | apply below_drew1) | exact HB.out))); have BKz := Aside0.mk hb1; clear HB; have HB := n0_; clear n0_ hb1 hb2 hb3))
                refine bodyPost_ret (results_ct rfl _ _ gb 59 (dn tm tl ts ta tb tc td tu tv) (0, 0) _ rfl (by (with_reducible repeat (first | refine blk_drewN ?_ _ | refine blk_drew ?_ | refine blk_alloc ?_ _)); exact BKz.out) hu59 rfl (by kernel_rfl)) rfl ?_
                exact ⟨by rw [HD.out]; rfl, by repeat (first | exact HB.out | apply pw_below_drewN | apply below_drew1)⟩
              · have HD := Aside0.mk (show decD l0 = ((0, 0, 0, 0, 0, 0, 0, 0, 0), 6) by unfold decD; rw [if_pos hlen, if_neg hz, if_pos hse, het, if_pos hq, if_neg hs])
                have HS := Aside0.mk (show bollardref03_same.f l0 q1 = some false by unfold bollardref03_same.f; rw [beq_eq_false_iff_ne.mpr (fun h => hs h.symm)])
                clear hlen hz hse hrd het hq hs
                go_wp2_with (first
                  | ((with_reducible refine gate_dst (N := 44) rfl ?_); refine Gw.load_event rfl 59 (.tmp 4) rfl ge (dn tm tl ts ta tb tc td tu tv) 59 _ rfl (by (with_reducible repeat (first | refine blk_drewN ?_ _ | refine blk_drew ?_ | refine blk_alloc ?_ _)); exact BKe.out) hu59 rfl (by kernel_rfl) ?_)
                  | (go_at_call 33; refine (REncodeDinode_call tm tl ts ta tb tc td tu tv _).mono ?_; rintro e w11 ⟨v0, he, hr, hb⟩; rw [HX.out] at he hr; subst he; have HR7 := Aside0.mk hr; have n0_ := Aside0.mk (blk_below (w1 := w11) (g := ge) (o := .cells (dn tm tl ts ta tb tc td tu tv) 59 (0, 0)) (by (with_reducible repeat (first | refine blk_drewN ?_ _ | refine blk_drew ?_ | refine blk_alloc ?_ _)); exact BKe.out) hb); clear BKe; have BKe := n0_; clear n0_; have n0_ := Aside0.mk (blk_below (w1 := w11) (g := gb) (o := .cells (dn 0 0 0 0 0 0 0 0 0) 59 (0, 0)) (by (with_reducible repeat (first | refine blk_drewN ?_ _ | refine blk_drew ?_ | refine blk_alloc ?_ _)); exact BKb.out) hb); clear BKb; have BKb := n0_; clear n0_; have n0_ := Aside0.mk (below_step (w2 := w11) (by repeat (first | (with_reducible first | exact HB.out | apply below_alloc | apply pw_below_drewN | apply below_drew1) | exact HB.out)) hb); clear HB; have HB := n0_; clear n0_; clear hr hb; obtain ⟨A7, c7, e7⟩ := Kd.R_slice HR7.out; subst e7)
                  | (go_at_call 39; refine (bollardref03_same.calls A0 c0 l0 A7 c7 q1 false _ (by repeat (first | exact Kd.C_below HR0.out HB.out | refine Kd.C_drewN ?_ _ | refine Kd.C_drew ?_)) HC0.out (by repeat (first | exact (Kd.R_reads' HR7.out).2.2 | refine Kd.C_drewN ?_ _ | refine Kd.C_drew ?_)) (Kd.R_reads' HR7.out).2.1 HS.out).mono ?_; rintro e w12 ⟨rfl, m9, rfl⟩)
                  | ((with_reducible refine gate_st (x := .tmp 2) (y := .tmp 56) rfl ?_); refine Gw.store_event rfl 59 (.tmp 2) (.tmp 56) rfl gb (dn 0 0 0 0 0 0 0 0 0) (dn 0 0 0 0 0 0 0 0 0) 59 rfl rfl (by (with_reducible repeat (first | refine blk_drewN ?_ _ | refine blk_drew ?_ | refine blk_alloc ?_ _)); exact BKb.out) rfl (by kernel_rfl) (by kernel_rfl) ?_; intro wz hb1 hb2 hb3; have n0_ := Aside0.mk (hb3 w.heap.size w GE.out (by repeat (first | (with_reducible first | exact HB.out | apply below_alloc | apply pw_below_drewN | apply below_drew1) | exact HB.out))); have BKz := Aside0.mk hb1; clear HB; have HB := n0_; clear n0_ hb1 hb2 hb3))
                refine bodyPost_ret (results_ct rfl _ _ gb 59 (dn 0 0 0 0 0 0 0 0 0) (0, 0) _ rfl (by (with_reducible repeat (first | refine blk_drewN ?_ _ | refine blk_drew ?_ | refine blk_alloc ?_ _)); exact BKz.out) hu59 rfl (by kernel_rfl)) rfl ?_
                exact ⟨by rw [HD.out]; rfl, by repeat (first | exact HB.out | apply pw_below_drewN | apply below_drew1)⟩
            · have hqb : (q2 == 0) = false := beq_eq_false_iff_ne.mpr hq
              have hqc : (q2 != 0) = true := bne_iff_ne.mpr hq
              have HD := Aside0.mk (show decD l0 = ((0, 0, 0, 0, 0, 0, 0, 0, 0), 6) by unfold decD; rw [if_pos hlen, if_neg hz, if_pos hse, het, if_neg hq])
              clear hlen hz hse hrd het hq
              go_wp2_with (first
                | ((with_reducible refine gate_dst (N := 44) rfl ?_); refine Gw.load_event rfl 59 (.tmp 4) rfl ge (dn tm tl ts ta tb tc td tu tv) 59 _ rfl (by (with_reducible repeat (first | refine blk_drewN ?_ _ | refine blk_drew ?_ | refine blk_alloc ?_ _)); exact BKe.out) hu59 rfl (by kernel_rfl) ?_)
                | (go_at_call 33; refine (REncodeDinode_call tm tl ts ta tb tc td tu tv _).mono ?_; rintro e w11 ⟨v0, he, hr, hb⟩; rw [HX.out] at he hr; subst he; have HR7 := Aside0.mk hr; have n0_ := Aside0.mk (blk_below (w1 := w11) (g := ge) (o := .cells (dn tm tl ts ta tb tc td tu tv) 59 (0, 0)) (by (with_reducible repeat (first | refine blk_drewN ?_ _ | refine blk_drew ?_ | refine blk_alloc ?_ _)); exact BKe.out) hb); clear BKe; have BKe := n0_; clear n0_; have n0_ := Aside0.mk (blk_below (w1 := w11) (g := gb) (o := .cells (dn 0 0 0 0 0 0 0 0 0) 59 (0, 0)) (by (with_reducible repeat (first | refine blk_drewN ?_ _ | refine blk_drew ?_ | refine blk_alloc ?_ _)); exact BKb.out) hb); clear BKb; have BKb := n0_; clear n0_; have n0_ := Aside0.mk (below_step (w2 := w11) (by repeat (first | (with_reducible first | exact HB.out | apply below_alloc | apply pw_below_drewN | apply below_drew1) | exact HB.out)) hb); clear HB; have HB := n0_; clear n0_; clear hr hb; obtain ⟨A7, c7, e7⟩ := Kd.R_slice HR7.out; subst e7)
                | ((with_reducible refine gate_st (x := .tmp 2) (y := .tmp 56) rfl ?_); refine Gw.store_event rfl 59 (.tmp 2) (.tmp 56) rfl gb (dn 0 0 0 0 0 0 0 0 0) (dn 0 0 0 0 0 0 0 0 0) 59 rfl rfl (by (with_reducible repeat (first | refine blk_drewN ?_ _ | refine blk_drew ?_ | refine blk_alloc ?_ _)); exact BKb.out) rfl (by kernel_rfl) (by kernel_rfl) ?_; intro wz hb1 hb2 hb3; have n0_ := Aside0.mk (hb3 w.heap.size w GE.out (by repeat (first | (with_reducible first | exact HB.out | apply below_alloc | apply pw_below_drewN | apply below_drew1) | exact HB.out))); have BKz := Aside0.mk hb1; clear HB; have HB := n0_; clear n0_ hb1 hb2 hb3))
              refine bodyPost_ret (results_ct rfl _ _ gb 59 (dn 0 0 0 0 0 0 0 0 0) (0, 0) _ rfl (by (with_reducible repeat (first | refine blk_drewN ?_ _ | refine blk_drew ?_ | refine blk_alloc ?_ _)); exact BKz.out) hu59 rfl (by kernel_rfl)) rfl ?_
              exact ⟨by rw [HD.out]; rfl, by repeat (first | exact HB.out | apply pw_below_drewN | apply below_drew1)⟩
      · have HSE := Aside0.mk ((rsealed_f l0 (u8_wf HWF.out) (by have := HLEN.out; omega) 600 (by have := HLEN.out; omega)).trans (by rw [Bool.eq_false_iff.mpr hse]))
        have HD := Aside0.mk (show decD l0 = ((0, 0, 0, 0, 0, 0, 0, 0, 0), 30) by unfold decD; rw [if_pos hlen, if_neg hz, if_neg hse])
        clear hlen hz hse
        go_enter Try.func35, Try.ntmps35
        go_wp2_with (first
          | ((with_reducible refine gate_dst (N := 2) rfl ?_); refine box_event ?hg (N := 2) ?hd (cs := (dn 0 0 0 0 0 0 0 0 0)) (t := 59) ?hr ?_; (case hd => rfl); (case hg => rfl); (case hr => first | (go_simp; done) | (go_simp; rfl) | kernel_rfl); intro gb hg w1 hbox hb; have n0_ := Aside0.mk (below_step (w2 := w1) (by repeat (first | (with_reducible first | exact HB.out | apply below_alloc | apply pw_below_drewN | apply below_drew1) | exact HB.out)) hb); have BKb := Aside0.mk hbox; have GE := Aside0.mk (show w.heap.size ≤ gb by rw [hg]; exact Nat.le_refl _); clear HB; have HB := n0_; clear n0_ hb hbox hg)
          | ((with_reducible refine gate_dst (N := 13) rfl ?_); refine Kd.R_make (Kd.int .u8) _ 5 rfl (N := 13) rfl 26 _ _ rfl 32 rfl rfl Try.underlying26 (.int .u8 0) 1 Gw.infou8 rfl (by decide) (by omega) 0 (ok := fun _ => True) (okp := fun _ => True) rfl (fun _ hk => hk) trivial (by omega) (by omega) (Below.refl _ _) (Nat.le_refl _) ?_; intro v3 w3 ho hb hg_ hnew_; clear hg_ hnew_; have HO := Aside0.mk (show Kd.R (Kd.int .u8) 5 w3 w.heap.size (fun _ => True) v3 P0 from Kd.R_lower ho (below_size (by repeat (first | (with_reducible first | exact HB.out | apply below_alloc | apply pw_below_drewN | apply below_drew1) | exact HB.out)))); have n0_ := Aside0.mk (blk_below (w1 := w3) (g := gb) (o := .cells (dn 0 0 0 0 0 0 0 0 0) 59 (0, 0)) (by (with_reducible repeat (first | refine blk_drewN ?_ _ | refine blk_drew ?_ | refine blk_alloc ?_ _)); exact BKb.out) hb); clear BKb; have BKb := n0_; clear n0_; have n0_ := Aside0.mk (below_step (w2 := w3) (by repeat (first | (with_reducible first | exact HB.out | apply below_alloc | apply pw_below_drewN | apply below_drew1) | exact HB.out)) hb); clear HB; have HB := n0_; clear n0_; clear hb ho; obtain ⟨Az, cz, ez⟩ := Kd.R_slice HO.out; subst ez)
          | (have n_ := HZ.out; clear n_; go_at_call 39; refine (bollardref03_same.calls A0 c0 l0 Az cz P0 false _ (Kd.C_below HR0.out (by repeat (first | exact HB.out | apply pw_below_drewN | apply below_drew1))) HC0.out (by repeat (first | exact (Kd.R_reads' HO.out).2.2 | refine Kd.C_drewN ?_ _ | refine Kd.C_drew ?_)) (Kd.R_reads' HO.out).2.1 HZ.out).mono ?_; rintro e w' ⟨rfl, ⟨nd, rfl⟩⟩; clear HZ)
          | (go_at_call 56; refine (bollardref01_Sealed.calls 600 A0 c0 l0 false _ (Kd.C_below HR0.out (by repeat (first | exact HB.out | apply pw_below_drewN | apply below_drew1))) HC0.out HSE.out).mono ?_; rintro e w' ⟨rfl, ⟨nd, rfl⟩⟩; clear HSE)
          | ((with_reducible refine gate_st (x := .tmp 2) (y := .tmp 19) rfl ?_); refine Gw.store_event rfl 59 (.tmp 2) (.tmp 19) rfl gb (dn 0 0 0 0 0 0 0 0 0) (dn 0 0 0 0 0 0 0 0 0) 59 rfl rfl (by (with_reducible repeat (first | refine blk_drewN ?_ _ | refine blk_drew ?_ | refine blk_alloc ?_ _)); exact BKb.out) rfl (by kernel_rfl) (by kernel_rfl) ?_; intro wz hb1 hb2 hb3; have n0_ := Aside0.mk (hb3 w.heap.size w GE.out (by repeat (first | (with_reducible first | exact HB.out | apply below_alloc | apply pw_below_drewN | apply below_drew1) | exact HB.out))); have BKz := Aside0.mk hb1; clear HB; have HB := n0_; clear n0_ hb1 hb2 hb3))
        refine bodyPost_ret (results_ct rfl _ _ gb 59 (dn 0 0 0 0 0 0 0 0 0) (0, 0) _ rfl (by (with_reducible repeat (first | refine blk_drewN ?_ _ | refine blk_drew ?_ | refine blk_alloc ?_ _)); exact BKz.out) hu59 rfl (by kernel_rfl)) rfl ?_
        exact ⟨by rw [HD.out]; rfl, by repeat (first | exact HB.out | apply pw_below_drewN | apply below_drew1)⟩
  · have HD := Aside0.mk (show decD l0 = ((0, 0, 0, 0, 0, 0, 0, 0, 0), 6) by unfold decD; rw [if_neg hlen])
    have hb0 : ((l0.length : Int) == 32) = false := beq_eq_false_iff_ne.mpr hlen
    have hb1 : ((l0.length : Int) != 32) = true := bne_iff_ne.mpr hlen
    clear hlen
    go_enter Try.func35, Try.ntmps35
    go_wp2_with (first
      | ((with_reducible refine gate_dst (N := 2) rfl ?_); refine box_event ?hg (N := 2) ?hd (cs := (dn 0 0 0 0 0 0 0 0 0)) (t := 59) ?hr ?_; (case hd => rfl); (case hg => rfl); (case hr => first | (go_simp; done) | (go_simp; rfl) | kernel_rfl); intro gb hg w1 hbox hb; have n0_ := Aside0.mk (below_step (w2 := w1) (by repeat (first | (with_reducible first | exact HB.out | apply below_alloc | apply pw_below_drewN | apply below_drew1) | exact HB.out)) hb); have BKb := Aside0.mk hbox; have GE := Aside0.mk (show w.heap.size ≤ gb by rw [hg]; exact Nat.le_refl _); clear HB; have HB := n0_; clear n0_ hb hbox hg)
      | ((with_reducible refine gate_st (x := .tmp 2) (y := .tmp 11) rfl ?_); refine Gw.store_event rfl 59 (.tmp 2) (.tmp 11) rfl gb (dn 0 0 0 0 0 0 0 0 0) (dn 0 0 0 0 0 0 0 0 0) 59 rfl rfl (by (with_reducible repeat (first | refine blk_drewN ?_ _ | refine blk_drew ?_ | refine blk_alloc ?_ _)); exact BKb.out) rfl (by kernel_rfl) (by kernel_rfl) ?_; intro wz hb1 hb2 hb3; have n0_ := Aside0.mk (hb3 w.heap.size w GE.out (by repeat (first | (with_reducible first | exact HB.out | apply below_alloc | apply pw_below_drewN | apply below_drew1) | exact HB.out))); have BKz := Aside0.mk hb1; clear HB; have HB := n0_; clear n0_ hb1 hb2 hb3))
    refine bodyPost_ret (results_ct rfl _ _ gb 59 (dn 0 0 0 0 0 0 0 0 0) (0, 0) _ rfl (by (with_reducible repeat (first | refine blk_drewN ?_ _ | refine blk_drew ?_ | refine blk_alloc ?_ _)); exact BKz.out) hu59 rfl (by kernel_rfl)) rfl ?_
    exact ⟨by rw [HD.out]; rfl, by repeat (first | exact HB.out | apply pw_below_drewN | apply below_drew1)⟩
end Go.Proofs.Ytdaeanodgnmknaa.Di
