/- Written by a program of this session. the law PatchWhole. -/
import Derived.BigQuiet
import Derived.Deep.QuietTactic
import Derived.Test.YtijgfcpffjjlfaaRa
namespace Go.Proofs.Ytijgfcpffjjlfaa.Pq
open Go Go.RowKit Go.Shelf Go.Proofs Go.Maps Go.Sort Go.Proofs.Ytijgfcpffjjlfaa.XFb Go.Proofs.YtijgfcpffjjlfaaW.PrintWords Go.Proofs.YtijgfcpffjjlfaaW.PrintLast Go.Proofs.YtijgfcpffjjlfaaW.PrintMore
set_option linter.unusedVariables false
set_option linter.unusedSimpArgs false
theorem getD_in (xs : List Int) (j : Nat) (h : j < xs.length) : xs.getD j 0 ∈ xs := by
  rw [List.getD_eq_getElem?_getD, List.getElem?_eq_getElem h, Option.getD_some]
  exact List.getElem_mem _
set_option maxRecDepth 100000 in
set_option maxHeartbeats 8000000 in
theorem PatchWhole_walk (A : Option Addr) (c : Nat) (l : List DoT) (w : World) (hC : Kd.C kDo w A l.length l) (hl : l.length ≤ 1000000000000000) (hx : ∀ x ∈ l, x.2.2.2.1.length < 140737488355328 ∧ x.2.2.2.2.length ≤ 17592186043904) :
    Calls Try.prog 5 #[.slice A l.length c] w fun e w' => e = .returned (.bool true) ∧ Below w.heap.size w w' := by
  have hmk : ∀ W : World, (Instr.makeSlice 26 (.int .i64 128) (.int .i64 128)).run Try.prog W = .ok (.slice (some ⟨W.heap.size, 0, none⟩) 128 128) (W.alloc (.cells (madeCells #[.int .u8 0] 128) 5)) := fun W => print_make 26 5 .u8 1 Try.underlying26 infou8 (by decide) 128 (by decide) W
  have HC := Aside0.mk hC
  have HXX := Aside0.mk hx
  have hlm : 0 ≤ (madeS l).2 ∧ (madeS l).2 ≤ 41 := by
    unfold madeS
    rw [made_last _ _ (Int.le_refl _), List.length_take]
    simp only
    omega
  have HALL := Aside0.mk (made_all l)
  clear hC hx
  refine (callsIn_wide (n := 1)).1 ?_
  refine callsIn_of_wp Try.func5 rfl trivial ?_ rfl
  simp only [Try.ntmps5, List.size_toArray, List.length_cons, List.length_nil, Nat.reduceAdd, Nat.reduceSub, Array.replicate_succ, Array.replicate_zero, List.push_toArray, List.append_toArray, List.nil_append, List.cons_append]
  gi_wp2_with (first
    | (refine ⟨trivial, ?_⟩; gi_at_call 10; refine (callsIn_wide.2 (made_ok A c l w HC.out hl HXX.out)).mono ?_; rintro e W1 ⟨g, m, d, S, rfl, hs, hb⟩; have HS1 := Aside0.mk hs.tight; have HB1 := Aside0.mk hb; have hb1s := hb.size; clear hs hb)
    | (refine ⟨trivial, ?_⟩; gi_at_call 15; refine (callsIn_wide.2 (blocks_ok HS1.out (by omega))).mono ?_; rintro e W2 ⟨v2, rfl, hr, hb⟩; obtain ⟨A2, c2, rfl⟩ := Kd.R_slice hr; have HR2 := Aside0.mk hr; have HS2 := Aside0.mk (HS1.out.below hb); have HB2 := Aside0.mk (below_step HB1.out hb hb1s); clear hr hb))
  generalize (madeS l).1 = L at *
  generalize (madeS l).2 = last at *
  have hfi := Aside0.mk HS2.out.fits
  have hli : (ids L).length ≤ 41 := by have := HS2.out.len_le; omega
  have hbl : (blksL L).length ≤ 41 := by
    have h1 := (sc_length (L.map Pt.blk))
    unfold blksL
    rw [List.length_map] at h1
    unfold ids at hli
    rw [List.length_map] at hli
    omega
  generalize blksL L = bs at *
  have hz2 := HB2.out.size
  clear HS1 HB1 hb1s HC HXX
  gi_loopw [22] (fun v22 wr => ∃ (i : Nat), v22 = .int .i64 (i : Int) ∧ i ≤ bs.length ∧ Aside0 (Below W2.heap.size W2 wr)) (fun v22 _ => bs.length - (intOf v22).toNat)
  case atStart => exact ⟨0, rfl, Nat.zero_le _, ⟨Below.refl _ _⟩⟩
  case round =>
    obtain ⟨i, rfl, hi, HB⟩ := hrel
    have HSR := Aside0.mk (HS2.out.below HB.out)
    have hzr := HB.out.size
    by_cases hib : i < bs.length
    · have t1 : decide ((i : Int) < (bs.length : Int)) = true := decide_eq_true (by omega)
      obtain ⟨ad, hAd, k0⟩ := at_n (Kd.R_reads' (Kd.R_below HR2.out HB.out)).2.2 i hib
      subst hAd
      generalize bs.getD i 0 = b at k0
      obtain ⟨DZ, hDZ⟩ : ∃ DZ : List Int, List.replicate 128 0 = DZ := ⟨_, rfl⟩
      have hdl : DZ.length = 128 := by rw [← hDZ, List.length_replicate]
      have hbk : Below wr.heap.size wr (wr.alloc (.cells (madeCells #[.int .u8 0] 128) 5)) := below_alloc (Below.refl _ _) _
      have hrz : RB (wr.alloc (.cells (madeCells #[.int .u8 0] 128) 5)) wr.heap.size (fun _ => True) (.slice (some ⟨wr.heap.size, 0, none⟩) DZ.length 128) DZ := by
        have h1 := own_made wr wr.heap.size 5 .u8 128 (Nat.le_refl _) (by decide)
        rw [hdl, ← hDZ]
        exact Kd.R_of_own (by rw [List.length_replicate]; exact h1) (fun _ _ => trivial)
      have hpl := plan_ok (HSR.out.below hbk) (by omega) b (some ⟨wr.heap.size, 0, none⟩) 128 DZ (Kd.R_reads' hrz).2.2 (by rw [hdl]; exact Nat.le_refl _)
      have hps := planE_or L b hdl
      rw [hdl] at hpl
      have hpi : ∀ x ∈ planI L b DZ, x ∈ freeL L b := fun x hx => by
        unfold planI at hx
        split at hx
        · exact hx
        · cases hx
      have hpn : planE L b DZ ≠ 0 → planI L b DZ = [] := fun hh => by unfold planI; rw [if_neg hh]
      have hpl2 : planE L b DZ = 0 → planI L b DZ = freeL L b := fun hh => by unfold planI; rw [if_pos hh]
      clear hDZ hrz hdl
      generalize planE L b DZ = pe at *
      generalize planI L b DZ = pi at *
      have HPL := Aside0.mk hpl
      have HBK := Aside0.mk hbk
      clear hpl hbk
      rcases hps with hpe | hpe
      · subst hpe
        have hpi2 := hpl2 rfl
        subst hpi2
        have hfl := freeL_len L b
        clear hpn hpl2 hpi
        have HFW := Aside0.mk (free_wf (b := b) hfi.out)
        gi_wp2_with (first
          | (refine ⟨trivial, ?_⟩; gi_at_call 16; refine (callsIn_wide.2 (HPL.out)).mono ?_; rintro e W5 ⟨v1, v3, rfl, hrb, hri, hb⟩; obtain ⟨A8, k8, rfl⟩ := Kd.R_slice hrb; obtain ⟨A7, c7, rfl⟩ := Kd.R_slice hri; have hb6 := below_step HBK.out hb HBK.out.size; have HB5 := Aside0.mk (below_step HB.out hb6 hzr); have HS5 := Aside0.mk (HSR.out.below hb6); have HR5 := Aside0.mk hri; clear hrb hri hb hb6))
        gi_loopw [42] (fun v42 wq => ∃ (j : Nat), v42 = .int .i64 (j : Int) ∧ j ≤ (freeL L b).length ∧ Aside0 (Below W5.heap.size W5 wq)) (fun v42 _ => (freeL L b).length - (intOf v42).toNat)
        case atStart => exact ⟨0, rfl, Nat.zero_le _, ⟨Below.refl _ _⟩⟩
        case round =>
          obtain ⟨j, rfl, hj, HQ⟩ := hrel
          rename World => wq
          have hz5 := HB5.out.size
          by_cases hjb : j < (freeL L b).length
          · have t2 : decide ((j : Int) < ((freeL L b).length : Int)) = true := decide_eq_true (by omega)
            obtain ⟨ad7, hAd7, k7⟩ := at_n (Kd.R_reads' (Kd.R_below HR5.out HQ.out)).2.2 j hjb
            subst hAd7
            have hx := getD_in (freeL L b) j hjb
            generalize (freeL L b).getD j 0 = x at k7 hx
            obtain ⟨hxi, hpb, hpn⟩ := free_whole hfi.out hx
            have hpl8 : (pen L (get L x).nd).length ≤ 41 := Nat.le_trans (List.length_filter_le _ _) hli
            have hxm := ids_mem hfi.out hxi
            have hgo := get_ok (HS5.out.below HQ.out) (by omega) x (WalkArith.wf_i64 (by omega))
            unfold GetIs at hgo
            have hge : getE L x = 0 := by unfold getE; rw [if_pos hxi]
            generalize get L x = p at *
            rw [hge, hpb] at hgo
            have HGO := Aside0.mk hgo
            have HPN := Aside0.mk hpn
            clear hgo hpn hge hxm hx
            gi_wp2_with (first
              | (refine ⟨trivial, ?_⟩; gi_at_call 21; refine (callsIn_wide.2 (HGO.out)).mono ?_; rintro e W6 ⟨A5, k5, B5, j5, rfl, hrb, hri, hb⟩; have hb6 := below_step hb (below_alloc (Below.refl W6.heap.size W6) (.cells #[.int .i64 p.id, .int .i64 b, .int .i64 p.off, .slice A5 p.by_.length k5, .slice B5 (pen L p.nd).length j5] 44)) hb.size; have HB6 := Aside0.mk (below_step HQ.out hb6 HQ.out.size); have HR6 := Aside0.mk (Kd.R_below hri (below_alloc (Below.refl W6.heap.size W6) (.cells #[.int .i64 p.id, .int .i64 b, .int .i64 p.off, .slice A5 p.by_.length k5, .slice B5 (pen L p.nd).length j5] 44))); clear hrb hri hb hb6))
            gi_loopw [63] (fun v63 wy => ∃ (q : Nat), v63 = .int .i64 (q : Int) ∧ q ≤ (pen L p.nd).length ∧ Aside0 (Below (W6.alloc (.cells #[.int .i64 p.id, .int .i64 b, .int .i64 p.off, .slice A5 p.by_.length k5, .slice B5 (pen L p.nd).length j5] 44)).heap.size (W6.alloc (.cells #[.int .i64 p.id, .int .i64 b, .int .i64 p.off, .slice A5 p.by_.length k5, .slice B5 (pen L p.nd).length j5] 44)) wy)) (fun v63 _ => (pen L p.nd).length - (intOf v63).toNat)
            case atStart => exact ⟨0, rfl, Nat.zero_le _, ⟨Below.refl _ _⟩⟩
            case round =>
              obtain ⟨q, rfl, hq, HY⟩ := hrel
              rename World => wy
              have hz6 := HB6.out.size
              have HB7 := Aside0.mk (below_step HB6.out HY.out hz6)
              by_cases hqb : q < (pen L p.nd).length
              · have t3 : decide ((q : Int) < ((pen L p.nd).length : Int)) = true := decide_eq_true (by omega)
                obtain ⟨adn, hAdn, kn⟩ := at_n (Kd.R_reads' (Kd.R_below HR6.out HY.out)).2.2 q hqb
                subst hAdn
                have hnn := HPN.out _ (getD_in (pen L p.nd) q hqb)
                generalize (pen L p.nd).getD q 0 = nn at kn hnn
                have t4 : decide (x ≤ nn) = false := decide_eq_false (by omega)
                have hcf := contains_f (freeL L b) nn (by omega)
                rw [decide_eq_true hnn.2] at hcf
                have HCF := Aside0.mk hcf
                have HR7 := Aside0.mk (Kd.R_below HR5.out HB7.out)
                clear hcf hnn
                gi_wp2_with (first
                  | (refine ⟨trivial, ?_⟩; gi_at_call 22; refine (callsIn_wide.2 (slices_Contains_int_int.calls _ (some ad7) c7 (freeL L b) nn true _ (Kd.R_reads' HR7.out).2.2 (Kd.R_reads' HR7.out).2.1 HCF.out)).mono ?_; rintro e W8 ⟨rfl, hd⟩; have HY8 := Aside0.mk (below_step HY.out hd.below HY.out.size); clear hd))
                exact ⟨⟨q + 1, by simp, by omega, HY8⟩, by simp [intOf]; omega⟩
              · have t3 : decide ((q : Int) < ((pen L p.nd).length : Int)) = false := decide_eq_false (by omega)
                gi_wp2
                exact ⟨⟨j + 1, by simp, by omega, HB7⟩, by simp [intOf]; omega⟩
          · have t2 : decide ((j : Int) < ((freeL L b).length : Int)) = false := decide_eq_false (by omega)
            gi_wp2
            exact ⟨⟨i + 1, by simp, by omega, ⟨below_step HB5.out HQ.out hz5⟩⟩, by simp [intOf]; omega⟩
      · subst hpe
        have hpi2 := hpn (by decide)
        subst hpi2
        clear hpn hpl2 hpi
        gi_wp2_with (first
          | (refine ⟨trivial, ?_⟩; gi_at_call 16; refine (callsIn_wide.2 (HPL.out)).mono ?_; rintro e W5 ⟨v1, v3, rfl, hrb, hri, hb⟩; obtain ⟨A8, k8, rfl⟩ := Kd.R_slice hrb; obtain ⟨A7, c7, rfl⟩ := Kd.R_slice hri; have hb6 := below_step HBK.out hb HBK.out.size; have HB5 := Aside0.mk (below_step HB.out hb6 hzr); have HS5 := Aside0.mk (HSR.out.below hb6); have HR5 := Aside0.mk hri; clear hrb hri hb hb6))
        gi_loopw [42] (fun v42 wq => v42 = .int .i64 0 ∧ wq = W5) (fun v42 _ => 0)
        case atStart => exact ⟨rfl, rfl⟩
        case round =>
          obtain ⟨rfl, hwq⟩ := hrel
          rw [hwq]; clear hwq
          gi_wp2
          exact ⟨⟨i + 1, by simp, by omega, HB5⟩, by simp [intOf]; omega⟩
    · have t1 : decide ((i : Int) < (bs.length : Int)) = false := decide_eq_false (by omega)
      have HB2R := Aside0.mk (below_step HB2.out HB.out hz2)
      have hzw := HB2R.out.size
      clear HB HR2
      gi_wp2
      gi_loopw [15] (fun v15 wq => ∃ (j : Int), v15 = .int .i64 j ∧ 1 ≤ j ∧ j ≤ last + 1 ∧ Aside0 (Below wr.heap.size wr wq)) (fun v15 _ => (last + 1 - intOf v15).toNat)
      case atStart => exact ⟨1, rfl, Int.le_refl _, by omega, ⟨Below.refl _ _⟩⟩
      case round =>
        obtain ⟨j, rfl, hj1, hjl, HQ⟩ := hrel
        rename World => wq
        have HSQ := Aside0.mk (HSR.out.below HQ.out)
        have hzq := HQ.out.size
        by_cases hjb : j ≤ last
        · have t2 : decide (j ≤ last) = true := decide_eq_true hjb
          have hji := HALL.out j hj1 hjb
          have hw1 : wrap64 (j + 1) = j + 1 := by unfold wrap64; omega
          have hbl : Below wq.heap.size wq (wq.alloc (.cells #[.int .i64 j] 3)) := below_alloc (Below.refl _ _) _
          have hcl := closure_ok (HSQ.out.below hbl) (by omega) (some ⟨wq.heap.size, 0, none⟩) 1 [j] (lit_row wq .i64 3 j) (fun y hy => by rw [List.mem_singleton.1 hy]; exact WalkArith.wf_i64 (by omega)) (by simp)
          have HCL := Aside0.mk hcl
          have HBL := Aside0.mk (below_step HQ.out hbl hzq)
          have HJI := Aside0.mk hji
          clear hcl hbl hji
          gi_wp2_with (first
            | (refine ⟨trivial, ?_⟩; gi_at_call 11; refine (callsIn_wide.2 (last_ok HSQ.out)).mono ?_; rintro e w1 ⟨rfl, hw⟩; rw [hw]; clear hw)
            | (refine ⟨trivial, ?_⟩; gi_at_call 24; refine (callsIn_wide.2 (HCL.out)).mono ?_; rintro e W5 ⟨v5, r, rfl, hr, hrs, hrm, hb⟩; obtain ⟨A5, c5, rfl⟩ := Kd.R_slice hr; have hrl := rises_last hrs ((hrm j).2 (reach_self HJI.out)) (fun i hi => reach_le hfi.out ((hrm i).1 hi)); have hrn := nodup_len r (ids L) hrs.nodup (fun i hi => ((hrm i).1 hi).mem); obtain ⟨q, hrq, hrj⟩ := hrl; have hif := issorted_f hrs (by omega); obtain ⟨ad5, hAd5, k5⟩ := at_n (Kd.R_reads' hr).2.2 q (by omega); subst hAd5; rw [hrj] at k5; have HR5 := Aside0.mk hr; have HB5 := Aside0.mk (below_step HBL.out hb HBL.out.size); have hso := XIs.slices_IsSorted_int_int.calls _ (some ad5) c5 r true W5 (Kd.R_reads' hr).2.2 (Kd.R_reads' hr).2.1 hif; rw [hrq] at hso; have HSO := Aside0.mk hso; have hq41 : q ≤ 41 := (by omega); clear hr hrs hrm hb hrj hif hso)
            | (refine ⟨trivial, ?_⟩; gi_at_call 25; refine (callsIn_wide.2 (HSO.out)).mono ?_; rintro e W6 ⟨rfl, hd⟩; have HB6 := Aside0.mk (below_step HB5.out hd.below HB5.out.size); clear hd))
          exact ⟨⟨j + 1, rfl, by omega, by omega, HB6⟩, by simp [intOf]; omega⟩
        · have t2 : decide (j ≤ last) = false := decide_eq_false hjb
          have HBQ := Aside0.mk (below_step HB2R.out HQ.out hzw)
          gi_wp2_with (first
            | (refine ⟨trivial, ?_⟩; gi_at_call 11; refine (callsIn_wide.2 (last_ok HSQ.out)).mono ?_; rintro e w1 ⟨rfl, hw⟩; rw [hw]; clear hw)
            | (refine ⟨trivial, ?_⟩; gi_at_call 19; refine (callsIn_wide.2 (awake_ok _)).mono ?_; rintro e W6 ⟨rfl, hb⟩; have HB6 := Aside0.mk (below_step HBQ.out hb HBQ.out.size); clear hb))
          go_ret
          exact ⟨rfl, HB6.out⟩
end Go.Proofs.Ytijgfcpffjjlfaa.Pq
