/- Written by a program of this session. the law PatchGets. -/
import Derived.BigQuiet
import Derived.Deep.QuietTactic
import Derived.Test.YtijgfcpffjjlfaaQh
import Derived.Test.YtijgfcpffjjlfaaQm
namespace Go.Proofs.Ytijgfcpffjjlfaa.Pq
open Go Go.RowKit Go.Shelf Go.Proofs Go.Maps Go.Sort Go.Proofs.Ytijgfcpffjjlfaa.XFb Go.Proofs.YtijgfcpffjjlfaaW.PrintWords Go.Proofs.YtijgfcpffjjlfaaW.PrintLast Go.Proofs.YtijgfcpffjjlfaaW.PrintMore
set_option linter.unusedVariables false
set_option linter.unusedSimpArgs false
theorem free_closed (l : List Pt) : ∀ (os acc : List Int), (∀ i ∈ acc, ∀ n ∈ pen l (get l i).nd, n ∈ acc) → ∀ i ∈ os.foldl (free1 l) acc, ∀ n ∈ pen l (get l i).nd, n ∈ os.foldl (free1 l) acc
  | [], acc, h => h
  | o :: r, acc, h => by
    rw [List.foldl_cons]
    refine free_closed l r _ ?_
    unfold free1
    split
    · exact h
    · rename_i hn
      intro i hi n hnn
      rcases List.mem_append.1 hi with hi | hi
      · exact List.mem_append_left _ (h i hi n hnn)
      · rw [List.mem_singleton.1 hi] at hnn
        refine List.mem_append_left _ ?_
        false_or_by_contra
        rename_i hc
        exact hn (List.any_eq_true.2 ⟨n, hnn, by simp [hc]⟩)
theorem free_keep (l : List Pt) : ∀ (os acc : List Int) (i : Int), i ∈ acc → i ∈ os.foldl (free1 l) acc
  | [], _, _, h => h
  | o :: r, acc, i, h => by
    rw [List.foldl_cons]
    refine free_keep l r _ i ?_
    unfold free1
    split
    · exact h
    · exact List.mem_append_left _ h
theorem free_has (l : List Pt) (i : Int) (hp : pen l (get l i).nd = []) : ∀ (os acc : List Int), i ∈ os → i ∈ os.foldl (free1 l) acc
  | [], _, h => by cases h
  | o :: r, acc, h => by
    rw [List.foldl_cons]
    rcases List.mem_cons.1 h with rfl | h
    · refine free_keep l r _ _ ?_
      unfold free1
      rw [hp, if_neg (by simp)]
      simp
    · exact free_has l i hp r _ h
/-- The lowest pending patch may be written. -/
theorem low_free {l : List Pt} {last lw : Int} (h : Fits l last) (hl : lw ∈ ids l) (hm : ∀ i ∈ ids l, lw ≤ i) : pen l (get l lw).nd = [] ∧ lw ∈ freeL l (get l lw).blk := by
  obtain ⟨e, hg⟩ := get_id hl
  have hp : pen l (get l lw).nd = [] := by
    rw [List.eq_nil_iff_forall_not_mem]
    intro n hn
    obtain ⟨h1, h2⟩ := pen_sub hn
    have h3 := h.ndl _ hg n h2
    have h4 := hm n h1
    rw [e] at h3
    omega
  refine ⟨hp, free_has l lw hp _ _ ?_⟩
  exact List.mem_map.2 ⟨get l lw, List.mem_filter.2 ⟨hg, by simp⟩, e⟩
theorem done_free {l : List Pt} {last : Int} (h : Fits l last) (b : Int) : doneE l last (freeL l b) = 0 := by
  unfold doneE
  have h1 : (freeL l b).any (fun i => !known last i) = false := by
    rw [List.any_eq_false]
    intro i hi
    have := ids_mem h (ofL_sub (freeL_sub hi))
    unfold known
    simp
    omega
  have h2 : (pen l (freeL l b)).any (bad l (pen l (freeL l b))) = false := by
    rw [List.any_eq_false]
    intro i hi
    have hi2 := (pen_sub hi).2
    unfold bad
    rw [Bool.not_eq_true, List.any_eq_false]
    intro n hn
    have h3 := free_closed l (ofL l b) [] (fun i hi => by cases hi) i hi2 n hn
    have h4 : n ∈ pen l (freeL l b) := by
      rw [pen, List.mem_filter, decide_eq_true_eq]
      exact ⟨(pen_sub hn).1, h3⟩
    simp [h4]
  rw [h1, h2]
  rfl
theorem done_less {l : List Pt} {xs : List Int} {i : Int} (hi : i ∈ ids l) (hx : i ∈ xs) : (ids (doneL l xs)).length < (ids l).length := by
  obtain ⟨p, hp, rfl⟩ := List.mem_map.1 hi
  unfold ids doneL
  rw [List.length_map, List.length_map]
  exact List.length_filter_lt_length_iff_exists.2 ⟨p, hp, by simp [hx]⟩
theorem free_wf {l : List Pt} {last b : Int} (h : Fits l last) : ∀ i ∈ freeL l b, (Lit.int .i64 i).wf = true := fun i hi => wf_id h (ofL_sub (freeL_sub hi))
set_option maxRecDepth 100000 in
set_option maxHeartbeats 8000000 in
theorem PatchGets_walk (A : Option Addr) (c : Nat) (l : List DoT) (w : World) (hC : Kd.C kDo w A l.length l) (hl : l.length ≤ 1000000000000000) (hx : ∀ x ∈ l, x.2.2.2.1.length < 140737488355328 ∧ x.2.2.2.2.length ≤ 17592186043904) :
    Calls Try.prog 4 #[.slice A l.length c] w fun e w' => e = .returned (.bool true) ∧ Below w.heap.size w w' := by
  have hmk : ∀ W : World, (Instr.makeSlice 26 (.int .i64 128) (.int .i64 128)).run Try.prog W = .ok (.slice (some ⟨W.heap.size, 0, none⟩) 128 128) (W.alloc (.cells (madeCells #[.int .u8 0] 128) 5)) := fun W => print_make 26 5 .u8 1 Try.underlying26 infou8 (by decide) 128 (by decide) W
  have HC := Aside0.mk hC
  have HXX := Aside0.mk hx
  have hlm : 0 ≤ (madeS l).2 ∧ (madeS l).2 ≤ 41 := by
    unfold madeS
    rw [made_last _ _ (Int.le_refl _), List.length_take]
    simp only
    omega
  clear hC hx
  refine (callsIn_wide (n := 1)).1 ?_
  refine callsIn_of_wp Try.func4 rfl trivial ?_ rfl
  simp only [Try.ntmps4, List.size_toArray, List.length_cons, List.length_nil, Nat.reduceAdd, Nat.reduceSub, Array.replicate_succ, Array.replicate_zero, List.push_toArray, List.append_toArray, List.nil_append, List.cons_append]
  gi_wp2_with (first
    | (refine ⟨trivial, ?_⟩; gi_at_call 10; refine (callsIn_wide.2 (made_ok A c l w HC.out hl HXX.out)).mono ?_; rintro e W1 ⟨g, m, d, S, rfl, hs, hb⟩; have HS1 := Aside0.mk hs.tight; have HB1 := Aside0.mk hb; have hb1s := hb.size; clear hs hb))
  generalize (madeS l).1 = L at *
  generalize (madeS l).2 = last at *
  have hgl := HS1.out.ltg
  have hml := HS1.out.ltm
  have hdl := HS1.out.ltd
  have hrz : RB (W1.alloc (.cells (madeCells #[.int .u8 0] 128) 5)) W1.heap.size (fun _ => True) (.slice (some ⟨W1.heap.size, 0, none⟩) 128 128) (List.replicate 128 0) := by
    have h1 := own_made W1 W1.heap.size 5 .u8 128 (Nat.le_refl _) (by decide)
    exact Kd.R_of_own (by rw [List.length_replicate]; exact h1) (fun _ _ => trivial)
  have hbk : Below W1.heap.size W1 (W1.alloc (.cells (madeCells #[.int .u8 0] 128) 5)) := below_alloc (Below.refl _ _) _
  have HS2 := Aside0.mk (HS1.out.below hbk)
  have HB2 := Aside0.mk (below_step HB1.out hbk hb1s)
  obtain ⟨dk, hdk⟩ : ∃ dk, W1.heap.size = dk := ⟨_, rfl⟩
  rw [hdk] at hrz hgl hml hdl
  have HRZ := Aside0.mk hrz
  have hli : (ids L).length ≤ 41 := by have := HS1.out.len_le; omega
  try rw [hdk]
  clear hrz hbk HS1
  generalize hDZ : List.replicate 128 (0 : Int) = DZ at *
  have hdl8 : DZ.length = 128 := by rw [← hDZ, List.length_replicate]
  have HDZ := Aside0.mk hdl8
  clear hDZ hdl8
  gi_loopw [14] (fun v14 wr => ∃ (i : Nat) (l' : List Pt), v14 = .int .i64 (i : Int) ∧ (ids l').length + i ≤ 41 ∧ Aside0 (IsSet wr w.heap.size g m d S l' last last.toNat) ∧ Aside0 (RB wr dk (fun _ => True) (.slice (some ⟨dk, 0, none⟩) 128 128) DZ) ∧ Aside0 (Below w.heap.size w wr)) (fun v14 _ => 100 - (intOf v14).toNat)
  case atStart => exact ⟨0, L, rfl, by omega, HS2, HRZ, HB2⟩
  case round =>
    obtain ⟨i, l', rfl, hli', HS, HZ, HB⟩ := hrel
    have hwz := HB.out.size
    have t1 : decide ((i : Int) < 100) = true := decide_eq_true (by omega)
    have hfi := Aside0.mk HS.out.fits
    gi_wp2_with (first
      | (refine ⟨trivial, ?_⟩; gi_at_call 11; refine (callsIn_wide.2 (last_ok HS.out)).mono ?_; rintro e w1 ⟨rfl, hw⟩; rw [hw]; clear hw))
    gi_loopw [5, 6] (fun v5 v6 wq => ∃ (lw j : Int), v5 = .int .i64 lw ∧ v6 = .int .i64 j ∧ 0 ≤ j ∧ j ≤ last ∧ Aside0 ((lw = 0 ∧ ∀ i ∈ ids l', i ≤ j) ∨ (lw ∈ ids l' ∧ ∀ i ∈ ids l', j < i → lw ≤ i)) ∧ Aside0 (Below wr.heap.size wr wq)) (fun _ v6 _ => (intOf v6).toNat)
    case atStart => exact ⟨0, last, rfl, rfl, hlm.1, Int.le_refl _, ⟨.inl ⟨rfl, fun i hi => (ids_mem hfi.out hi).2⟩⟩, ⟨Below.refl _ _⟩⟩
    case round =>
      obtain ⟨lw, j, rfl, rfl, hj0, hjl, HL, HQ⟩ := hrel
      rename World => wq
      have HSQ := Aside0.mk (HS.out.below HQ.out)
      have hqs := HQ.out.size
      by_cases h1 : 1 ≤ j
      · have t2 : decide ((1 : Int) ≤ j) = true := decide_eq_true h1
        have hw1 : wrap64 (j - 1) = j - 1 := by unfold wrap64; omega
        have hwj : (Lit.int .i64 j).wf = true := WalkArith.wf_i64 (by omega)
        by_cases hji : j ∈ ids l'
        · have hdj : decide (1 ≤ j ∧ j ≤ last ∧ j ∉ ids l') = false := decide_eq_false (fun hh => hh.2.2 hji)
          gi_wp2_with (first
            | (refine ⟨trivial, ?_⟩; gi_at_call 20; refine (callsIn_wide.2 (isdone_ok HSQ.out j hwj)).mono ?_; rintro e W5 ⟨rfl, hb⟩; rw [hdj]; have HQ5 := Aside0.mk (below_step HQ.out hb hqs); clear hb))
          exact ⟨⟨j, j - 1, rfl, by simp, by omega, by omega, ⟨.inr ⟨hji, fun k hk hlt => by omega⟩⟩, HQ5⟩, by simp [intOf]; omega⟩
        · have hdj : decide (1 ≤ j ∧ j ≤ last ∧ j ∉ ids l') = true := decide_eq_true ⟨h1, hjl, hji⟩
          have hnx : ∀ k ∈ ids l', k ≠ j := fun k hk e => hji (e ▸ hk)
          gi_wp2_with (first
            | (refine ⟨trivial, ?_⟩; gi_at_call 20; refine (callsIn_wide.2 (isdone_ok HSQ.out j hwj)).mono ?_; rintro e W5 ⟨rfl, hb⟩; rw [hdj]; have HQ5 := Aside0.mk (below_step HQ.out hb hqs); clear hb))
          exact ⟨⟨lw, j - 1, rfl, by simp, by omega, by omega, ⟨by
            rcases HL.out with ⟨h2, h3⟩ | ⟨h2, h3⟩
            · exact .inl ⟨h2, fun k hk => by have a1 := h3 k hk; have a2 := hnx k hk; omega⟩
            · exact .inr ⟨h2, fun k hk hlt => h3 k hk (by have a2 := hnx k hk; omega)⟩⟩, HQ5⟩, by simp [intOf]; omega⟩
      · have t2 : decide ((1 : Int) ≤ j) = false := decide_eq_false h1
        have hj : j = 0 := by omega
        have HBQ := Aside0.mk (below_step HB.out HQ.out hwz)
        by_cases hlw : lw ∈ ids l'
        · have hmin : ∀ i ∈ ids l', lw ≤ i := fun i hi => by
            have h3 := ids_mem hfi.out hi
            rcases HL.out with ⟨h2, h4⟩ | ⟨h2, h4⟩
            · have := h4 i hi; omega
            · exact h4 i hi (by omega)
          have hlp := ids_mem hfi.out hlw
          have t3 : (lw == (0 : Int)) = false := by rw [beq_eq_false_iff_ne]; omega
          obtain ⟨hpn, hfr⟩ := low_free hfi.out hlw hmin
          have hde := done_free hfi.out (get l' lw).blk
          have hls := done_less hlw hfr
          have hge : getE l' lw = 0 := by unfold getE; rw [if_pos hlw]
          have hpe : planE l' (get l' lw).blk DZ = 0 := by unfold planE; rw [if_neg (fun hh => hh HDZ.out), if_neg (fun hh => by rw [hh] at hfr; cases hfr)]
          have hpi : planI l' (get l' lw).blk DZ = freeL l' (get l' lw).blk := by unfold planI; rw [if_pos hpe]
          have hfw := free_wf (b := (get l' lw).blk) hfi.out
          have hfl := freeL_len l' (get l' lw).blk
          have hdr : doneR l' last (freeL l' (get l' lw).blk) = doneL l' (freeL l' (get l' lw).blk) := by unfold doneR; rw [if_pos hde]
          have hgo := get_ok HSQ.out (by omega) lw (WalkArith.wf_i64 (by omega))
          unfold GetIs at hgo
          generalize get l' lw = p at *
          rw [hge, hpn] at hgo
          have hcf := contains_f (freeL l' p.blk) lw (by omega)
          rw [decide_eq_true hfr] at hcf
          generalize hfe : freeL l' p.blk = fr at *
          rw [List.length_nil] at hgo
          have HGO := Aside0.mk hgo
          have HCF := Aside0.mk hcf
          have HFW := Aside0.mk hfw
          have HDE := Aside0.mk (And.intro hde hdr)
          have HPL := Aside0.mk (And.intro hpe hpi)
          have HZQ := Aside0.mk (Kd.R_below HZ.out HQ.out)
          clear hgo hcf hfw hde hdr hpe hpi hge hpn hfr hfe hmin hlw
          have hbgm : w.heap.size ≤ g ∧ w.heap.size ≤ m ∧ w.heap.size ≤ d := ⟨HS.out.bg, HS.out.bm, HS.out.bd⟩
          gi_wp2_with (first
            | (refine ⟨trivial, ?_⟩; gi_at_call 21; refine (callsIn_wide.2 (HGO.out)).mono ?_; rintro e W5 ⟨A5, k5, B5, j5, rfl, hrb, hri, hb⟩; have hb6 := below_step hb (below_alloc (Below.refl W5.heap.size W5) (.cells #[.int .i64 p.id, .int .i64 p.blk, .int .i64 p.off, .slice A5 p.by_.length k5, .slice B5 0 j5] 44)) hb.size; have HS6 := Aside0.mk (HSQ.out.below hb6); have HZ6 := Aside0.mk (Kd.R_below HZQ.out hb6); have HB6 := Aside0.mk (below_step HBQ.out hb6 HBQ.out.size); have hpl := plan_ok HS6.out (by omega) p.blk (some ⟨dk, 0, none⟩) 128 DZ (Kd.R_reads' (show RB (W5.alloc (.cells #[.int .i64 p.id, .int .i64 p.blk, .int .i64 p.off, .slice A5 p.by_.length k5, .slice B5 0 j5] 44)) dk (fun _ => True) (.slice (some ⟨dk, 0, none⟩) DZ.length 128) DZ from (by rw [HDZ.out]; exact HZ6.out))).2.2 (by rw [HDZ.out]; exact Nat.le_refl _); rw [HDZ.out, HPL.out.1, HPL.out.2] at hpl; have HPLAN := Aside0.mk hpl; clear hrb hri hb hb6 hpl)
            | (refine ⟨trivial, ?_⟩; gi_at_call 16; refine (callsIn_wide.2 (HPLAN.out)).mono ?_; rintro e W7 ⟨v1, v2, rfl, hrb, hri, hb⟩; obtain ⟨A8, k8, rfl⟩ := Kd.R_slice hrb; obtain ⟨A7, c7, rfl⟩ := Kd.R_slice hri; have HS7 := Aside0.mk (HS6.out.below hb); have HZ7 := Aside0.mk (Kd.R_below HZ6.out hb); have HB7 := Aside0.mk (below_step HB6.out hb HB6.out.size); have HR7 := Aside0.mk hri; clear hrb hri hb)
            | (refine ⟨trivial, ?_⟩; gi_at_call 22; refine (callsIn_wide.2 (slices_Contains_int_int.calls _ A7 c7 fr lw true _ (Kd.R_reads' HR7.out).2.2 (Kd.R_reads' HR7.out).2.1 HCF.out)).mono ?_; rintro e W8 ⟨rfl, hd⟩; have hb := hd.below; have HS8 := Aside0.mk (HS7.out.below hb); have HZ8 := Aside0.mk (Kd.R_below HZ7.out hb); have HB8 := Aside0.mk (below_step HB7.out hb HB7.out.size); have HR8 := Aside0.mk (Kd.R_below HR7.out hb); clear hb hd)
            | (refine ⟨trivial, ?_⟩; gi_at_call 23; refine (callsIn_wide.2 (done_ok HS8.out (by omega) A7 c7 fr HR8.out HFW.out (by omega))).mono ?_; rintro e W9 ⟨rfl, hs, hk⟩; rw [HDE.out.1]; rw [HDE.out.2] at hs; have HS9 := Aside0.mk hs; have HK9 := Aside0.mk hk; clear hs hk))
          exact ⟨⟨i + 1, _, by simp, by omega, HS9, ⟨Kd.R_mono (Kd.R_step (Kd.R_bound HZ8.out) (fun k hk hlt => HK9.out.same k hlt (fun e => by have := hk.2.1; rcases e with e | e | e <;> omega))) (fun _ _ => trivial)⟩, ⟨HB8.out.trans (HK9.out.below (fun k hk => by rcases hk with hk | hk | hk <;> omega) HB8.out.size)⟩⟩, by simp [intOf]; omega⟩
        · have hl0 : l' = [] := by
            rcases HL.out with ⟨h2, h4⟩ | ⟨h2, h4⟩
            · rw [List.eq_nil_iff_forall_not_mem]
              intro q hq
              have h5 : q.id ∈ ids l' := List.mem_map_of_mem hq
              have h6 := ids_mem hfi.out h5
              have := h4 _ h5
              omega
            · exact absurd h2 hlw
          have hlz : lw = 0 := by
            rcases HL.out with ⟨h2, _⟩ | ⟨h2, _⟩
            · exact h2
            · exact absurd h2 hlw
          subst hlz
          have hb0 : blksL l' = [] := by rw [hl0]; unfold blksL; exact List.eq_nil_iff_forall_not_mem.2 (fun x hx => by have := ((sc_rises _).2 x).1 hx; cases this)
          have HB0 := Aside0.mk hb0
          clear hb0 hl0 hlw
          gi_wp2_with (first
            | (refine ⟨trivial, ?_⟩; gi_at_call 15; refine (callsIn_wide.2 (blocks_ok HSQ.out (by omega))).mono ?_; rintro e W5 ⟨v5, rfl, hr, hb⟩; rw [HB0.out] at hr; obtain ⟨A5, c5, rfl⟩ := Kd.R_slice hr; have HB5 := Aside0.mk (below_step HBQ.out hb HBQ.out.size); clear hr hb)
            | (refine ⟨trivial, ?_⟩; gi_at_call 19; refine (callsIn_wide.2 (awake_ok _)).mono ?_; rintro e W6 ⟨rfl, hb⟩; have HB6 := Aside0.mk (below_step HB5.out hb HB5.out.size); clear hb))
          go_ret
          exact ⟨rfl, HB6.out⟩
end Go.Proofs.Ytijgfcpffjjlfaa.Pq
