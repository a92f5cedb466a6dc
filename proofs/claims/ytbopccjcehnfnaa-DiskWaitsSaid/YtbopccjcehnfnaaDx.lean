/- Written by a program of this session. DiskWaits: a write that is not done changes nothing that is read; a crash with all of them is as if all were done. -/
import Derived.Test.YtbopccjcehnfnaaDt
import Derived.Test.YtbopccjcehnfnaaDs
import Derived.Test.YtbopccjcehnfnaaDlr
namespace Go.Proofs.Ytbopccjcehnfnaa.Dk
open Go Go.RowKit Go.Shelf Go.Proofs Go.Maps Go.Proofs.Ytbopccjcehnfnaa.Sp Go.Proofs.Ytbopccjcehnfnaa.XFb Go.Proofs.YtbopccjcehnfnaaW.PrintWords Go.Proofs.YtbopccjcehnfnaaW.PrintLast Go.Proofs.YtbopccjcehnfnaaW.PrintMore
set_option linter.unusedVariables false
set_option linter.unusedSimpArgs false
theorem infoint : (Try.prog.info? 3).map (fun i => (i.zero, i.size, i.bytes)) = some (some (.int .i64 0), 1, 8) := by kernel_rfl
theorem ixL_has : ∀ (q : List S32) (s : S32), s ∈ q → ∀ (i : Int), 0 ≤ i → 0 ≤ ixL (fun x : S32 => x.f0 == s.f0) q i
  | [], s, h, _, _ => by cases h
  | x :: r, s, h, i, h0 => by
    unfold ixL
    by_cases hp : (x.f0 == s.f0) = true
    · rw [if_pos hp]; exact h0
    · rw [if_neg hp]
      rcases List.mem_cons.1 h with rfl | h
      · exact absurd (beq_self_eq_true _) hp
      · exact ixL_has r s h _ (by omega)
theorem wrOf_at (q : List S32) (h : (q.map fun s => s.f0).Nodup) (s : S32) (hs : s ∈ q) : wrOf q s.f0 = s := by
  have key : ∀ (q : List S32), (q.map fun s => s.f0).Nodup → ∀ s ∈ q, ∀ i : Int, ∃ k : Nat, k < q.length ∧ ixL (fun x : S32 => x.f0 == s.f0) q i = i + k ∧ q.getD k z32 = s := by
    intro q
    induction q with
    | nil => intro _ s hs; cases hs
    | cons x r ih =>
      intro hn s hs i
      rw [List.map_cons, List.nodup_cons] at hn
      unfold ixL
      by_cases hp : (x.f0 == s.f0) = true
      · rw [if_pos hp]
        rcases List.mem_cons.1 hs with rfl | hs
        · exact ⟨0, by simp, by simp, rfl⟩
        · exact absurd (List.mem_map.2 ⟨s, hs, (beq_iff_eq.1 hp).symm⟩) hn.1
      · rw [if_neg hp]
        rcases List.mem_cons.1 hs with rfl | hs
        · exact absurd (beq_self_eq_true _) hp
        · obtain ⟨k, hk, e, g⟩ := ih hn.2 s hs (i + 1)
          exact ⟨k + 1, by simpa using hk, by rw [e]; push_cast; omega, by simpa using g⟩
  obtain ⟨k, hk, e, g⟩ := key q h s hs 0
  unfold wrOf
  rw [e, show ((0 : Int) + (k : Int)).toNat = k by omega]
  exact g
theorem crB_fold (q : List S32) (h : (q.map fun s => s.f0).Nodup) : ∀ (r : List S32), (∀ s ∈ r, s ∈ q) → ∀ bl : List (List Int), (r.map fun s => s.f0).foldl (crB q) bl = r.foldl (fun (b : List (List Int)) (s : S32) => b.set s.f1.toNat s.f2) bl
  | [], _, _ => rfl
  | x :: r, hr, bl => by
    rw [List.map_cons, List.foldl_cons, List.foldl_cons, crB_fold q h r (fun s hs => hr s (List.mem_cons_of_mem _ hs))]
    unfold crB
    rw [wrOf_at q h x (hr x (List.mem_cons_self ..))]
set_option maxRecDepth 100000 in
set_option maxHeartbeats 8000000 in
theorem DiskWaits_walk (n : Int) (A : Option Addr) (c : Nat) (l : List DoT) (w : World) (hn : (Lit.int .i64 n).wf = true) (hC : Kd.C kDo w A l.length l) (hl : l.length ≤ 1000000000000000) :
    Calls Try.prog 4 #[.int .i64 n, .slice A l.length c] w fun e w' => e = .returned (.bool true) ∧ Below w.heap.size w w' := by
  have HC := Aside0.mk hC
  clear hC
  have hmk : ∀ W : World, (Instr.makeSlice 30 (.int .i64 128) (.int .i64 128)).run Try.prog W = .ok (.slice (some ⟨W.heap.size, 0, none⟩) 128 128) (W.alloc (.cells (madeCells #[.int .u8 0] 128) 5)) := fun W => print_make 30 5 .u8 1 Try.underlying30 Go.Proofs.Ytbopccjcehnfnaa.Nb.infou8 (by decide) 128 (by decide) W
  refine (callsIn_wide (n := 1)).1 ?_
  refine callsIn_of_wp Try.func4 rfl trivial ?_ rfl
  simp only [Try.ntmps4, List.size_toArray, List.length_cons, List.length_nil, Nat.reduceAdd, Nat.reduceSub, Array.replicate_succ, Array.replicate_zero, List.push_toArray, List.append_toArray, List.nil_append, List.cons_append]
  by_cases hl0 : 0 < l.length
  · have t1 : decide ((0 : Int) < (l.length : Int)) = true := decide_eq_true (by omega)
    gi_wp2_with (first
      | (refine ⟨trivial, ?_⟩; gi_at_call 8; refine (callsIn_wide.2 (script_ok _ n hn A c l HC.out hl)).mono ?_; rintro e w1 ⟨D, m, S, q, last, rfl, hi, hnd, hq0, hb⟩; have t2 : ((q.length : Int) == 0) = false := (by have := hq0 hl0; rw [beq_eq_false_iff_ne]; omega); generalize hBL : List.replicate (1 + (n % 8).toNat) (List.replicate 128 (0 : Int)) = BL at hi; have HZ := Aside0.mk (fun (x : List Int) (hx : x ∈ BL) => (List.eq_of_mem_replicate (by rw [hBL]; exact hx) : x = List.replicate 128 0)); have HI := Aside0.mk hi; have HND := Aside0.mk hnd; have HB := Aside0.mk hb; have HL0 := Aside0.mk (show w.heap.size ≤ w1.heap.size from hb.size); clear hi hnd hb hq0 hBL)
      | (refine ⟨trivial, ?_⟩; gi_at_call 10; refine (callsIn_wide.2 (queue_ok HI.out)).mono ?_; rintro e w2 ⟨v2, rfl, hs, hb⟩; obtain ⟨Aq, cq, rfl⟩ := Kd.R_slice (Kd.S_R hs); have nHB_ := Aside0.mk (below_step HB.out hb); clear HB; have HB := nHB_; clear nHB_; have nHI_ := Aside0.mk (HI.out.below hb); clear HI; have HI := nHI_; clear nHI_; clear hs hb)
      | (refine ⟨trivial, ?_⟩; gi_at_call 9; refine (callsIn_wide.2 (image_ok HI.out)).mono ?_; rintro e w3 ⟨v3, rfl, hs, hb⟩; obtain ⟨gW, cW, rfl, hgW1, hgW2, csW, hgWc⟩ := Kd.R_form (Kd.S_R hs) (by have := HI.out.fits.some; omega); have HWN := Aside0.mk (Kd.S_R hs); have nHB_ := Aside0.mk (below_step HB.out hb); clear HB; have HB := nHB_; clear nHB_; have nHI_ := Aside0.mk (HI.out.below hb); clear HI; have HI := nHI_; clear nHI_; clear hs hb))

    gi_loopw [31] (fun v31 wr => ∃ i : Nat, v31 = .int .i64 (i : Int) ∧ i ≤ BL.length ∧ Aside0 (Below w3.heap.size w3 wr)) (fun v31 _ => BL.length - (intOf v31).toNat)
    case atStart => exact ⟨0, rfl, Nat.zero_le _, ⟨Below.refl _ _⟩⟩
    case round =>
      obtain ⟨i, rfl, hi, HW⟩ := hrel
      have hBm := HI.out.fits.most
      by_cases hlt : i < BL.length
      · have t3 : decide ((i : Int) < (BL.length : Int)) = true := decide_eq_true (by omega)
        have ew : wrap64 ((i : Int) + 1) = ((i + 1 : Nat) : Int) := by rw [IntWalk.wrap64_in _ (by omega)]; omega
        obtain ⟨ad, A0, c0, hA0, ca, la, ra⟩ := at_rows (Kd.C_below (Kd.R_reads' HWN.out).2.2 HW.out) i hlt
        obtain rfl := Option.some.inj hA0
        rw [show BL.getD i [] = List.replicate 128 0 by rw [← HZ.out (BL[i]) (List.getElem_mem _)]; simp [List.getD_eq_getElem?_getD, hlt]] at ca la ra
        rw [List.length_replicate] at ca la
        rw [addr0] at ca
        have hra := Kd.C_below ra (below_alloc (Below.refl wr.heap.size wr) (.cells (madeCells #[.int .u8 0] 128) 5))
        have hmr : Kd.C (Kd.int .u8) (wr.alloc (.cells (madeCells #[.int .u8 0] 128) 5)) (some ⟨wr.heap.size, 0, none⟩) (List.replicate 128 (0 : Int)).length (List.replicate 128 (0 : Int)) := by
          have h1 := own_made wr wr.heap.size 5 .u8 128 (Nat.le_refl _) (by decide)
          have h2 : Kd.R (Kd.int .u8) 5 (wr.alloc (.cells (madeCells #[.int .u8 0] 128) 5)) wr.heap.size (fun _ => True) (.slice (some ⟨wr.heap.size, 0, none⟩) 128 128) (List.replicate 128 (0 : Int)) := Kd.R_of_own (by rw [List.length_replicate]; exact h1) (fun _ _ => trivial)
          exact (Kd.R_reads' h2).2.2
        have heq : Calls Try.prog 14 #[.slice A0 128 c0, .slice (some ⟨wr.heap.size, 0, none⟩) 128 128] (wr.alloc (.cells (madeCells #[.int .u8 0] 128) 5)) (fun e w' => e = .returned (.bool true) ∧ Drawn0 (wr.alloc (.cells (madeCells #[.int .u8 0] 128) 5)) w') := by
          have := bytes_Equal.calls A0 c0 (List.replicate 128 0) (some ⟨wr.heap.size, 0, none⟩) 128 (List.replicate 128 0) true (wr.alloc (.cells (madeCells #[.int .u8 0] 128) 5)) hra (by rw [List.length_replicate]; exact la) hmr (by rw [List.length_replicate]; exact Nat.le_refl _) (by unfold bytes_Equal.f; simp)
          rwa [List.length_replicate] at this
        clear hra hmr ra la
        gi_wp2_with (first
          | (refine ⟨trivial, ?_⟩; gi_at_call 14; refine (callsIn_wide.2 heq).mono ?_; rintro e w4 ⟨rfl, hd⟩; have HW4 := Aside0.mk (below_drawn (below_alloc HW.out (.cells (madeCells #[.int .u8 0] 128) 5)) hd); clear hd))
        exact ⟨⟨i + 1, by simp, by omega, HW4⟩, by simp [intOf]; omega⟩
      · have t3 : decide ((i : Int) < (BL.length : Int)) = false := decide_eq_false (by omega)
        have HB3 := Aside0.mk (below_step HB.out HW.out)
        have HI3 := Aside0.mk (HI.out.below HW.out)
        clear hi
        gi_wp2_with (first
          | (refine ⟨trivial, ?_⟩; gi_at_call 15; refine (callsIn_wide.2 (copy_ok HI3.out (made_own HI3.out.map 0) (Nat.zero_le _))).mono ?_; rintro e w4 ⟨Dc, mc, mo2, rfl, hi4, _, hb⟩; generalize hSc : (fun k => wr.heap.size ≤ k ∧ k < w4.heap.size) = Sc at hi4; have HSc := Aside0.mk (fun k (hk : Sc k) => (by rw [← hSc] at hk; exact hk : wr.heap.size ≤ k ∧ k < w4.heap.size)); have HC4 := Aside0.mk hi4; have HI4 := Aside0.mk (HI3.out.below hb); have HB4 := Aside0.mk (below_step HB3.out hb); have HL4 := Aside0.mk hb.size; clear hi4 hb hSc)
          | (refine ⟨trivial, ?_⟩; gi_at_call 10; refine (callsIn_wide.2 (queue_ok HI4.out)).mono ?_; rintro e w5 ⟨v5, rfl, hs, hb⟩; obtain ⟨AQ, cQ, rfl⟩ := Kd.R_slice (Kd.S_R hs); have HQC := Aside0.mk (Kd.S_R hs); have HB5 := Aside0.mk (below_step HB4.out hb); have HI5 := Aside0.mk (HI4.out.below hb); have HC5 := Aside0.mk (HC4.out.below hb); have HL5 := Aside0.mk hb.size; clear hs hb))
        have hq64 := HI4.out.fits.queue
        gi_loopw [9, 45] (fun v9 v45 wx => ∃ i : Nat, v45 = .int .i64 (i : Int) ∧ i ≤ q.length ∧ Aside0 (IsDk wx wr.heap.size Dc mc Sc ((q.take i).foldl (fun (b : List (List Int)) (s : S32) => b.set s.f1.toNat s.f2) BL) (q.drop i) mo2 last) ∧ Aside0 (Kd.R (Kd.int .i64) 3 wx w5.heap.size (fun _ => True) v9 ((q.take i).map fun s => s.f0)) ∧ Aside0 (Kept Sc w5 wx))
          (fun _ v45 _ => q.length - (intOf v45).toNat)
        case atStart => exact ⟨0, rfl, Nat.zero_le _, HC5, ⟨Kd.R_nil _ _ _ _ _⟩, ⟨Kept.refl _ _⟩⟩
        case round =>
          rename World => w8
          obtain ⟨i, rfl, hi, HJ, HR, HK⟩ := hrel
          by_cases hlt : i < q.length
          · have t4 : decide ((i : Int) < (q.length : Int)) = true := decide_eq_true (by omega)
            have ew : wrap64 ((i : Int) + 1) = ((i + 1 : Nat) : Int) := by rw [IntWalk.wrap64_in _ (by omega)]; omega
            obtain ⟨gQ, cQ', hf, _⟩ := Kd.R_form HQC.out (by omega)
            injection hf with hA _ hc
            subst hA
            subst hc
            have HQr := Aside0.mk (Kept.R (Kd.R_bound HQC.out) HK.out (fun k h1 h2 => by have := h1.2.1; have := (HSc.out k h2).2; omega))
            obtain ⟨s, hsk⟩ : ∃ s, q[i] = s := ⟨_, rfl⟩
            have hqd : q.drop i = s :: q.drop (i + 1) := by rw [← hsk]; exact List.drop_eq_getElem_cons hlt
            have htk : q.take (i + 1) = q.take i ++ [s] := by rw [List.take_add_one, List.getElem?_eq_getElem hlt, hsk]; rfl
            obtain ⟨cs, hcl, hM, hcell, _⟩ := Kd.R_elem HQr.out z32 (i : Int) (by omega) (by omega)
            rw [Int.toNat_natCast, show q.getD i z32 = s by rw [← hsk]; simp [List.getD_eq_getElem?_getD, hlt]] at hM
            obtain ⟨v2, rfl, hv2⟩ := k32_openM hM
            obtain ⟨A2, c2, rfl⟩ := Kd.R_slice hv2
            have k0 := hcell 0 _ rfl
            have k1 := hcell 1 _ rfl
            have k2 := hcell 2 _ rfl
            rw [Int.toNat_natCast, show (k32 : Kd S32).sz = 3 from rfl, Nat.add_zero] at k0
            rw [Int.toNat_natCast, show (k32 : Kd S32).sz = 3 from rfl] at k1 k2
            have hk0 : 0 < (q.drop i).length := by rw [hqd]; simp
            have h00 : (q.drop i)[0]'hk0 = s := by simp only [hqd, List.getElem_cons_zero]
            have he0 : (q.drop i).eraseIdx 0 = q.drop (i + 1) := by rw [hqd]; rfl
            have hix : ixL (fun x : S32 => x.f0 == s.f0) (q.drop i) 0 = ((0 : Nat) : Int) := by rw [hqd]; show (if (s.f0 == s.f0) = true then (0 : Int) else _) = _; rw [if_pos (beq_self_eq_true _)]; rfl
            have hs8 : w5.heap.size ≤ w8.heap.size := HK.out.size
            obtain ⟨v6, w6, hrun, hr6, hg6, ho6⟩ := Ap.run_append_one (P := Try.prog) (Kd.int .i64) (W := w8.alloc (.cells #[.int .i64 s.f0, .int .i64 s.f1, .slice A2 s.f2.length c2] 32)) w5.heap.size 40 40 3 (.int .i64 0) 8 Try.underlying40 infoint rfl (by decide) (by decide) u9 ((q.take i).map fun s => s.f0) s.f0 [.int .i64 s.f0] (fun _ => True) (fun _ => False) rfl (fun k hk => hk.elim) (fun _ _ => trivial) (Kd.R_alloc HR.out (.cells #[.int .i64 s.f0, .int .i64 s.f1, .slice A2 s.f2.length c2] 32)) (by simp; omega) (by rw [List.length_map, List.length_take]; omega)
            rw [World.size_alloc] at hrun
            have hown9 : ∀ k, u9.ownBlock = some k → w5.heap.size ≤ k ∧ k < w8.heap.size := fun k hk => ⟨Kd.R_base HR.out k hk, Kd.R_lt HR.out k hk⟩
            have hbox6 : w6.heap[w8.heap.size]? = some (.cells #[.int .i64 s.f0, .int .i64 s.f1, .slice A2 s.f2.length c2] 32 (0, 0)) := (hg6.block _ (by simp) (fun e => by have := (hown9 _ e.symm).2; omega)).trans (World.alloc_heap_new _ _)
            have b0 : w6.cell? ⟨w8.heap.size, 0, none⟩ = some (.int .i64 s.f0) := by simp [World.cell?, hbox6]
            have HJ6 := Aside0.mk ((HJ.out.below (below_alloc (Below.refl _ _) (.cells #[.int .i64 s.f0, .int .i64 s.f1, .slice A2 s.f2.length c2] 32))).kept (S2 := fun k => w5.heap.size ≤ k) (Kept.of_grown hg6 (fun k hk => (hown9 k hk).1)) (fun k hk h2 => by have := (HSc.out k hk).2; have := HL5.out; omega))
            have HR6 := Aside0.mk hr6
            have HG6 := Aside0.mk hg6
            have HO9 := Aside0.mk hown9
            have HTK := Aside0.mk htk
            clear hM hcell hcl hv2 hr6 hg6 ho6 hown9 hbox6 htk hqd
            gi_wp2_with (first
              | (gi_at_builtin; refine Ap.wpListIn_append_run _ rfl _ _ _ rfl _ _ rfl rfl _ _ hrun ?_)
              | (refine ⟨trivial, ?_⟩; gi_at_call 11; refine (callsIn_wide.2 (complete_some HJ6.out s.f0 true 0 hk0 hix)).mono ?_; rintro e w7 ⟨rfl, hi7, hk7⟩; simp only [h00, he0, if_true] at hi7; have HI7 := Aside0.mk hi7; have HK7 := Aside0.mk hk7; clear hi7 hk7))
            go_roundw
            case rel =>
              refine ⟨i + 1, rfl, hlt, ⟨?_⟩, ⟨?_⟩, ⟨?_⟩⟩
              · rw [HTK.out, List.foldl_append]; exact HI7.out
              · rw [HTK.out, List.map_append]; exact Kd.R_mono (Kept.R (Kd.R_bound HR6.out) HK7.out (fun k h1 h2 => by have := h1.2.1; have := (HSc.out k h2).2; have := HL5.out; omega)) (fun _ _ => trivial)
              · exact ((HK.out.trans (Kept.of_below (S := Sc) (below_alloc (Below.refl _ _) (.cells #[.int .i64 s.f0, .int .i64 s.f1, .slice A2 s.f2.length c2] 32))) (fun j hj => .inl hj)).trans (Kept.of_grown (S := fun k => w5.heap.size ≤ k) HG6.out (fun k hk => (HO9.out k hk).1)) (fun j hj => .inr hj)).trans HK7.out (fun j hj => .inl hj)
            case measure =>
              show q.length - ((i : Int) + 1).toNat < q.length - ((i : Int)).toNat
              omega
          · obtain rfl : i = q.length := by omega
            have t4 : decide ((q.length : Int) < (q.length : Int)) = false := decide_eq_false (by omega)
            have hj := HJ.out
            have hr := HR.out
            rw [List.take_length, List.drop_length] at hj
            rw [List.take_length] at hr
            obtain ⟨gids, hgids⟩ : ∃ x, x = q.map (fun s => s.f0) := ⟨_, rfl⟩
            rw [← hgids] at hr
            obtain ⟨AI, cI, rfl⟩ := Kd.R_slice hr
            have HJ2 := Aside0.mk hj
            have HR2 := Aside0.mk hr
            have HBx := Aside0.mk (HB5.out.trans (HK.out.below (fun k hk => by have := (HSc.out k hk).1; have := HB3.out.size; exact Nat.le_trans this ‹_›) (by have := HB5.out.size; exact this)) : Below w.heap.size w w8)
            have HD8 := Aside0.mk (HI5.out.kept HK.out (fun k hk h2 => by have := (HI3.out.low k hk).2; have := (HSc.out k h2).1; omega))
            have hlen : gids.length ≤ 1000000000000000 := by rw [hgids, List.length_map]; omega
            have hcr := crash_ok HD8.out AI cI gids (fun W' hk => (Kd.R_reads' (Kept.R (Kd.R_bound HR2.out) hk (fun k h1 h2 => by have := (HI4.out.low k h2).2; have := h1.2.1; have := HL5.out; omega))).2.2) hlen (fun i hi => by
              rw [hgids] at hi
              obtain ⟨s, hs, rfl⟩ := List.mem_map.1 hi
              exact ixL_has q s hs 0 (by omega))
            have hfold : gids.foldl (crB q) BL = q.foldl (fun (b : List (List Int)) (s : S32) => b.set s.f1.toNat s.f2) BL := by rw [hgids]; exact crB_fold q HND.out q (fun s hs => hs) BL
            rw [hfold] at hcr
            generalize q.foldl (fun (b : List (List Int)) (s : S32) => b.set s.f1.toNat s.f2) BL = BL2 at *
            clear hj hr hfold hgids
            have hbl2 := HJ2.out.fits.most
            gi_wp2_with (first
              | (refine ⟨trivial, ?_⟩; gi_at_call 16; refine (callsIn_wide.2 hcr).mono ?_; rintro e w9 ⟨rfl, ⟨ck, hi9⟩, hk9⟩; have HI9 := Aside0.mk hi9; have HJ9 := Aside0.mk (HJ2.out.kept hk9 (fun k hk h2 => by have := (HSc.out k hk).1; have := (HI3.out.low k h2).2; omega)); have HB9 := Aside0.mk (HBx.out.trans (hk9.below (fun k hk => (HD8.out.low k hk).1) HBx.out.size) : Below w.heap.size w w9); clear hi9 hk9 hcr)
              | (refine ⟨trivial, ?_⟩; gi_at_call 9; refine (callsIn_wide.2 (image_ok HI9.out)).mono ?_; rintro e w10 ⟨v10, rfl, hs, hb⟩; obtain ⟨A10, c10, rfl⟩ := Kd.R_slice (Kd.S_R hs); have HR10 := Aside0.mk (Kd.S_R hs); have HJ10 := Aside0.mk (HJ9.out.below hb); have HI10 := Aside0.mk (HI9.out.below hb); have HB10 := Aside0.mk (below_step HB9.out hb); clear hs hb HI9)
              | (refine ⟨trivial, ?_⟩; gi_at_call 9; refine (callsIn_wide.2 (image_ok HJ10.out)).mono ?_; rintro e w11 ⟨v11, rfl, hs, hb⟩; obtain ⟨A11, c11, rfl⟩ := Kd.R_slice (Kd.S_R hs); have HR11 := Aside0.mk (Kd.S_R hs); have HR10b := Aside0.mk (Kd.R_below HR10.out hb); have HJ11 := Aside0.mk (HJ10.out.below hb); have HI11 := Aside0.mk (HI10.out.below hb); have HB11 := Aside0.mk (below_step HB10.out hb); clear hs hb)
              | (refine ⟨trivial, ?_⟩; gi_at_call 12; refine (callsIn_wide.2 (same_image _ A10 A11 c10 c11 BL2 (Kd.R_reads' HR10b.out).2.2 (Kd.R_reads' HR11.out).2.2 (by omega))).mono ?_; rintro e w12 ⟨rfl, hb⟩; have HJ12 := Aside0.mk (HJ11.out.below hb); have HI12 := Aside0.mk (HI11.out.below hb); have HB12 := Aside0.mk (below_step HB11.out hb); clear hb)
              | (refine ⟨trivial, ?_⟩; gi_at_call 10; refine (callsIn_wide.2 (queue_ok HI12.out)).mono ?_; rintro e w13 ⟨v13, rfl, hs, hb⟩; obtain ⟨A13, c13, rfl⟩ := Kd.R_slice (Kd.S_R hs); have HJ13 := Aside0.mk (HJ12.out.below hb); have HB13 := Aside0.mk (below_step HB12.out hb); clear hs hb HI12)
              | (refine ⟨trivial, ?_⟩; gi_at_call 10; refine (callsIn_wide.2 (queue_ok HJ13.out)).mono ?_; rintro e w14 ⟨v14, rfl, hs, hb⟩; obtain ⟨A14, c14, rfl⟩ := Kd.R_slice (Kd.S_R hs); have HB14 := Aside0.mk (below_step HB13.out hb); clear hs hb))
            go_ret
            exact ⟨rfl, HB14.out⟩

  · have t1 : decide ((0 : Int) < (l.length : Int)) = false := decide_eq_false (by omega)
    gi_wp2_with (first
      | (refine ⟨trivial, ?_⟩; gi_at_call 8; refine (callsIn_wide.2 (script_ok _ n hn A c l HC.out hl)).mono ?_; rintro e w1 ⟨D, m, S, q, last, rfl, hi, hnd, hq0, hb⟩; generalize hBL : List.replicate (1 + (n % 8).toNat) (List.replicate 128 (0 : Int)) = BL at hi; have HZ := Aside0.mk (fun (x : List Int) (hx : x ∈ BL) => (List.eq_of_mem_replicate (by rw [hBL]; exact hx) : x = List.replicate 128 0)); have HI := Aside0.mk hi; have HND := Aside0.mk hnd; have HB := Aside0.mk hb; have HL0 := Aside0.mk (show w.heap.size ≤ w1.heap.size from hb.size); clear hi hnd hb hq0 hBL)
      | (refine ⟨trivial, ?_⟩; gi_at_call 9; refine (callsIn_wide.2 (image_ok HI.out)).mono ?_; rintro e w3 ⟨v3, rfl, hs, hb⟩; obtain ⟨gW, cW, rfl, hgW1, hgW2, csW, hgWc⟩ := Kd.R_form (Kd.S_R hs) (by have := HI.out.fits.some; omega); have HWN := Aside0.mk (Kd.S_R hs); have nHB_ := Aside0.mk (below_step HB.out hb); clear HB; have HB := nHB_; clear nHB_; have nHI_ := Aside0.mk (HI.out.below hb); clear HI; have HI := nHI_; clear nHI_; clear hs hb)
      | (refine ⟨trivial, ?_⟩))

    gi_loopw [31] (fun v31 wr => ∃ i : Nat, v31 = .int .i64 (i : Int) ∧ i ≤ BL.length ∧ Aside0 (Below w3.heap.size w3 wr)) (fun v31 _ => BL.length - (intOf v31).toNat)
    case atStart => exact ⟨0, rfl, Nat.zero_le _, ⟨Below.refl _ _⟩⟩
    case round =>
      obtain ⟨i, rfl, hi, HW⟩ := hrel
      have hBm := HI.out.fits.most
      by_cases hlt : i < BL.length
      · have t3 : decide ((i : Int) < (BL.length : Int)) = true := decide_eq_true (by omega)
        have ew : wrap64 ((i : Int) + 1) = ((i + 1 : Nat) : Int) := by rw [IntWalk.wrap64_in _ (by omega)]; omega
        obtain ⟨ad, A0, c0, hA0, ca, la, ra⟩ := at_rows (Kd.C_below (Kd.R_reads' HWN.out).2.2 HW.out) i hlt
        obtain rfl := Option.some.inj hA0
        rw [show BL.getD i [] = List.replicate 128 0 by rw [← HZ.out (BL[i]) (List.getElem_mem _)]; simp [List.getD_eq_getElem?_getD, hlt]] at ca la ra
        rw [List.length_replicate] at ca la
        rw [addr0] at ca
        have hra := Kd.C_below ra (below_alloc (Below.refl wr.heap.size wr) (.cells (madeCells #[.int .u8 0] 128) 5))
        have hmr : Kd.C (Kd.int .u8) (wr.alloc (.cells (madeCells #[.int .u8 0] 128) 5)) (some ⟨wr.heap.size, 0, none⟩) (List.replicate 128 (0 : Int)).length (List.replicate 128 (0 : Int)) := by
          have h1 := own_made wr wr.heap.size 5 .u8 128 (Nat.le_refl _) (by decide)
          have h2 : Kd.R (Kd.int .u8) 5 (wr.alloc (.cells (madeCells #[.int .u8 0] 128) 5)) wr.heap.size (fun _ => True) (.slice (some ⟨wr.heap.size, 0, none⟩) 128 128) (List.replicate 128 (0 : Int)) := Kd.R_of_own (by rw [List.length_replicate]; exact h1) (fun _ _ => trivial)
          exact (Kd.R_reads' h2).2.2
        have heq : Calls Try.prog 14 #[.slice A0 128 c0, .slice (some ⟨wr.heap.size, 0, none⟩) 128 128] (wr.alloc (.cells (madeCells #[.int .u8 0] 128) 5)) (fun e w' => e = .returned (.bool true) ∧ Drawn0 (wr.alloc (.cells (madeCells #[.int .u8 0] 128) 5)) w') := by
          have := bytes_Equal.calls A0 c0 (List.replicate 128 0) (some ⟨wr.heap.size, 0, none⟩) 128 (List.replicate 128 0) true (wr.alloc (.cells (madeCells #[.int .u8 0] 128) 5)) hra (by rw [List.length_replicate]; exact la) hmr (by rw [List.length_replicate]; exact Nat.le_refl _) (by unfold bytes_Equal.f; simp)
          rwa [List.length_replicate] at this
        clear hra hmr ra la
        gi_wp2_with (first
          | (refine ⟨trivial, ?_⟩; gi_at_call 14; refine (callsIn_wide.2 heq).mono ?_; rintro e w4 ⟨rfl, hd⟩; have HW4 := Aside0.mk (below_drawn (below_alloc HW.out (.cells (madeCells #[.int .u8 0] 128) 5)) hd); clear hd))
        exact ⟨⟨i + 1, by simp, by omega, HW4⟩, by simp [intOf]; omega⟩
      · have t3 : decide ((i : Int) < (BL.length : Int)) = false := decide_eq_false (by omega)
        have HB3 := Aside0.mk (below_step HB.out HW.out)
        have HI3 := Aside0.mk (HI.out.below HW.out)
        clear hi
        gi_wp2_with (first
          | (refine ⟨trivial, ?_⟩; gi_at_call 15; refine (callsIn_wide.2 (copy_ok HI3.out (made_own HI3.out.map 0) (Nat.zero_le _))).mono ?_; rintro e w4 ⟨Dc, mc, mo2, rfl, hi4, _, hb⟩; generalize hSc : (fun k => wr.heap.size ≤ k ∧ k < w4.heap.size) = Sc at hi4; have HSc := Aside0.mk (fun k (hk : Sc k) => (by rw [← hSc] at hk; exact hk : wr.heap.size ≤ k ∧ k < w4.heap.size)); have HC4 := Aside0.mk hi4; have HI4 := Aside0.mk (HI3.out.below hb); have HB4 := Aside0.mk (below_step HB3.out hb); have HL4 := Aside0.mk hb.size; clear hi4 hb hSc)
          | (refine ⟨trivial, ?_⟩; gi_at_call 10; refine (callsIn_wide.2 (queue_ok HI4.out)).mono ?_; rintro e w5 ⟨v5, rfl, hs, hb⟩; obtain ⟨AQ, cQ, rfl⟩ := Kd.R_slice (Kd.S_R hs); have HQC := Aside0.mk (Kd.S_R hs); have HB5 := Aside0.mk (below_step HB4.out hb); have HI5 := Aside0.mk (HI4.out.below hb); have HC5 := Aside0.mk (HC4.out.below hb); have HL5 := Aside0.mk hb.size; clear hs hb))
        have hq64 := HI4.out.fits.queue
        gi_loopw [9, 45] (fun v9 v45 wx => ∃ i : Nat, v45 = .int .i64 (i : Int) ∧ i ≤ q.length ∧ Aside0 (IsDk wx wr.heap.size Dc mc Sc ((q.take i).foldl (fun (b : List (List Int)) (s : S32) => b.set s.f1.toNat s.f2) BL) (q.drop i) mo2 last) ∧ Aside0 (Kd.R (Kd.int .i64) 3 wx w5.heap.size (fun _ => True) v9 ((q.take i).map fun s => s.f0)) ∧ Aside0 (Kept Sc w5 wx))
          (fun _ v45 _ => q.length - (intOf v45).toNat)
        case atStart => exact ⟨0, rfl, Nat.zero_le _, HC5, ⟨Kd.R_nil _ _ _ _ _⟩, ⟨Kept.refl _ _⟩⟩
        case round =>
          rename World => w8
          obtain ⟨i, rfl, hi, HJ, HR, HK⟩ := hrel
          by_cases hlt : i < q.length
          · have t4 : decide ((i : Int) < (q.length : Int)) = true := decide_eq_true (by omega)
            have ew : wrap64 ((i : Int) + 1) = ((i + 1 : Nat) : Int) := by rw [IntWalk.wrap64_in _ (by omega)]; omega
            obtain ⟨gQ, cQ', hf, _⟩ := Kd.R_form HQC.out (by omega)
            injection hf with hA _ hc
            subst hA
            subst hc
            have HQr := Aside0.mk (Kept.R (Kd.R_bound HQC.out) HK.out (fun k h1 h2 => by have := h1.2.1; have := (HSc.out k h2).2; omega))
            obtain ⟨s, hsk⟩ : ∃ s, q[i] = s := ⟨_, rfl⟩
            have hqd : q.drop i = s :: q.drop (i + 1) := by rw [← hsk]; exact List.drop_eq_getElem_cons hlt
            have htk : q.take (i + 1) = q.take i ++ [s] := by rw [List.take_add_one, List.getElem?_eq_getElem hlt, hsk]; rfl
            obtain ⟨cs, hcl, hM, hcell, _⟩ := Kd.R_elem HQr.out z32 (i : Int) (by omega) (by omega)
            rw [Int.toNat_natCast, show q.getD i z32 = s by rw [← hsk]; simp [List.getD_eq_getElem?_getD, hlt]] at hM
            obtain ⟨v2, rfl, hv2⟩ := k32_openM hM
            obtain ⟨A2, c2, rfl⟩ := Kd.R_slice hv2
            have k0 := hcell 0 _ rfl
            have k1 := hcell 1 _ rfl
            have k2 := hcell 2 _ rfl
            rw [Int.toNat_natCast, show (k32 : Kd S32).sz = 3 from rfl, Nat.add_zero] at k0
            rw [Int.toNat_natCast, show (k32 : Kd S32).sz = 3 from rfl] at k1 k2
            have hk0 : 0 < (q.drop i).length := by rw [hqd]; simp
            have h00 : (q.drop i)[0]'hk0 = s := by simp only [hqd, List.getElem_cons_zero]
            have he0 : (q.drop i).eraseIdx 0 = q.drop (i + 1) := by rw [hqd]; rfl
            have hix : ixL (fun x : S32 => x.f0 == s.f0) (q.drop i) 0 = ((0 : Nat) : Int) := by rw [hqd]; show (if (s.f0 == s.f0) = true then (0 : Int) else _) = _; rw [if_pos (beq_self_eq_true _)]; rfl
            have hs8 : w5.heap.size ≤ w8.heap.size := HK.out.size
            obtain ⟨v6, w6, hrun, hr6, hg6, ho6⟩ := Ap.run_append_one (P := Try.prog) (Kd.int .i64) (W := w8.alloc (.cells #[.int .i64 s.f0, .int .i64 s.f1, .slice A2 s.f2.length c2] 32)) w5.heap.size 40 40 3 (.int .i64 0) 8 Try.underlying40 infoint rfl (by decide) (by decide) u9 ((q.take i).map fun s => s.f0) s.f0 [.int .i64 s.f0] (fun _ => True) (fun _ => False) rfl (fun k hk => hk.elim) (fun _ _ => trivial) (Kd.R_alloc HR.out (.cells #[.int .i64 s.f0, .int .i64 s.f1, .slice A2 s.f2.length c2] 32)) (by simp; omega) (by rw [List.length_map, List.length_take]; omega)
            rw [World.size_alloc] at hrun
            have hown9 : ∀ k, u9.ownBlock = some k → w5.heap.size ≤ k ∧ k < w8.heap.size := fun k hk => ⟨Kd.R_base HR.out k hk, Kd.R_lt HR.out k hk⟩
            have hbox6 : w6.heap[w8.heap.size]? = some (.cells #[.int .i64 s.f0, .int .i64 s.f1, .slice A2 s.f2.length c2] 32 (0, 0)) := (hg6.block _ (by simp) (fun e => by have := (hown9 _ e.symm).2; omega)).trans (World.alloc_heap_new _ _)
            have b0 : w6.cell? ⟨w8.heap.size, 0, none⟩ = some (.int .i64 s.f0) := by simp [World.cell?, hbox6]
            have HJ6 := Aside0.mk ((HJ.out.below (below_alloc (Below.refl _ _) (.cells #[.int .i64 s.f0, .int .i64 s.f1, .slice A2 s.f2.length c2] 32))).kept (S2 := fun k => w5.heap.size ≤ k) (Kept.of_grown hg6 (fun k hk => (hown9 k hk).1)) (fun k hk h2 => by have := (HSc.out k hk).2; have := HL5.out; omega))
            have HR6 := Aside0.mk hr6
            have HG6 := Aside0.mk hg6
            have HO9 := Aside0.mk hown9
            have HTK := Aside0.mk htk
            clear hM hcell hcl hv2 hr6 hg6 ho6 hown9 hbox6 htk hqd
            gi_wp2_with (first
              | (gi_at_builtin; refine Ap.wpListIn_append_run _ rfl _ _ _ rfl _ _ rfl rfl _ _ hrun ?_)
              | (refine ⟨trivial, ?_⟩; gi_at_call 11; refine (callsIn_wide.2 (complete_some HJ6.out s.f0 true 0 hk0 hix)).mono ?_; rintro e w7 ⟨rfl, hi7, hk7⟩; simp only [h00, he0, if_true] at hi7; have HI7 := Aside0.mk hi7; have HK7 := Aside0.mk hk7; clear hi7 hk7))
            go_roundw
            case rel =>
              refine ⟨i + 1, rfl, hlt, ⟨?_⟩, ⟨?_⟩, ⟨?_⟩⟩
              · rw [HTK.out, List.foldl_append]; exact HI7.out
              · rw [HTK.out, List.map_append]; exact Kd.R_mono (Kept.R (Kd.R_bound HR6.out) HK7.out (fun k h1 h2 => by have := h1.2.1; have := (HSc.out k h2).2; have := HL5.out; omega)) (fun _ _ => trivial)
              · exact ((HK.out.trans (Kept.of_below (S := Sc) (below_alloc (Below.refl _ _) (.cells #[.int .i64 s.f0, .int .i64 s.f1, .slice A2 s.f2.length c2] 32))) (fun j hj => .inl hj)).trans (Kept.of_grown (S := fun k => w5.heap.size ≤ k) HG6.out (fun k hk => (HO9.out k hk).1)) (fun j hj => .inr hj)).trans HK7.out (fun j hj => .inl hj)
            case measure =>
              show q.length - ((i : Int) + 1).toNat < q.length - ((i : Int)).toNat
              omega
          · obtain rfl : i = q.length := by omega
            have t4 : decide ((q.length : Int) < (q.length : Int)) = false := decide_eq_false (by omega)
            have hj := HJ.out
            have hr := HR.out
            rw [List.take_length, List.drop_length] at hj
            rw [List.take_length] at hr
            obtain ⟨gids, hgids⟩ : ∃ x, x = q.map (fun s => s.f0) := ⟨_, rfl⟩
            rw [← hgids] at hr
            obtain ⟨AI, cI, rfl⟩ := Kd.R_slice hr
            have HJ2 := Aside0.mk hj
            have HR2 := Aside0.mk hr
            have HBx := Aside0.mk (HB5.out.trans (HK.out.below (fun k hk => by have := (HSc.out k hk).1; have := HB3.out.size; exact Nat.le_trans this ‹_›) (by have := HB5.out.size; exact this)) : Below w.heap.size w w8)
            have HD8 := Aside0.mk (HI5.out.kept HK.out (fun k hk h2 => by have := (HI3.out.low k hk).2; have := (HSc.out k h2).1; omega))
            have hlen : gids.length ≤ 1000000000000000 := by rw [hgids, List.length_map]; omega
            have hcr := crash_ok HD8.out AI cI gids (fun W' hk => (Kd.R_reads' (Kept.R (Kd.R_bound HR2.out) hk (fun k h1 h2 => by have := (HI4.out.low k h2).2; have := h1.2.1; have := HL5.out; omega))).2.2) hlen (fun i hi => by
              rw [hgids] at hi
              obtain ⟨s, hs, rfl⟩ := List.mem_map.1 hi
              exact ixL_has q s hs 0 (by omega))
            have hfold : gids.foldl (crB q) BL = q.foldl (fun (b : List (List Int)) (s : S32) => b.set s.f1.toNat s.f2) BL := by rw [hgids]; exact crB_fold q HND.out q (fun s hs => hs) BL
            rw [hfold] at hcr
            generalize q.foldl (fun (b : List (List Int)) (s : S32) => b.set s.f1.toNat s.f2) BL = BL2 at *
            clear hj hr hfold hgids
            have hbl2 := HJ2.out.fits.most
            gi_wp2_with (first
              | (refine ⟨trivial, ?_⟩; gi_at_call 16; refine (callsIn_wide.2 hcr).mono ?_; rintro e w9 ⟨rfl, ⟨ck, hi9⟩, hk9⟩; have HI9 := Aside0.mk hi9; have HJ9 := Aside0.mk (HJ2.out.kept hk9 (fun k hk h2 => by have := (HSc.out k hk).1; have := (HI3.out.low k h2).2; omega)); have HB9 := Aside0.mk (HBx.out.trans (hk9.below (fun k hk => (HD8.out.low k hk).1) HBx.out.size) : Below w.heap.size w w9); clear hi9 hk9 hcr)
              | (refine ⟨trivial, ?_⟩; gi_at_call 9; refine (callsIn_wide.2 (image_ok HI9.out)).mono ?_; rintro e w10 ⟨v10, rfl, hs, hb⟩; obtain ⟨A10, c10, rfl⟩ := Kd.R_slice (Kd.S_R hs); have HR10 := Aside0.mk (Kd.S_R hs); have HJ10 := Aside0.mk (HJ9.out.below hb); have HI10 := Aside0.mk (HI9.out.below hb); have HB10 := Aside0.mk (below_step HB9.out hb); clear hs hb HI9)
              | (refine ⟨trivial, ?_⟩; gi_at_call 9; refine (callsIn_wide.2 (image_ok HJ10.out)).mono ?_; rintro e w11 ⟨v11, rfl, hs, hb⟩; obtain ⟨A11, c11, rfl⟩ := Kd.R_slice (Kd.S_R hs); have HR11 := Aside0.mk (Kd.S_R hs); have HR10b := Aside0.mk (Kd.R_below HR10.out hb); have HJ11 := Aside0.mk (HJ10.out.below hb); have HI11 := Aside0.mk (HI10.out.below hb); have HB11 := Aside0.mk (below_step HB10.out hb); clear hs hb)
              | (refine ⟨trivial, ?_⟩; gi_at_call 12; refine (callsIn_wide.2 (same_image _ A10 A11 c10 c11 BL2 (Kd.R_reads' HR10b.out).2.2 (Kd.R_reads' HR11.out).2.2 (by omega))).mono ?_; rintro e w12 ⟨rfl, hb⟩; have HJ12 := Aside0.mk (HJ11.out.below hb); have HI12 := Aside0.mk (HI11.out.below hb); have HB12 := Aside0.mk (below_step HB11.out hb); clear hb)
              | (refine ⟨trivial, ?_⟩; gi_at_call 10; refine (callsIn_wide.2 (queue_ok HI12.out)).mono ?_; rintro e w13 ⟨v13, rfl, hs, hb⟩; obtain ⟨A13, c13, rfl⟩ := Kd.R_slice (Kd.S_R hs); have HJ13 := Aside0.mk (HJ12.out.below hb); have HB13 := Aside0.mk (below_step HB12.out hb); clear hs hb HI12)
              | (refine ⟨trivial, ?_⟩; gi_at_call 10; refine (callsIn_wide.2 (queue_ok HJ13.out)).mono ?_; rintro e w14 ⟨v14, rfl, hs, hb⟩; obtain ⟨A14, c14, rfl⟩ := Kd.R_slice (Kd.S_R hs); have HB14 := Aside0.mk (below_step HB13.out hb); clear hs hb))
            go_ret
            exact ⟨rfl, HB14.out⟩

end Go.Proofs.Ytbopccjcehnfnaa.Dk
