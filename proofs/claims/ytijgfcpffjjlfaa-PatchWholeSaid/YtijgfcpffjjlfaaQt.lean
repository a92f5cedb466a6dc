/- Written by a program of this session. (*Set).pending. -/
import Derived.Test.YtijgfcpffjjlfaaQs
import Derived.Test.YtijgfcpffjjlfaaAp
namespace Go.Proofs.Ytijgfcpffjjlfaa.Pq
open Go Go.RowKit Go.Shelf Go.Proofs Go.Maps Go.Sort Go.Proofs.Ytijgfcpffjjlfaa.XFb Go.Proofs.YtijgfcpffjjlfaaW.PrintWords Go.Proofs.YtijgfcpffjjlfaaW.PrintLast Go.Proofs.YtijgfcpffjjlfaaW.PrintMore
set_option linter.unusedVariables false
set_option linter.unusedSimpArgs false
theorem cinfo : (Try.prog.info? 3).map (fun i => (i.zero, i.size, i.bytes)) = some (some (.int .i64 0), 1, 8) := by kernel_rfl
theorem at_n {w : World} {A : Option Addr} {n : Nat} {xs : List Int} (h : Kd.C (Kd.int .i64) w A n xs) (i : Nat) (h1 : i < n) : ∃ ad, A = some ad ∧ w.cell? (ad.add i) = some (.int .i64 (xs.getD i 0)) := by
  obtain ⟨ad, c, e, hc, hK, hc0⟩ := Kd.C_get h 0 (i : Int) (by omega) (by omega)
  rw [Int.toNat_natCast] at hK hc0
  have hK2 : c = [Value.int .i64 (xs.getD i 0)] := hK
  subst hK2
  refine ⟨ad, e, ?_⟩
  have h2 := hc0 0 _ rfl
  rwa [show i * (Kd.int .i64 : Kd Int).sz + 0 = i from by show i * 1 + 0 = i; omega] at h2
theorem IsSet.map_cell {W : World} {base g m d : Nat} {S : Nat → Prop} {l : List Pt} {last : Int} {n : Nat} (h : IsSet W base g m d S l last n) : W.cell? ⟨g, 2, none⟩ = some (.map (some m)) := by simp [World.cell?, h.cells]
set_option maxRecDepth 100000 in
set_option maxHeartbeats 8000000 in
theorem pending_ok {W : World} {base g m d : Nat} {S : Nat → Prop} {l : List Pt} {last : Int} {n : Nat} (h : IsSet W base g m d S l last n) (A : Option Addr) (c : Nat) (xs : List Int) (hC : Kd.C (Kd.int .i64) W A xs.length xs) (hwf : ∀ x ∈ xs, (Lit.int .i64 x).wf = true) (hlen : xs.length ≤ 17592186044400) :
    Calls Try.prog 47 #[.pointer (some ⟨g, 0, none⟩), .slice A xs.length c] W fun e W' => ∃ v, e = .returned v ∧ RI W' W.heap.size (fun _ => True) v (pen l xs) ∧ Below W.heap.size W W' := by
  have H := Aside0.mk h
  have HC := Aside0.mk hC
  have HWF := Aside0.mk hwf
  have hpe := Aside0.mk (pen_eq h.fits.rise xs)
  clear h hC hwf
  refine (callsIn_wide (n := 1)).1 ?_
  refine callsIn_of_wp Try.func47 rfl trivial ?_ rfl
  simp only [Try.ntmps47, List.size_toArray, List.length_cons, List.length_nil, Nat.reduceAdd, Nat.reduceSub, Array.replicate_succ, Array.replicate_zero, List.push_toArray, List.append_toArray, List.nil_append, List.cons_append]
  gi_wp2
  gi_loopw [5, 12] (fun v5 v12 wr => ∃ i : Nat, v12 = .int .i64 (i : Int) ∧ i ≤ xs.length ∧ Aside0 (RI wr W.heap.size (fun _ => True) v5 ((xs.take i).filter (fun z => decide (z ∈ ids l)))) ∧ Aside0 (Below W.heap.size W wr)) (fun _ v12 _ => xs.length - (intOf v12).toNat)
  case atStart => exact ⟨0, rfl, Nat.zero_le _, ⟨Kd.R_nil _ _ _ _ _⟩, ⟨Below.refl _ _⟩⟩
  case round =>
    obtain ⟨i, rfl, hi, HR, HW⟩ := hrel
    by_cases hlt : i < xs.length
    · have t1 : decide ((i : Int) < (xs.length : Int)) = true := decide_eq_true (by omega)
      obtain ⟨ad, hA, k0⟩ := at_n (Kd.C_below HC.out HW.out) i hlt
      subst hA
      have hg : xs.getD i 0 = xs[i] := by simp [List.getD_eq_getElem?_getD, hlt]
      rw [hg] at k0
      have htk : (xs.take (i + 1)).filter (fun z => decide (z ∈ ids l)) = (xs.take i).filter (fun z => decide (z ∈ ids l)) ++ (if xs[i] ∈ ids l then [xs[i]] else []) := by
        rw [List.take_add_one, List.getElem?_eq_getElem hlt, List.filter_append]
        congr 1
        by_cases e : xs[i] ∈ ids l <;> simp [e]
      have hfl : ((xs.take i).filter (fun z => decide (z ∈ ids l))).length ≤ i := Nat.le_trans (List.length_filter_le _ _) (by rw [List.length_take]; omega)
      have hw := HWF.out xs[i] (List.getElem_mem _)
      generalize xs[i] = x at *
      generalize (xs.take i).filter (fun z => decide (z ∈ ids l)) = L at *
      have hs := H.out.below HW.out
      have c2 := hs.map_cell
      obtain ⟨A2, k2, B2, j2, r1, r2, q1, q2⟩ := hs.look x hw
      generalize get l x = p at r1 r2 q1 q2
      have HTK := Aside0.mk htk
      clear htk hg r2 q1 q2 hs hw
      by_cases hp : x ∈ ids l
      · rw [decide_eq_true hp] at r1
        have htk := HTK.out
        rw [if_pos hp] at htk
        have HTK2 := Aside0.mk htk
        obtain ⟨v6, w6, hrun, hr6, hg6, ho6⟩ := Ap.run_append_one (P := Try.prog) (Kd.int .i64) (W := wr.alloc (.cells #[.int .i64 p.id, .int .i64 p.blk, .int .i64 p.off, .slice A2 p.by_.length k2, .slice B2 p.nd.length j2] 44)) W.heap.size 27 27 3 (.int .i64 0) 8 Try.underlying27 cinfo rfl (by decide) (by decide) u5 L x [.int .i64 x] (fun _ => True) (fun _ => False) rfl (fun k hk => hk.elim) (fun _ _ => trivial) (Kd.R_below HR.out (below_alloc (Below.refl _ _) _)) (by have := HW.out.size; simp; omega) (by omega)
        rw [World.size_alloc] at hrun
        have HR6 := Aside0.mk hr6
        have HW6 := Aside0.mk (Below.grown (below_alloc HW.out (.cells #[.int .i64 p.id, .int .i64 p.blk, .int .i64 p.off, .slice A2 p.by_.length k2, .slice B2 p.nd.length j2] 44)) hg6 (by have := HW.out.size; simp; omega) (fun k hk => Kd.R_base HR.out k hk))
        clear htk hr6 hg6 ho6 hfl HTK hp
        gi_wp2_with (first
          | (gi_at_builtin; refine Ap.wpListIn_append_run _ rfl _ _ _ rfl _ _ rfl rfl _ _ hrun ?_))
        exact ⟨⟨i + 1, by simp, hlt, ⟨by rw [HTK2.out]; exact HR6.out⟩, HW6⟩, by simp [intOf]; omega⟩
      · rw [decide_eq_false hp] at r1
        have htk := HTK.out
        rw [if_neg hp, List.append_nil] at htk
        have HTK2 := Aside0.mk htk
        have HR6 := Aside0.mk (Kd.R_below HR.out (below_alloc (Below.refl _ _) (.cells #[.int .i64 p.id, .int .i64 p.blk, .int .i64 p.off, .slice A2 p.by_.length k2, .slice B2 p.nd.length j2] 44)))
        have HW6 := Aside0.mk (below_alloc HW.out (.cells #[.int .i64 p.id, .int .i64 p.blk, .int .i64 p.off, .slice A2 p.by_.length k2, .slice B2 p.nd.length j2] 44))
        clear htk hfl HTK hp
        gi_wp2
        exact ⟨⟨i + 1, by simp, hlt, ⟨by rw [HTK2.out]; exact HR6.out⟩, HW6⟩, by simp [intOf]; omega⟩
    · obtain rfl : i = xs.length := by omega
      have t1 : decide ((xs.length : Int) < (xs.length : Int)) = false := decide_eq_false (by omega)
      have hr := HR.out
      rw [List.take_length] at hr
      have hfl : (xs.filter (fun z => decide (z ∈ ids l))).length ≤ xs.length := List.length_filter_le _ _
      obtain ⟨L, hL⟩ : ∃ L, xs.filter (fun z => decide (z ∈ ids l)) = L := ⟨_, rfl⟩
      have HP : Aside0 (sc L = pen l xs) := ⟨by rw [← hL]; exact hpe.out⟩
      rw [hL] at hr hfl
      have HR2 := Aside0.mk hr
      clear hr HR hL hpe
      gi_wp2_with (first
        | (refine ⟨trivial, ?_⟩; gi_at_call 48; refine (callsIn_wide.2 (sort_ok HR2.out (by omega))).mono ?_; rintro e w2 ⟨rfl, hs, hg⟩; have HR3 := Aside0.mk hs; have HW3 := Aside0.mk (Below.grown HW.out hg HW.out.size (fun k hk => Kd.R_base HR2.out k hk)); clear hs hg)
        | (refine ⟨trivial, ?_⟩; gi_at_call 49; refine (callsIn_wide.2 (compact_ok HR3.out)).mono ?_; rintro e w3 ⟨v3, rfl, hs, hg⟩; have HR4 := Aside0.mk hs; have HW4 := Aside0.mk (Below.grown HW3.out hg HW3.out.size (fun k hk => Kd.R_base HR3.out k hk)); clear hs hg))
      go_ret
      have hr4 := HR4.out
      rw [show Lib.compact (L.mergeSort (fun x y => decide (x ≤ y))) = pen l xs from HP.out] at hr4
      exact ⟨_, rfl, hr4, HW4.out⟩
end Go.Proofs.Ytijgfcpffjjlfaa.Pq
