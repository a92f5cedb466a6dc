/- Written by a program of this session. The reference's disk: what it is made of, what its methods answer that make no queue. -/
import Derived.Test.YtbopccjcehnfnaaDk
import Derived.Test.YtbopccjcehnfnaaAp
namespace Go.Proofs.Ytbopccjcehnfnaa.Dk
open Go Go.RowKit Go.Shelf Go.Proofs Go.Proofs.Ytbopccjcehnfnaa.Sp Go.Proofs.Ytbopccjcehnfnaa.XFb Go.Proofs.YtbopccjcehnfnaaW.PrintWords Go.Proofs.YtbopccjcehnfnaaW.PrintLast Go.Proofs.YtbopccjcehnfnaaW.PrintMore
set_option linter.unusedVariables false
set_option linter.unusedSimpArgs false
/-- The reference's disk in block X of W. -/
structure IsX (W : World) (base X : Nat) (S : Nat → Prop) (bl : List (List Int)) (q : List S32) (fl : List Int) (last : Int) : Prop where
  fits : Fits bl q last
  fails : fl.length = bl.length
  cells : ∃ vB vQ vF, W.heap[X]? = some (.cells #[vB, vQ, vF, .int .i64 last] 81 (0, 0)) ∧ Kd.R (Kd.slice 5 (Kd.int .u8)) 30 W base S vB bl ∧ Kd.R k32 32 W base S vQ q ∧ Kd.R (Kd.int .i64) 3 W base S vF fl
  inX : S X
  low : ∀ k, S k → base ≤ k ∧ k < W.heap.size
theorem IsX.kept {W W' : World} {base X : Nat} {S S2 : Nat → Prop} {bl : List (List Int)} {q : List S32} {fl : List Int} {last : Int} (h : IsX W base X S bl q fl last) (hk : Kept S2 W W') (hn : ∀ k, S k → ¬ S2 k) : IsX W' base X S bl q fl last := by
  obtain ⟨h1, h0, ⟨vB, vQ, vF, hD, hB, hQ, hF⟩, h2, h4⟩ := h
  exact ⟨h1, h0, ⟨vB, vQ, vF, (hk.same X (h4 X h2).2 (hn X h2)).trans hD, Kept.R hB hk hn, Kept.R hQ hk hn, Kept.R hF hk hn⟩, h2, fun k hs => ⟨(h4 k hs).1, Nat.lt_of_lt_of_le (h4 k hs).2 hk.size⟩⟩
theorem IsX.below {W W' : World} {base X : Nat} {S : Nat → Prop} {bl : List (List Int)} {q : List S32} {fl : List Int} {last : Int} (h : IsX W base X S bl q fl last) (hb : Below W.heap.size W W') : IsX W' base X S bl q fl last :=
  h.kept (S2 := fun _ => False) (Kept.of_below hb) (fun _ _ h => h)
theorem copied_f (x : List Int) (h : x.length < 1000000) : bollardref02_copied.f x = some x := by
  unfold bollardref02_copied.f
  simp only [Option.bind_some, List.length_nil, Nat.zero_add, List.nil_append]
  rw [if_pos (by omega)]
/-- The cells of a queue's writes. -/
theorem at_sent {W : World} {base : Nat} {S : Nat → Prop} {v : Value} {q : List S32} (h : Kd.R k32 32 W base S v q) (i : Nat) (hi : i < q.length) : ∃ g cap A2 c2, v = .slice (some ⟨g, 0, none⟩) q.length cap ∧ g < W.heap.size ∧ S g ∧
    W.cell? ⟨g, i * 3, none⟩ = some (.int .i64 q[i].f0) ∧ W.cell? ⟨g, i * 3 + 1, none⟩ = some (.int .i64 q[i].f1) ∧ W.cell? ⟨g, i * 3 + 2, none⟩ = some (.slice A2 q[i].f2.length c2) ∧ q[i].f2.length ≤ c2 ∧ Kd.R (Kd.int .u8) 5 W base S (.slice A2 q[i].f2.length c2) q[i].f2 := by
  obtain ⟨g, cap, rfl, h1, h2, _⟩ := Kd.R_form h (by omega)
  obtain ⟨cs, hcl, hM, hcell, _⟩ := Kd.R_elem h z32 (i : Int) (by omega) (by omega)
  rw [Int.toNat_natCast, show q.getD i z32 = q[i] by simp [List.getD_eq_getElem?_getD, hi]] at hM
  obtain ⟨v2, rfl, hv2⟩ := k32_openM hM
  obtain ⟨A2, c2, rfl⟩ := Kd.R_slice hv2
  have k0 := hcell 0 _ rfl
  have k1 := hcell 1 _ rfl
  have k2 := hcell 2 _ rfl
  rw [Int.toNat_natCast, show (k32 : Kd S32).sz = 3 from rfl, Nat.add_zero] at k0
  rw [Int.toNat_natCast, show (k32 : Kd S32).sz = 3 from rfl] at k1 k2
  exact ⟨g, cap, A2, c2, rfl, h2, h.1 g (by simp [Value.ownBlock]), k0, k1, k2, (Kd.R_reads' hv2).2.1, Kd.R_mono hv2 (fun k hk => by first | exact hk | exact hk.1)⟩
set_option maxRecDepth 100000 in
set_option maxHeartbeats 4000000 in
theorem x_has {W : World} {base X : Nat} {S : Nat → Prop} {bl : List (List Int)} {q : List S32} {fl : List Int} {last : Int} (h : IsX W base X S bl q fl last) (b : Int) :
    Calls Try.prog 57 #[.pointer (some ⟨X, 0, none⟩), .int .i64 b] W fun e w' => e = .returned (.bool (decide (0 ≤ b ∧ b < bl.length))) ∧ w' = W := by
  obtain ⟨hf, _, ⟨vB, vQ, vF, hD, hB, hQ, hF⟩, _, _⟩ := h
  obtain ⟨AB, cB, rfl⟩ := Kd.R_slice hB
  have c0 : W.cell? ⟨X, 0, none⟩ = some (.slice AB bl.length cB) := by simp [World.cell?, hD]
  clear hB hQ hF
  refine (callsIn_wide (n := 1)).1 ?_
  refine callsIn_of_wp Try.func57 rfl trivial ?_ rfl
  simp only [Try.ntmps57, List.size_toArray, List.length_cons, List.length_nil, Nat.reduceAdd, Nat.reduceSub, Array.replicate_succ, Array.replicate_zero, List.push_toArray, List.append_toArray, List.nil_append, List.cons_append]
  by_cases h0 : 0 ≤ b
  · have t1 : decide ((0 : Int) ≤ b) = true := decide_eq_true h0
    rw [show decide (0 ≤ b ∧ b < (bl.length : Int)) = decide (b < (bl.length : Int)) by simp [h0]]
    gi_wp2
    go_ret
    exact ⟨rfl, rfl⟩
  · have t1 : decide ((0 : Int) ≤ b) = false := decide_eq_false h0
    rw [show decide (0 ≤ b ∧ b < (bl.length : Int)) = false by simp [h0]]
    gi_wp2
    go_ret
    exact ⟨rfl, rfl⟩
set_option maxRecDepth 100000 in
set_option maxHeartbeats 4000000 in
theorem x_find {W : World} {base X : Nat} {S : Nat → Prop} {bl : List (List Int)} {q : List S32} {fl : List Int} {last : Int} (h : IsX W base X S bl q fl last) (id : Int) :
    Calls Try.prog 58 #[.pointer (some ⟨X, 0, none⟩), .int .i64 id] W fun e w' => e = .returned (.int .i64 (ixL (fun x : S32 => x.f0 == id) q 0)) ∧ Below W.heap.size W w' := by
  obtain ⟨hf, _, ⟨vB, vQ, vF, hD, hB, hQ, hF⟩, _, _⟩ := h
  have HQ := Aside0.mk hQ
  obtain ⟨AQ, cQ, rfl⟩ := Kd.R_slice hQ
  have c1 : W.cell? ⟨X, 1, none⟩ = some (.slice AQ q.length cQ) := by simp [World.cell?, hD]
  have hq := hf.queue
  clear hB hQ hF
  refine (callsIn_wide (n := 1)).1 ?_
  refine callsIn_of_wp Try.func58 rfl trivial ?_ rfl
  simp only [Try.ntmps58, List.size_toArray, List.length_cons, List.length_nil, Nat.reduceAdd, Nat.reduceSub, Array.replicate_succ, Array.replicate_zero, List.push_toArray, List.append_toArray, List.nil_append, List.cons_append]
  gi_wp2
  gi_loopw [12] (fun v12 w' => ∃ i : Nat, v12 = .int .i64 (i : Int) ∧ i ≤ q.length ∧ ixL (fun x : S32 => x.f0 == id) q 0 = ixL (fun x : S32 => x.f0 == id) (q.drop i) i ∧ Aside0 (Below W.heap.size W w')) (fun v12 _ => q.length - (intOf v12).toNat)
  case atStart => exact ⟨0, rfl, Nat.zero_le _, rfl, ⟨Below.refl _ _⟩⟩
  case round =>
    obtain ⟨i, rfl, hi, hall, HB⟩ := hrel
    by_cases hlt : i < q.length
    · have t1 : decide ((i : Int) < (q.length : Int)) = true := decide_eq_true (by omega)
      have ew : wrap64 ((i : Int) + 1) = ((i + 1 : Nat) : Int) := by rw [IntWalk.wrap64_in _ (by omega)]; omega
      obtain ⟨gQ, cap, A2, c2, hv, _, _, k0, k1, k2, _, _⟩ := at_sent (Kd.R_below HQ.out HB.out) i hlt
      injection hv with hA _ hc
      subst hA
      subst hc
      have hd : q.drop i = q[i] :: q.drop (i + 1) := List.drop_eq_getElem_cons hlt
      rw [hd] at hall
      generalize q[i] = s at *
      rw [show ixL (fun x : S32 => x.f0 == id) (s :: q.drop (i + 1)) (i : Int) = if (s.f0 == id) = true then (i : Int) else ixL (fun x : S32 => x.f0 == id) (q.drop (i + 1)) ((i : Int) + 1) from rfl] at hall
      have HL := Aside0.mk hall
      clear hall hd
      have hb := below_alloc HB.out (.cells #[.int .i64 s.f0, .int .i64 s.f1, .slice A2 s.f2.length c2] 32)
      cases hn : (s.f0 == id) with
      | true =>
        have HL' := HL.out
        rw [if_pos hn] at HL'
        have HL2 := Aside0.mk HL'
        clear HL' HL
        have HBX := Aside0.mk hb
        clear hb
        gi_wp2
        go_ret
        exact ⟨by rw [HL2.out]; rfl, HBX.out⟩
      | false =>
        have HL' := HL.out
        rw [if_neg (by rw [hn]; simp)] at HL'
        have HL2 := Aside0.mk HL'
        clear HL' HL
        have HBX := Aside0.mk hb
        clear hb
        gi_wp2
        exact ⟨⟨i + 1, by simp, hlt, HL2.out.trans (congrArg (ixL (fun x : S32 => x.f0 == id) _) (by omega)), HBX⟩, by simp [intOf]; omega⟩
    · obtain rfl : i = q.length := by omega
      have t1 : decide ((q.length : Int) < (q.length : Int)) = false := decide_eq_false (by omega)
      rw [List.drop_length] at hall
      have HL := Aside0.mk hall
      clear hall
      gi_wp2
      go_ret
      exact ⟨by rw [HL.out]; rfl, HB.out⟩
set_option maxRecDepth 100000 in
set_option maxHeartbeats 4000000 in
theorem x_image {W : World} {base X : Nat} {S : Nat → Prop} {bl : List (List Int)} {q : List S32} {fl : List Int} {last : Int} (h : IsX W base X S bl q fl last) :
    Calls Try.prog 49 #[.pointer (some ⟨X, 0, none⟩)] W fun e w' => ∃ v, e = .returned v ∧ Kd.R (Kd.slice 5 (Kd.int .u8)) 30 w' W.heap.size (fun _ => True) v bl ∧ Below W.heap.size W w' := by
  obtain ⟨hf, _, ⟨vB, vQ, vF, hD, hB, hQ, hF⟩, _, _⟩ := h
  have HB := Aside0.mk hB
  obtain ⟨AB, cB, rfl⟩ := Kd.R_slice hB
  have c0 : W.cell? ⟨X, 0, none⟩ = some (.slice AB bl.length cB) := by simp [World.cell?, hD]
  have HM := Aside0.mk hf
  have hm := hf.most
  clear hB hQ hF hf
  refine (callsIn_wide (n := 1)).1 ?_
  refine callsIn_of_wp Try.func49 rfl trivial ?_ rfl
  simp only [Try.ntmps49, List.size_toArray, List.length_cons, List.length_nil, Nat.reduceAdd, Nat.reduceSub, Array.replicate_succ, Array.replicate_zero, List.push_toArray, List.append_toArray, List.nil_append, List.cons_append]
  gi_wp2
  gi_loopw [3, 11] (fun v3 v11 w' => ∃ i : Nat, v11 = .int .i64 (i : Int) ∧ i ≤ bl.length ∧ Aside0 (Kd.R (Kd.slice 5 (Kd.int .u8)) 30 w' W.heap.size (fun _ => True) v3 (bl.take i)) ∧ Aside0 (Below W.heap.size W w')) (fun _ v11 _ => bl.length - (intOf v11).toNat)
  case atStart => exact ⟨0, rfl, Nat.zero_le _, ⟨Kd.R_nil _ _ _ _ _⟩, ⟨Below.refl _ _⟩⟩
  case round =>
    obtain ⟨i, rfl, hi, HR, HW⟩ := hrel
    by_cases hlt : i < bl.length
    · have t1 : decide ((i : Int) < (bl.length : Int)) = true := decide_eq_true (by omega)
      have ew : wrap64 ((i : Int) + 1) = ((i + 1 : Nat) : Int) := by rw [IntWalk.wrap64_in _ (by omega)]; omega
      obtain ⟨ad, A0, a0, rfl, ca, la, ra⟩ := at_rows (Kd.C_below (Kd.R_reads' HB.out).2.2 HW.out) i hlt
      have hx : bl.getD i [] = bl[i] := by simp [List.getD_eq_getElem?_getD, hlt]
      rw [hx] at ca la ra
      have htk : bl.take (i + 1) = bl.take i ++ [bl[i]] := by rw [List.take_add_one, List.getElem?_eq_getElem hlt]; rfl
      have h128 := HM.out.each bl[i] (List.getElem_mem _)
      generalize bl[i] = x at *
      have RA := Aside0.mk ra
      have HTK := Aside0.mk htk
      have hlen : (bl.take i).length = i := by rw [List.length_take]; omega
      have hxl : x.length < 1000000 := by omega
      clear ra htk hx h128
      gi_wp2_with (first
        | (refine ⟨trivial, ?_⟩; gi_at_call 53; refine (callsIn_wide.2 (bollardref02_copied.calls A0 a0 x x _ RA.out la (copied_f x hxl))).mono ?_; rintro e w1 ⟨v0, rfl, hr1, hb1⟩; obtain ⟨A1, c1, rfl⟩ := Kd.R_slice hr1; obtain ⟨v6, w6, hrun, hr6, hg6, ho6⟩ := Ap.run_append_one (P := Try.prog) (Kd.slice 5 (Kd.int .u8)) (W := w1) W.heap.size 26 26 30 (.slice none 0 0) 24 Try.underlying26 Go.Proofs.Ytbopccjcehnfnaa.Nb.infosl rfl (by decide) (by decide) u3 (bl.take i) x [.slice A1 x.length c1] (fun _ => True) (fun k => wr.heap.size ≤ k) ⟨_, rfl, Kd.R_lower (Kd.R_mono (Kd.R_bound hr1) (fun k hk => hk.2.1)) HW.out.size⟩ (fun k hk => ⟨trivial, fun e => by have := Kd.R_lt HR.out k e.symm; omega⟩) (fun _ _ => trivial) (Kd.R_below HR.out hb1) (by have := HW.out.size; have := hb1.size; omega) (by omega); have HR6 := Aside0.mk hr6; have HW6 := Aside0.mk (Below.grown (below_step HW.out hb1) hg6 (by have := HW.out.size; have := hb1.size; omega) (fun k hk => by have := Kd.R_base HR.out k hk; omega)); clear hr1 hb1 hr6 hg6 ho6)
        | (gi_at_builtin; refine Ap.wpListIn_append_run _ rfl _ _ _ rfl _ _ rfl rfl _ _ hrun ?_))
      exact ⟨⟨i + 1, by simp, hlt, ⟨by rw [HTK.out]; exact HR6.out⟩, HW6⟩, by simp [intOf]; omega⟩
    · obtain rfl : i = bl.length := by omega
      have t1 : decide ((bl.length : Int) < (bl.length : Int)) = false := decide_eq_false (by omega)
      have hr := HR.out
      rw [List.take_length] at hr
      have HR2 := Aside0.mk hr
      clear hr
      gi_wp2
      go_ret
      exact ⟨_, rfl, HR2.out, HW.out⟩
end Go.Proofs.Ytbopccjcehnfnaa.Dk
