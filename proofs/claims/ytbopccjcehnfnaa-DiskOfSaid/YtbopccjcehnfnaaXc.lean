/- Written by a program of this session. The reference's disk: Write. -/
import Derived.Test.YtbopccjcehnfnaaXb
namespace Go.Proofs.Ytbopccjcehnfnaa.Dk
open Go Go.RowKit Go.Shelf Go.Proofs Go.Maps Go.Proofs.Ytbopccjcehnfnaa.Sp Go.Proofs.Ytbopccjcehnfnaa.XFb Go.Proofs.YtbopccjcehnfnaaW.PrintWords Go.Proofs.YtbopccjcehnfnaaW.PrintLast Go.Proofs.YtbopccjcehnfnaaW.PrintMore
set_option linter.unusedVariables false
set_option linter.unusedSimpArgs false
set_option maxRecDepth 100000 in
set_option maxHeartbeats 8000000 in
theorem x_write {W : World} {base X : Nat} {S : Nat → Prop} {bl : List (List Int)} {q : List S32} {fl : List Int} {last : Int} (h : IsX W base X S bl q fl last) (b : Int) (A : Option Addr) (c : Nat) (x : List Int) (hcx : x.length ≤ c) (hC : ∀ W', Kept S W W' → Kd.C (Kd.int .u8) W' A x.length x) (hlast : last + 1 < 1000000000000000000) :
    Calls Try.prog 42 #[.pointer (some ⟨X, 0, none⟩), .int .i64 b, .slice A x.length c] W fun e W' => e = .returned (.tuple #[.int .i64 (if wrE bl q b x.length = 0 then last + 1 else 0), .int .i64 (wrE bl q b x.length)]) ∧
      IsX W' base X (fun k => S k ∨ (W.heap.size ≤ k ∧ k < W'.heap.size)) bl (if wrE bl q b x.length = 0 then q ++ [⟨last + 1, b, x⟩] else q) fl (if wrE bl q b x.length = 0 then last + 1 else last) ∧ Kept S W W' := by
  have H := Aside0.mk h
  have HC := Aside0.mk hC
  obtain ⟨E, hE⟩ : ∃ E, wrE bl q b x.length = E := ⟨_, rfl⟩
  obtain ⟨r0, hr0⟩ : ∃ r, (if E = 0 then last + 1 else 0) = r := ⟨_, rfl⟩
  obtain ⟨q2, hq2⟩ : ∃ r, (if E = 0 then q ++ [⟨last + 1, b, x⟩] else q) = r := ⟨_, rfl⟩
  obtain ⟨l2, hl2⟩ : ∃ r, (if E = 0 then last + 1 else last) = r := ⟨_, rfl⟩
  rw [hE, hr0, hq2, hl2]
  have HEE := Aside0.mk (And.intro hE (And.intro hr0 (And.intro hq2 hl2)))
  have hno : ∀ W', Below W.heap.size W W' → E ≠ 0 → r0 = 0 ∧ IsX W' base X (fun k => S k ∨ (W.heap.size ≤ k ∧ k < W'.heap.size)) bl q2 fl l2 ∧ Kept S W W' := fun W' hb hne => by
    rw [if_neg hne] at hr0 hq2 hl2
    rw [← hq2, ← hl2, ← hr0]
    obtain ⟨hf, hfl, ⟨vB, vQ, vF, hX, hB, hQ, hF⟩, hiX, hlow⟩ := H.out.below hb
    exact ⟨rfl, ⟨hf, hfl, ⟨vB, vQ, vF, hX, Kd.R_mono hB (fun k hk => .inl hk), Kd.R_mono hQ (fun k hk => .inl hk), Kd.R_mono hF (fun k hk => .inl hk)⟩, .inl hiX, fun k hk => by
      rcases hk with hk | hk
      · exact hlow k hk
      · exact ⟨by have := H.out.low X H.out.inX; omega, hk.2⟩⟩, Kept.of_below hb⟩
  have HNO := Aside0.mk hno
  obtain ⟨hf, hfl, ⟨vB, vQ, vF, hX, hB, hQ, hF⟩, hiX, hlow⟩ := h
  have hXlt := (hlow X hiX).2
  have hq64 := hf.queue
  have HQ := Aside0.mk hQ
  obtain ⟨AQ, cQ, hvQ⟩ := Kd.R_slice hQ
  have HX := Aside0.mk hX
  have c1 : W.cell? ⟨X, 1, none⟩ = some (.slice AQ q.length cQ) := by rw [← hvQ]; simp [World.cell?, hX]
  have HVQ := Aside0.mk hvQ
  have hl0 := hf.low
  have HBB := Aside0.mk (Kd.R_apart' (Kd.R_types hB hX (by decide)) (Kd.R_typed hQ) (by decide))
  have HFF := Aside0.mk (Kd.R_apart' (Kd.R_types hF hX (by decide)) (Kd.R_typed hQ) (by decide))
  have HQQ := Aside0.mk (Kd.R_types hQ hX (by decide))
  have HXQ := Aside0.mk (Kd.R_ne hQ hX (by decide) : some X ≠ vQ.ownBlock)
  have HVL := Aside0.mk (fun k hk => (Kd.R_lt hQ k hk : k < W.heap.size))
  have HVS := Aside0.mk (hQ.1 : ∀ k, vQ.ownBlock = some k → S k)
  have HFIT := Aside0.mk (And.intro hf (And.intro hfl hlow))
  clear hB hQ hF hX hno hC hfl hvQ hf hE hr0 hq2 hl2
  refine (callsIn_wide (n := 1)).1 ?_
  refine callsIn_of_wp Try.func42 rfl trivial ?_ rfl
  simp only [Try.ntmps42, List.size_toArray, List.length_cons, List.length_nil, Nat.reduceAdd, Nat.reduceSub, Array.replicate_succ, Array.replicate_zero, List.push_toArray, List.append_toArray, List.nil_append, List.cons_append]
  by_cases h0 : 0 ≤ b ∧ b < bl.length
  · have e0 : decide (0 ≤ b ∧ b < (bl.length : Int)) = true := decide_eq_true h0
    by_cases h1 : x.length = 128
    · have t1 : ((x.length : Int) != 128) = false := bne_eq_false_iff_eq.2 (by omega)
      have hwE : wrE bl q b x.length = if 0 ≤ ixL (fun x : S32 => x.f1 == b) q 0 then 21 else if 64 ≤ q.length then 3 else 0 := by
        unfold wrE
        rw [if_neg (fun hh => hh h0), if_neg (by omega)]
      have HWE := Aside0.mk hwE
      have H1 := Aside0.mk h1
      clear hwE h1
      gi_wp2_with (first
        | (refine ⟨trivial, ?_⟩; gi_at_call 57; refine (callsIn_wide.2 (x_has H.out _)).mono ?_; rintro e w0 ⟨rfl, hw⟩; rw [e0, hw]; clear hw))
      gi_loopw [24] (fun v24 w' => ∃ i : Nat, v24 = .int .i64 (i : Int) ∧ i ≤ q.length ∧ ixL (fun x : S32 => x.f1 == b) q 0 = ixL (fun x : S32 => x.f1 == b) (q.drop i) i ∧ Aside0 (Below W.heap.size W w')) (fun v24 _ => q.length - (intOf v24).toNat)
      case atStart => exact ⟨0, rfl, Nat.zero_le _, rfl, ⟨Below.refl _ _⟩⟩
      case round =>
        obtain ⟨i, rfl, hi, hall, HB⟩ := hrel
        by_cases hlt : i < q.length
        · have t2 : decide ((i : Int) < (q.length : Int)) = true := decide_eq_true (by omega)
          have ew : wrap64 ((i : Int) + 1) = ((i + 1 : Nat) : Int) := by rw [IntWalk.wrap64_in _ (by omega)]; omega
          obtain ⟨gQ, cap, A2, c2, hv, _, _, k0, k1, k2, _, _⟩ := at_sent (Kd.R_below HQ.out HB.out) i hlt
          have hv2 := HVQ.out.symm.trans hv
          injection hv2 with hA _ hc
          subst hA
          subst hc
          have hd : q.drop i = q[i] :: q.drop (i + 1) := List.drop_eq_getElem_cons hlt
          rw [hd] at hall
          generalize q[i] = s at *
          rw [show ixL (fun x : S32 => x.f1 == b) (s :: q.drop (i + 1)) (i : Int) = if (s.f1 == b) = true then (i : Int) else ixL (fun x : S32 => x.f1 == b) (q.drop (i + 1)) ((i : Int) + 1) from rfl] at hall
          have HL := Aside0.mk hall
          have HBX := Aside0.mk (below_alloc HB.out (.cells #[.int .i64 s.f0, .int .i64 s.f1, .slice A2 s.f2.length c2] 32))
          clear hall hd hv
          cases hn : (s.f1 == b) with
          | true =>
            have HL' := HL.out
            rw [if_pos hn] at HL'
            have HE := Aside0.mk (show E = 21 by rw [← HEE.out.1]; rw [HWE.out, HL', if_pos (by omega)])
            clear HL' HL
            gi_wp2
            refine bodyPost_ret (results_tmp2 rfl _ _ _) rfl ?_
            have h2 := HNO.out _ HBX.out (by rw [HE.out]; decide)
            exact ⟨by rw [h2.1, HE.out]; rfl, h2.2.1, h2.2.2⟩
          | false =>
            have HL' := HL.out
            rw [if_neg (by rw [hn]; simp)] at HL'
            have HL2 := Aside0.mk HL'
            clear HL' HL
            gi_wp2
            exact ⟨⟨i + 1, by simp, hlt, HL2.out.trans (congrArg (ixL (fun x : S32 => x.f1 == b) _) (by omega)), HBX⟩, by simp [intOf]; omega⟩
        · obtain rfl : i = q.length := by omega
          have t2 : decide ((q.length : Int) < (q.length : Int)) = false := decide_eq_false (by omega)
          rw [List.drop_length] at hall
          have hix : ¬ 0 ≤ ixL (fun x : S32 => x.f1 == b) q 0 := by rw [hall]; show ¬ 0 ≤ (-1 : Int); decide
          have HWE2 := Aside0.mk (HWE.out.trans (if_neg hix))
          have c1r : wr.cell? ⟨X, 1, none⟩ = some (.slice AQ q.length cQ) := (HB.out.cell (p := ⟨X, 1, none⟩) hXlt).trans c1
          have HXr := Aside0.mk ((HB.out.block X hXlt).trans HX.out)
          have c3r : wr.cell? ⟨X, 3, none⟩ = some (.int .i64 last) := by simp [World.cell?, HXr.out]
          have f3r : wr.frozen? ⟨X, 3, none⟩ = false := by simp [World.frozen?, HXr.out]
          clear hall hix HWE
          by_cases h3 : 64 ≤ q.length
          · have t3 : decide ((64 : Int) ≤ (q.length : Int)) = true := decide_eq_true (by omega)
            have HE := Aside0.mk (show E = 3 by rw [← HEE.out.1]; rw [HWE2.out, if_pos h3])
            gi_wp2
            refine bodyPost_ret (results_tmp2 rfl _ _ _) rfl ?_
            have h2 := HNO.out _ HB.out (by rw [HE.out]; decide)
            exact ⟨by rw [h2.1, HE.out]; rfl, h2.2.1, h2.2.2⟩
          · have t3 : decide ((64 : Int) ≤ (q.length : Int)) = false := decide_eq_false (by omega)
            have HE := Aside0.mk (show E = 0 by rw [← HEE.out.1]; rw [HWE2.out, if_neg h3])
            have ew : wrap64 (last + 1) = last + 1 := IntWalk.wrap64_in _ (by omega)
            have HL3 := Aside0.mk hlast
            have H3 := Aside0.mk h3
            have HL0 := Aside0.mk hl0
            gi_wp2
            clear ew
            have hvQ := HVQ.out
            subst hvQ
            have hX3 : (wr.setCell ⟨X, 3, none⟩ (.int .i64 (last + 1))).heap[X]? = some (.cells #[vB, .slice AQ q.length cQ, vF, .int .i64 (last + 1)] 81 (0, 0)) := Go.Proofs.Ytbopccjcehnfnaa.Nb.set_heap HXr.out _
            have hk3 : ∀ j, j < W.heap.size → j ≠ X → (wr.setCell ⟨X, 3, none⟩ (.int .i64 (last + 1))).heap[j]? = W.heap[j]? := fun j hj hn => (Below.heap_setCell wr ⟨X, 3, none⟩ _ j hn).trans (HB.out.block j hj)
            have hK3 : Kept S W (wr.setCell ⟨X, 3, none⟩ (.int .i64 (last + 1))) := (Kept.of_below HB.out).trans (kept_set wr ⟨X, 3, none⟩ _ S hiX) (fun j hj => .inl hj)
            have hlow := HFIT.out.2.2
            generalize wr.setCell ⟨X, 3, none⟩ (.int .i64 (last + 1)) = W3 at *
            have hbd : Below W3.heap.size W3 W3.drew := below_drew (Below.refl _ _)
            have hK3d : Kept S W W3.drew := hK3.trans (Kept.of_below (S := S) hbd) (fun j hj => .inl hj)
            have hsd : W3.drew.heap.size = W3.heap.size := rfl
            have hsW := hK3.size
            have hcl := bollardref02_copied.calls A c x x W3.drew (HC.out _ hK3d) hcx (copied_f x (by have := H1.out; omega))
            have HX3 := Aside0.mk (show W3.drew.heap[X]? = some (.cells #[vB, .slice AQ q.length cQ, vF, .int .i64 (last + 1)] 81 (0, 0)) from hX3)
            have hX3lt : X < W3.drew.heap.size := by omega
            have HQ3 := Aside0.mk (Kd.R_mono (Kd.R_step HQQ.out (fun j hj hlt => (hk3 j hlt hj.2 : W3.drew.heap[j]? = W.heap[j]?))) (fun j hj => ⟨hj.2, .inl hj.1⟩) : Kd.R k32 32 W3.drew base (fun k => k ≠ X ∧ (S k ∨ W3.drew.heap.size ≤ k)) (.slice AQ q.length cQ) q)
            have hbase3 : base ≤ W3.drew.heap.size := by have := (hlow X hiX).1; omega
            have hvQlt : ∀ k, (Value.slice AQ q.length cQ).ownBlock = some k → k < W3.drew.heap.size := fun k hk => by have := HVL.out k hk; omega
            have hXQ := HXQ.out
            have y1 : W3.drew.cell? ⟨X, 1, none⟩ = some (.slice AQ q.length cQ) := show W3.cell? _ = _ by simp [World.cell?, hX3]
            have y3 : W3.drew.cell? ⟨X, 3, none⟩ = some (.int .i64 (last + 1)) := show W3.cell? _ = _ by simp [World.cell?, hX3]
            have HK3 := Aside0.mk hK3d
            have HKK := Aside0.mk hk3
            have hq63 : q.length < 64 := by have := H3.out; omega
            clear hK3 hK3d hbd hX3 hk3 c1 c1r c3r f3r
            refine wpIn_wide.2 ?_
            refine start_ (n := 18) (S := fun w' => w'.cell? ⟨X, 1, none⟩ = some (.slice AQ q.length cQ) ∧ w'.cell? ⟨X, 3, none⟩ = some (.int .i64 (last + 1))) (ds := [17]) #[false, false, false, false, false, false, false, false, false, false, false, false, false, false, false, false, false, false] (by kernel_rfl) rfl rfl ⟨y1, y3⟩ (fun hHeld => ?_)
            refine pure_ (i := 0) (N := some 46) (v := ?_) (a' := ?_) #[true, false, false, false, false, false, false, false, false, false, false, false, false, false, false, false, false, false] rfl rfl (by kernel_rfl) (fun _ _ _ h => h) (Or.inl ⟨by rfl, ?_⟩) ?_ ?_
            rotate_left
            · intro w'
              go_simp
              with_reducible rfl
            rotate_left
            · simp only [Act.put, List.setIfInBounds_toArray, List.set_cons_zero, List.set_cons_succ, i64_w, i32_w]
              rfl
            refine pure_ (i := 1) (N := some 47) (v := ?_) (a' := ?_) #[true, true, false, false, false, false, false, false, false, false, false, false, false, false, false, false, false, false] rfl rfl (by kernel_rfl) (fun _ _ _ h => h) (Or.inl ⟨by rfl, ?_⟩) ?_ ?_
            rotate_left
            · intro w'
              go_simp
              with_reducible rfl
            rotate_left
            · simp only [Act.put, List.setIfInBounds_toArray, List.set_cons_zero, List.set_cons_succ, i64_w, i32_w]
              rfl
            refine pure_ (i := 2) (N := some 48) (v := ?_) (a' := ?_) #[true, true, true, false, false, false, false, false, false, false, false, false, false, false, false, false, false, false] rfl rfl (by kernel_rfl) (fun _ _ _ h => h) (Or.inl ⟨by rfl, ?_⟩) ?_ ?_
            rotate_left
            · intro w'
              go_simp
              with_reducible rfl
            rotate_left
            · simp only [Act.put, List.setIfInBounds_toArray, List.set_cons_zero, List.set_cons_succ, i64_w, i32_w]
              rfl
            refine pure_ (i := 3) (N := some 49) (v := ?_) (a' := ?_) #[true, true, true, true, false, false, false, false, false, false, false, false, false, false, false, false, false, false] rfl rfl (by kernel_rfl) (fun _ _ _ h => h) (Or.inl ⟨by rfl, ?_⟩) ?_ ?_
            rotate_left
            · intro w'
              go_simp
              with_reducible rfl
            rotate_left
            · simp only [Act.put, List.setIfInBounds_toArray, List.set_cons_zero, List.set_cons_succ, i64_w, i32_w]
              rfl
            refine pure_ (i := 5) (N := some 51) (v := ?_) (a' := ?_) #[true, true, true, true, false, true, false, false, false, false, false, false, false, false, false, false, false, false] rfl rfl (by kernel_rfl) (fun _ _ _ h => h) (Or.inl ⟨by rfl, ?_⟩) ?_ ?_
            rotate_left
            · intro w'
              go_simp
              with_reducible rfl
            rotate_left
            · simp only [Act.put, List.setIfInBounds_toArray, List.set_cons_zero, List.set_cons_succ, i64_w, i32_w]
              rfl
            refine pure_ (i := 6) (N := some 52) (v := ?_) (a' := ?_) #[true, true, true, true, false, true, true, false, false, false, false, false, false, false, false, false, false, false] rfl rfl (by kernel_rfl) (fun _ _ _ h => h) (Or.inl ⟨by rfl, ?_⟩) ?_ ?_
            rotate_left
            · intro w'
              go_simp
              with_reducible rfl
            rotate_left
            · simp only [Act.put, List.setIfInBounds_toArray, List.set_cons_zero, List.set_cons_succ, i64_w, i32_w]
              rfl
            refine pure_ (i := 7) (N := some 53) (v := ?_) (a' := ?_) #[true, true, true, true, false, true, true, true, false, false, false, false, false, false, false, false, false, false] rfl rfl (by kernel_rfl) (fun _ _ _ h => h) (Or.inl ⟨by rfl, ?_⟩) ?_ ?_
            rotate_left
            · intro w'
              go_simp
              with_reducible rfl
            rotate_left
            · simp only [Act.put, List.setIfInBounds_toArray, List.set_cons_zero, List.set_cons_succ, i64_w, i32_w]
              rfl
            refine pure_ (i := 9) (N := some 55) (v := ?_) (a' := ?_) #[true, true, true, true, false, true, true, true, false, true, false, false, false, false, false, false, false, false] rfl rfl (by kernel_rfl) (fun _ _ _ h => h) (Or.inl ⟨by rfl, ?_⟩) ?_ ?_
            rotate_left
            · intro w'
              go_simp
              with_reducible rfl
            rotate_left
            · simp only [Act.put, List.setIfInBounds_toArray, List.set_cons_zero, List.set_cons_succ, i64_w, i32_w]
              rfl
            refine pure_ (i := 10) (N := some 56) (v := ?_) (a' := ?_) #[true, true, true, true, false, true, true, true, false, true, true, false, false, false, false, false, false, false] rfl rfl (by kernel_rfl) (fun _ _ _ h => h) (Or.inl ⟨by rfl, ?_⟩) ?_ ?_
            rotate_left
            · intro w'
              go_simp
              with_reducible rfl
            rotate_left
            · simp only [Act.put, List.setIfInBounds_toArray, List.set_cons_zero, List.set_cons_succ, i64_w, i32_w]
              rfl
            refine take_ (i := 4) (N := some 50) (v := ?_) (a' := ?_) #[true, true, true, true, true, true, true, true, false, true, true, false, false, false, false, false, false, false] rfl rfl (by kernel_rfl) (fun _ _ _ h => h) (Or.inl ⟨by rfl, ?_⟩) hHeld ?_ ?_
            rotate_left
            · rintro w' ⟨s0, s1⟩
              go_simp
              with_reducible rfl
            rotate_left
            · simp only [Act.put, List.setIfInBounds_toArray, List.set_cons_zero, List.set_cons_succ, i64_w, i32_w]
              rfl
            refine take_ (i := 8) (N := some 54) (v := ?_) (a' := ?_) #[true, true, true, true, true, true, true, true, true, true, true, false, false, false, false, false, false, false] rfl rfl (by kernel_rfl) (fun _ _ _ h => h) (Or.inl ⟨by rfl, ?_⟩) hHeld ?_ ?_
            rotate_left
            · rintro w' ⟨s0, s1⟩
              go_simp
              with_reducible rfl
            rotate_left
            · simp only [Act.put, List.setIfInBounds_toArray, List.set_cons_zero, List.set_cons_succ, i64_w, i32_w]
              rfl
            refine one_ (i := 11) (N := some 57) #[true, true, true, true, true, true, true, true, true, true, true, true, false, false, false, false, false, false] rfl rfl (by kernel_rfl) (by decide) (fun K hK => ?_)
            refine goes_ Try.func53 (by kernel_rfl) rfl #[.slice A x.length c] (by rfl) rfl rfl (by simp only [List.map_toArray, List.map_cons, List.map_nil]; rfl) ?_
            with_reducible refine (hcl).mono ?_
            rintro e w4 ⟨v0, rfl, hr1, hb1⟩
            refine ⟨_, rfl, ?_⟩
            obtain ⟨A1, c1, rfl⟩ := Kd.R_slice hr1
            have HX4 := Aside0.mk ((hb1.block X hX3lt).trans HX3.out)
            have HR4 := Aside0.mk hr1
            have HQ4 := Aside0.mk (Kd.R_below HQ3.out hb1)
            have HB4 := Aside0.mk hb1
            clear hr1 hb1
            refine hK.out _ _ ⟨(show w4.cell? ⟨X, 1, none⟩ = _ by simp [World.cell?, HX4.out]), (show w4.cell? ⟨X, 3, none⟩ = _ by simp [World.cell?, HX4.out])⟩ (fun hHeld => ?_)
            clear hK K
            refine norm_ (a' := ?_) ?_ ?_
            rotate_left
            · show Act.put _ (some 57) _ = _
              simp only [Act.put, List.setIfInBounds_toArray, List.set_cons_zero, List.set_cons_succ, i64_w, i32_w]
              rfl
            refine pure_ (i := 12) (N := some 58) (v := ?_) (a' := ?_) #[true, true, true, true, true, true, true, true, true, true, true, true, true, false, false, false, false, false] rfl rfl (by kernel_rfl) (fun _ _ _ h => h) (Or.inl ⟨by rfl, ?_⟩) ?_ ?_
            rotate_left
            · intro w'
              go_simp
              with_reducible rfl
            rotate_left
            · simp only [Act.put, List.setIfInBounds_toArray, List.set_cons_zero, List.set_cons_succ, i64_w, i32_w]
              rfl
            refine one_ (i := 13) (N := some 59) #[true, true, true, true, true, true, true, true, true, true, true, true, true, true, false, false, false, false] rfl rfl (by kernel_rfl) (by decide) (fun K hK => ?_)
            refine value_ (w1 := ?_) (v := ?_) (by rfl) rfl ?_ ?_
            rotate_left 2
            · go_simp
              constructor
              · rfl
              · rfl
            refine hK.out _ _ ⟨(show (w4.alloc (.cells #[.int .i64 (last + 1), .int .i64 b, .slice A1 x.length c1] 32)).cell? ⟨X, 1, none⟩ = _ by simp [World.cell?, heap_alloc_old _ _ _ (show X < w4.heap.size by have := HB4.out.size; omega), HX4.out]), (show (w4.alloc (.cells #[.int .i64 (last + 1), .int .i64 b, .slice A1 x.length c1] 32)).cell? ⟨X, 3, none⟩ = _ by simp [World.cell?, heap_alloc_old _ _ _ (show X < w4.heap.size by have := HB4.out.size; omega), HX4.out])⟩ (fun hHeld => ?_)
            clear hK K
            refine norm_ (a' := ?_) ?_ ?_
            rotate_left
            · show Act.put _ (some 59) _ = _
              simp only [Act.put, List.setIfInBounds_toArray, List.set_cons_zero, List.set_cons_succ, i64_w, i32_w]
              rfl
            refine one_ (i := 14) (N := some 60) #[true, true, true, true, true, true, true, true, true, true, true, true, true, true, true, false, false, false] rfl rfl (by kernel_rfl) (by decide) (fun K hK => ?_)
            refine Kd.R_append_step k32 (w0 := W3.drew) base (by rfl) (.tmp 50) (.tmp 59) 28 32 _ _ rfl Try.underlying28 info32 rfl (by decide) (by decide) (.slice AQ q.length cQ) q ⟨last + 1, b, x⟩ [_, _, _] (fun k => k ≠ X ∧ (S k ∨ W3.drew.heap.size ≤ k)) (fun k => W3.drew.heap.size ≤ k) rfl rfl (k32_mkM _ _ _ ⟨last + 1, b, x⟩ (Kd.R_mono (Kd.R_lower (Kd.R_bound HR4.out) hbase3) (fun k hk => hk.2.1))) ?okp ?fresh HQ4.out ?below ?base ?room ?_
            case okp => exact fun k hk => ⟨⟨fun e => by omega, .inr (by omega)⟩, fun e => by have := hvQlt k e.symm; omega⟩
            case fresh => exact fun k hk => by have := HB4.out.size; exact ⟨fun e => by omega, .inr (by omega)⟩
            case below => exact ⟨HB4.out.os, HB4.out.tape, HB4.out.output, HB4.out.size, fun k hk => HB4.out.block k (by omega)⟩
            case base => have := HB4.out.size; omega
            case room => omega
            intro v5 w5 hr5 hb5 hg5 ht5
            obtain ⟨ad5, cp5, rfl⟩ := Kd.R_slice1 hr5 (by simp)
            have HX5 := Aside0.mk ((hg5.block X (by have := HB4.out.size; omega) (fun e => hXQ e)).trans HX4.out)
            have HR5 := Aside0.mk hr5
            have HG5 := Aside0.mk hg5
            have c5 : w5.cell? ⟨X, 1, none⟩ = some (.slice AQ q.length cQ) := (by simp [World.cell?, HX5.out])
            have f5 : w5.frozen? ⟨X, 1, none⟩ = false := (by simp [World.frozen?, HX5.out])
            clear hr5 hb5 hg5 ht5
            refine hK.out _ _ ⟨(show w5.cell? ⟨X, 1, none⟩ = _ by simp [World.cell?, HX5.out]), (show w5.cell? ⟨X, 3, none⟩ = _ by simp [World.cell?, HX5.out])⟩ (fun hHeld => ?_)
            clear hK K
            refine norm_ (a' := ?_) ?_ ?_
            rotate_left
            · show Act.put _ (some 60) _ = _
              simp only [Act.put, List.setIfInBounds_toArray, List.set_cons_zero, List.set_cons_succ, i64_w, i32_w]
              rfl
            refine pure_ (i := 15) (N := some 61) (v := ?_) (a' := ?_) #[true, true, true, true, true, true, true, true, true, true, true, true, true, true, true, true, false, false] rfl rfl (by kernel_rfl) (fun _ _ _ h => h) (Or.inl ⟨by rfl, ?_⟩) ?_ ?_
            rotate_left
            · intro w'
              go_simp
              with_reducible rfl
            rotate_left
            · simp only [Act.put, List.setIfInBounds_toArray, List.set_cons_zero, List.set_cons_succ, i64_w, i32_w]
              rfl
            refine pure_ (i := 16) (N := some 62) (v := ?_) (a' := ?_) #[true, true, true, true, true, true, true, true, true, true, true, true, true, true, true, true, true, false] rfl rfl (by kernel_rfl) (fun _ _ _ h => h) (Or.inl ⟨by rfl, ?_⟩) ?_ ?_
            rotate_left
            · intro w'
              go_simp
              with_reducible rfl
            rotate_left
            · simp only [Act.put, List.setIfInBounds_toArray, List.set_cons_zero, List.set_cons_succ, i64_w, i32_w]
              rfl
            refine last_ (i := 17) (N := none) #[true, true, true, true, true, true, true, true, true, true, true, true, true, true, true, true, true, true] rfl rfl (by kernel_rfl) (by decide) (fun K hK => ?_)
            refine skip_ (w1 := ?_) (by rfl) rfl ?_ ?_
            rotate_left
            · go_simp
              rfl
            refine hK.out _ _ ?_
            clear hK K
            refine done_ (by kernel_rfl) ?_
            have hR5 := HR5.out
            rw [List.length_append, List.length_singleton] at hR5
            have hs4 := HB4.out.size
            have hs5 := HG5.out.size
            have hk5 : ∀ j, j < W.heap.size → j ≠ X → some j ≠ (Value.slice AQ q.length cQ).ownBlock → w5.heap[j]? = W.heap[j]? := fun j hj h1 h2 => (HG5.out.block j (by omega) h2).trans ((HB4.out.block j (by omega)).trans (HKK.out j hj h1))
            have hB5 := Kd.R_mono (Kd.R_step HBB.out (fun j hj hlt => hk5 j hlt hj.1.2 hj.2)) (fun j hj => (.inl hj.1.1 : S j ∨ (W.heap.size ≤ j ∧ j < w5.heap.size)))
            have hF5 := Kd.R_mono (Kd.R_step HFF.out (fun j hj hlt => hk5 j hlt hj.1.2 hj.2)) (fun j hj => (.inl hj.1.1 : S j ∨ (W.heap.size ≤ j ∧ j < w5.heap.size)))
            have hQ5 : Kd.R k32 32 w5 base (fun j => S j ∨ (W.heap.size ≤ j ∧ j < w5.heap.size)) (.slice (some ad5) (q.length + 1) cp5) (q ++ [⟨last + 1, b, x⟩]) := Kd.R_mono (Kd.R_bound hR5) (fun j hj => by
              rcases hj.1.2 with h | h
              · exact .inl h
              · exact .inr ⟨by omega, hj.2.2.1⟩)
            have hi6 := x_putQ (vQ := .slice (some ad5) (q.length + 1) cp5) (last := last + 1) HX5.out hB5 hQ5 hF5 ⟨HFIT.out.1.some, HFIT.out.1.most, HFIT.out.1.each, by rw [List.length_append, List.length_singleton]; omega, fun s hs => by
              rcases List.mem_append.1 hs with hs | hs
              · exact HFIT.out.1.sent s hs
              · rw [List.mem_singleton.1 hs]; exact H1.out, fun s hs => by
              rcases List.mem_append.1 hs with hs | hs
              · exact HFIT.out.1.in_ s hs
              · rw [List.mem_singleton.1 hs]; exact h0, by have := HL0.out; show 0 ≤ last + 1; omega, HL3.out⟩ HFIT.out.2.1 (.inl hiX) (fun k hk => by
              rcases hk with hk | hk
              · have := hlow k hk; omega
              · have := (hlow X hiX).1; omega)
            have hK6 : Kept S W (w5.setCell ⟨X, 1, none⟩ (.slice (some ad5) (q.length + 1) cp5)) := ((HK3.out.trans (Kept.of_below (S := S) HB4.out) (fun j hj => .inl hj)).trans (Kept.of_grown (S := S) HG5.out HVS.out) (fun j hj => .inl hj)).trans (kept_set w5 ⟨X, 1, none⟩ _ S hiX) (fun j hj => .inl hj)
            have c63 : (w5.setCell ⟨X, 1, none⟩ (.slice (some ad5) (q.length + 1) cp5)).cell? ⟨X, 3, none⟩ = some (.int .i64 (last + 1)) := by
              have := Go.Proofs.Ytbopccjcehnfnaa.Nb.set_heap HX5.out (o := 1) (.slice (some ad5) (q.length + 1) cp5)
              simp [World.cell?, this]
            have hs6 : (w5.setCell ⟨X, 1, none⟩ (.slice (some ad5) (q.length + 1) cp5)).heap.size = w5.heap.size := by simp [World.setCell]
            have HI6 := Aside0.mk (hs6 ▸ hi6 : IsX (w5.setCell ⟨X, 1, none⟩ (.slice (some ad5) (q.length + 1) cp5)) base X (fun k => S k ∨ (W.heap.size ≤ k ∧ k < (w5.setCell ⟨X, 1, none⟩ (.slice (some ad5) (q.length + 1) cp5)).heap.size)) bl (q ++ [⟨last + 1, b, x⟩]) fl (last + 1))
            have HK6 := Aside0.mk hK6
            clear hi6 hK6 hs6 hB5 hF5 hQ5 hR5 hk5
            generalize w5.setCell ⟨X, 1, none⟩ (.slice (some ad5) (q.length + 1) cp5) = W6 at *
            gi_wp2
            refine bodyPost_ret (results_tmp2 rfl _ _ _) rfl ?_
            obtain ⟨_, hr0, hq2, hl2⟩ := HEE.out
            rw [if_pos HE.out] at hr0 hq2 hl2
            rw [← hr0, ← hq2, ← hl2, HE.out]
            exact ⟨rfl, HI6.out, HK6.out⟩
    · have t1 : ((x.length : Int) != 128) = true := bne_iff_ne.mpr (by omega)
      have HE := Aside0.mk (show E = 1 by rw [← HEE.out.1]; unfold wrE; rw [if_neg (fun hh => hh h0), if_pos h1])
      gi_wp2_with (first
        | (refine ⟨trivial, ?_⟩; gi_at_call 57; refine (callsIn_wide.2 (x_has H.out _)).mono ?_; rintro e w0 ⟨rfl, hw⟩; rw [e0, hw]; clear hw))
      refine bodyPost_ret (results_tmp2 rfl _ _ _) rfl ?_
      have h2 := HNO.out _ (Below.refl _ _) (by rw [HE.out]; decide)
      exact ⟨by rw [h2.1, HE.out]; rfl, h2.2.1, h2.2.2⟩
  · have e0 : decide (0 ≤ b ∧ b < (bl.length : Int)) = false := decide_eq_false h0
    have HE := Aside0.mk (show E = 1 by rw [← HEE.out.1]; unfold wrE; rw [if_pos h0])
    gi_wp2_with (first
      | (refine ⟨trivial, ?_⟩; gi_at_call 57; refine (callsIn_wide.2 (x_has H.out _)).mono ?_; rintro e w0 ⟨rfl, hw⟩; rw [e0, hw]; clear hw))
    refine bodyPost_ret (results_tmp2 rfl _ _ _) rfl ?_
    have h2 := HNO.out _ (Below.refl _ _) (by rw [HE.out]; decide)
    exact ⟨by rw [h2.1, HE.out]; rfl, h2.2.1, h2.2.2⟩
end Go.Proofs.Ytbopccjcehnfnaa.Dk
