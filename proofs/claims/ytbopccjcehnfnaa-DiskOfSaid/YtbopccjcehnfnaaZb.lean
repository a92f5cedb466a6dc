/- Written by a program of this session. Copy of both disks. -/
import Derived.Test.YtbopccjcehnfnaaYb
namespace Go.Proofs.Ytbopccjcehnfnaa.Dk
open Go Go.RowKit Go.Shelf Go.Proofs Go.Maps Go.Proofs.Ytbopccjcehnfnaa.Sp Go.Proofs.Ytbopccjcehnfnaa.XFb Go.Proofs.YtbopccjcehnfnaaW.PrintWords Go.Proofs.YtbopccjcehnfnaaW.PrintLast Go.Proofs.YtbopccjcehnfnaaW.PrintMore
set_option linter.unusedVariables false
set_option linter.unusedSimpArgs false
set_option maxRecDepth 100000 in
set_option maxHeartbeats 8000000 in
theorem x_copy {W : World} {base X : Nat} {S : Nat → Prop} {bl : List (List Int)} {q : List S32} {fl : List Int} {last : Int} (h : IsX W base X S bl q fl last) :
    Calls Try.prog 28 #[.pointer (some ⟨X, 0, none⟩)] W fun e W' => ∃ Y, e = .returned (.pointer (some ⟨Y, 0, none⟩)) ∧ IsX W' W.heap.size Y (fun k => W.heap.size ≤ k ∧ k < W'.heap.size) bl q fl last ∧ Below W.heap.size W W' := by
  have H := Aside0.mk h
  obtain ⟨hf, hfl, ⟨vB, vQ, vF, hX, hB, hQ, hF⟩, hiX, hlow⟩ := h
  obtain ⟨AF, cF, rfl⟩ := Kd.R_slice hF
  have hXlt := (hlow X hiX).2
  have hCF := (Kd.R_reads' hF).2.2
  have hm := hf.most
  have hq := hf.queue
  have hflm : fl.length ≤ 2048 := by omega
  have hcI : ∀ W1, Below W.heap.size W W1 → Calls Try.prog 49 #[.pointer (some ⟨X, 0, none⟩)] W1 (fun e w' => ∃ v, e = .returned v ∧ Kd.R (Kd.slice 5 (Kd.int .u8)) 30 w' W.heap.size (fun _ => True) v bl ∧ Below W1.heap.size W1 w' ∧ W.heap.size ≤ w'.heap.size) := fun W1 hb1 => by
    refine (x_image (H.out.below hb1)).mono ?_
    rintro e w' ⟨v, rfl, hs, hb⟩
    exact ⟨v, rfl, Kd.R_lower hs hb1.size, hb, Nat.le_trans hb1.size hb.size⟩
  have hc2 : ∀ W1, Below W.heap.size W W1 → W1.cell? ⟨X, 2, none⟩ = some (.slice AF fl.length cF) := fun W1 hb1 => by simp [World.cell?, hb1.block X hXlt, hX]
  have hc3 : ∀ W1, Below W.heap.size W W1 → W1.cell? ⟨X, 3, none⟩ = some (.int .i64 last) := fun W1 hb1 => by simp [World.cell?, hb1.block X hXlt, hX]
  obtain ⟨AQ, cQ, hvQ⟩ := Kd.R_slice hQ
  have hc1 : ∀ W1, Below W.heap.size W W1 → W1.cell? ⟨X, 1, none⟩ = some (.slice AQ q.length cQ) := fun W1 hb1 => by rw [← hvQ]; simp [World.cell?, hb1.block X hXlt, hX]
  have HQ := Aside0.mk hQ
  have HVQ := Aside0.mk hvQ
  have HFIT := Aside0.mk (And.intro hf hfl)
  clear hB hQ hF hX hf hlow hvQ hfl
  refine (callsIn_wide (n := 1)).1 ?_
  refine callsIn_of_wp Try.func28 rfl trivial ?_ rfl
  simp only [Try.ntmps28, List.size_toArray, List.length_cons, List.length_nil, Nat.reduceAdd, Nat.reduceSub, Array.replicate_succ, Array.replicate_zero, List.push_toArray, List.append_toArray, List.nil_append, List.cons_append]
  gi_wp2
  have HB := Aside0.mk (below_drew (Below.refl W.heap.size W))
  refine wpIn_wide.2 ?_
  refine start_ (n := 15) (S := fun w' => w'.cell? ⟨X, 2, none⟩ = some (.slice AF fl.length cF) ∧ w'.cell? ⟨X, 3, none⟩ = some (.int .i64 last)) (ds := []) #[false, false, false, false, false, false, false, false, false, false, false, false, false, false, false] (by kernel_rfl) rfl rfl ⟨(hc2 _ HB.out), (hc3 _ HB.out)⟩ (fun hHeld => ?_)
  refine pure_ (i := 0) (N := some 6) (v := ?_) (a' := ?_) #[true, false, false, false, false, false, false, false, false, false, false, false, false, false, false] rfl rfl (by kernel_rfl) (fun _ _ _ h => h) (Or.inl ⟨by rfl, ?_⟩) ?_ ?_
  rotate_left
  · intro w'
    go_simp
    with_reducible rfl
  rotate_left
  · simp only [Act.put, List.setIfInBounds_toArray, List.set_cons_zero, List.set_cons_succ, i64_w, i32_w]
    rfl
  refine pure_ (i := 2) (N := some 8) (v := ?_) (a' := ?_) #[true, false, true, false, false, false, false, false, false, false, false, false, false, false, false] rfl rfl (by kernel_rfl) (fun _ _ _ h => h) (Or.inl ⟨by rfl, ?_⟩) ?_ ?_
  rotate_left
  · intro w'
    go_simp
    with_reducible rfl
  rotate_left
  · simp only [Act.put, List.setIfInBounds_toArray, List.set_cons_zero, List.set_cons_succ, i64_w, i32_w]
    rfl
  refine pure_ (i := 3) (N := some 9) (v := ?_) (a' := ?_) #[true, false, true, true, false, false, false, false, false, false, false, false, false, false, false] rfl rfl (by kernel_rfl) (fun _ _ _ h => h) (Or.inl ⟨by rfl, ?_⟩) ?_ ?_
  rotate_left
  · intro w'
    go_simp
    with_reducible rfl
  rotate_left
  · simp only [Act.put, List.setIfInBounds_toArray, List.set_cons_zero, List.set_cons_succ, i64_w, i32_w]
    rfl
  refine pure_ (i := 4) (N := some 10) (v := ?_) (a' := ?_) #[true, false, true, true, true, false, false, false, false, false, false, false, false, false, false] rfl rfl (by kernel_rfl) (fun _ _ _ h => h) (Or.inl ⟨by rfl, ?_⟩) ?_ ?_
  rotate_left
  · intro w'
    go_simp
    with_reducible rfl
  rotate_left
  · simp only [Act.put, List.setIfInBounds_toArray, List.set_cons_zero, List.set_cons_succ, i64_w, i32_w]
    rfl
  refine pure_ (i := 7) (N := some 13) (v := ?_) (a' := ?_) #[true, false, true, true, true, false, false, true, false, false, false, false, false, false, false] rfl rfl (by kernel_rfl) (fun _ _ _ h => h) (Or.inl ⟨by rfl, ?_⟩) ?_ ?_
  rotate_left
  · intro w'
    go_simp
    with_reducible rfl
  rotate_left
  · simp only [Act.put, List.setIfInBounds_toArray, List.set_cons_zero, List.set_cons_succ, i64_w, i32_w]
    rfl
  refine pure_ (i := 8) (N := some 14) (v := ?_) (a' := ?_) #[true, false, true, true, true, false, false, true, true, false, false, false, false, false, false] rfl rfl (by kernel_rfl) (fun _ _ _ h => h) (Or.inl ⟨by rfl, ?_⟩) ?_ ?_
  rotate_left
  · intro w'
    go_simp
    with_reducible rfl
  rotate_left
  · simp only [Act.put, List.setIfInBounds_toArray, List.set_cons_zero, List.set_cons_succ, i64_w, i32_w]
    rfl
  refine pure_ (i := 9) (N := some 15) (v := ?_) (a' := ?_) #[true, false, true, true, true, false, false, true, true, true, false, false, false, false, false] rfl rfl (by kernel_rfl) (fun _ _ _ h => h) (Or.inl ⟨by rfl, ?_⟩) ?_ ?_
  rotate_left
  · intro w'
    go_simp
    with_reducible rfl
  rotate_left
  · simp only [Act.put, List.setIfInBounds_toArray, List.set_cons_zero, List.set_cons_succ, i64_w, i32_w]
    rfl
  refine take_ (i := 5) (N := some 11) (v := ?_) (a' := ?_) #[true, false, true, true, true, true, false, true, true, true, false, false, false, false, false] rfl rfl (by kernel_rfl) (fun _ _ _ h => h) (Or.inl ⟨by rfl, ?_⟩) hHeld ?_ ?_
  rotate_left
  · rintro w' ⟨s0, s1⟩
    go_simp
    with_reducible rfl
  rotate_left
  · simp only [Act.put, List.setIfInBounds_toArray, List.set_cons_zero, List.set_cons_succ, i64_w, i32_w]
    rfl
  refine take_ (i := 10) (N := some 16) (v := ?_) (a' := ?_) #[true, false, true, true, true, true, false, true, true, true, true, false, false, false, false] rfl rfl (by kernel_rfl) (fun _ _ _ h => h) (Or.inl ⟨by rfl, ?_⟩) hHeld ?_ ?_
  rotate_left
  · rintro w' ⟨s0, s1⟩
    go_simp
    with_reducible rfl
  rotate_left
  · simp only [Act.put, List.setIfInBounds_toArray, List.set_cons_zero, List.set_cons_succ, i64_w, i32_w]
    rfl
  refine join_ (σ := Value × Value) 4 #[true, true, true, true, true, true, true, true, true, true, true, false, false, false, false] (fun s => [(7, s.1), (12, s.2)]) (fun s w' => Kd.R (Kd.slice 5 (Kd.int .u8)) 30 w' W.heap.size (fun _ => True) s.1 bl ∧ Kd.R (Kd.int .i64) 3 w' W.heap.size (fun _ => True) s.2 [] ∧ Below W.heap.size W w') ?_ ?_
  rotate_left
  · intro hCont
    refine two_ (i := 1) (j := 6) (Ni := some 7) (Nj := some 12) #[true, true, true, true, true, true, false, true, true, true, true, false, false, false, false] #[true, false, true, true, true, true, true, true, true, true, true, false, false, false, false] rfl rfl rfl rfl (by kernel_rfl) (by decide) (by decide) (fun K hK => ?_) (fun K hK => ?_)
    · skip
      refine goes_ Try.func49 (by kernel_rfl) rfl #[.pointer (some ⟨X, 0, none⟩)] (by rfl) rfl rfl (by simp only [List.map_toArray, List.map_cons, List.map_nil]; rfl) ?_
      with_reducible refine ((hcI _ HB.out)).mono ?_
      rintro e w4 ⟨v4, rfl, hr, hb, hl⟩
      refine ⟨_, rfl, ?_⟩
      have HR4 := Aside0.mk hr
      have nHB_ := Aside0.mk (below_step HB.out hb)
      clear HB
      have HB := nHB_
      clear nHB_
      clear hr hb hl
      refine hK.out _ _ ⟨(hc2 _ HB.out), (hc3 _ HB.out)⟩ (fun hHeld => ?_)
      clear hK K
      refine norm_ (a' := ?_) ?_ ?_
      rotate_left
      · show Act.put _ (some 7) _ = _
        simp only [Act.put, List.setIfInBounds_toArray, List.set_cons_zero, List.set_cons_succ, i64_w, i32_w]
        rfl
      refine one_ (i := 6) (N := some 12) #[true, true, true, true, true, true, true, true, true, true, true, false, false, false, false] rfl rfl (by kernel_rfl) (by decide) (fun K hK => ?_)
      refine Kd.R_lit_step (Kd.int .i64) (w0 := W) W.heap.size 3 (by rfl) (N := 12) rfl (xs := []) (inner := []) (ok := fun _ => True) (okp := fun _ => False) ?hr (Reps.none _ _) (fun _ h => h.elim) trivial HB.out HB.out.size (by simp) ?_
      case hr => first | (go_simp; done) | (go_simp; rfl)
      intro v6 w6 hr hb hg hn
      have HR6 := Aside0.mk hr
      have nHR4_ := Aside0.mk (Kd.R_grown HR4.out hg (fun k hk => by simp))
      clear HR4
      have HR4 := nHR4_
      clear nHR4_
      clear HB
      have HB := Aside0.mk hb
      clear hr hb hg hn
      refine hK.out _ _ ⟨(hc2 _ HB.out), (hc3 _ HB.out)⟩ (fun hHeld => ?_)
      clear hK K
      refine norm_ (a' := ?_) ?_ ?_
      rotate_left
      · show Act.put _ (some 12) _ = _
        simp only [Act.put, List.setIfInBounds_toArray, List.set_cons_zero, List.set_cons_succ, i64_w, i32_w]
        rfl
      exact norm_ (by simp only [putAll, Act.put, List.setIfInBounds_toArray, List.set_cons_zero, List.set_cons_succ]) (hCont (v4, v6) _ ⟨HR4.out, HR6.out, HB.out⟩)
    · skip
      refine Kd.R_lit_step (Kd.int .i64) (w0 := W) W.heap.size 3 (by rfl) (N := 12) rfl (xs := []) (inner := []) (ok := fun _ => True) (okp := fun _ => False) ?hr (Reps.none _ _) (fun _ h => h.elim) trivial HB.out HB.out.size (by simp) ?_
      case hr => first | (go_simp; done) | (go_simp; rfl)
      intro v6 w6 hr hb hg hn
      have HR6 := Aside0.mk hr
      clear HB
      have HB := Aside0.mk hb
      clear hr hb hg hn
      refine hK.out _ _ ⟨(hc2 _ HB.out), (hc3 _ HB.out)⟩ (fun hHeld => ?_)
      clear hK K
      refine norm_ (a' := ?_) ?_ ?_
      rotate_left
      · show Act.put _ (some 12) _ = _
        simp only [Act.put, List.setIfInBounds_toArray, List.set_cons_zero, List.set_cons_succ, i64_w, i32_w]
        rfl
      refine one_ (i := 1) (N := some 7) #[true, true, true, true, true, true, true, true, true, true, true, false, false, false, false] rfl rfl (by kernel_rfl) (by decide) (fun K hK => ?_)
      refine goes_ Try.func49 (by kernel_rfl) rfl #[.pointer (some ⟨X, 0, none⟩)] (by rfl) rfl rfl (by simp only [List.map_toArray, List.map_cons, List.map_nil]; rfl) ?_
      with_reducible refine ((hcI _ HB.out)).mono ?_
      rintro e w4 ⟨v4, rfl, hr, hb, hl⟩
      refine ⟨_, rfl, ?_⟩
      have HR4 := Aside0.mk hr
      have nHR6_ := Aside0.mk (Kd.R_below HR6.out hb)
      clear HR6
      have HR6 := nHR6_
      clear nHR6_
      have nHB_ := Aside0.mk (below_step HB.out hb)
      clear HB
      have HB := nHB_
      clear nHB_
      clear hr hb hl
      refine hK.out _ _ ⟨(hc2 _ HB.out), (hc3 _ HB.out)⟩ (fun hHeld => ?_)
      clear hK K
      refine norm_ (a' := ?_) ?_ ?_
      rotate_left
      · show Act.put _ (some 7) _ = _
        simp only [Act.put, List.setIfInBounds_toArray, List.set_cons_zero, List.set_cons_succ, i64_w, i32_w]
        rfl
      exact norm_ (by simp only [putAll, Act.put, List.setIfInBounds_toArray, List.set_cons_zero, List.set_cons_succ]) (hCont (v4, v6) _ ⟨HR4.out, HR6.out, HB.out⟩)
  rintro ⟨v4, v6⟩ w3 ⟨hr4, hr6, hb3⟩
  simp only at hr4 hr6
  obtain ⟨A4, c4, rfl⟩ := Kd.R_slice hr4
  have HR4 := Aside0.mk hr4
  have HR6 := Aside0.mk hr6
  have HB := Aside0.mk hb3
  have hHeld : (w3.cell? ⟨X, 2, none⟩ = some (.slice AF fl.length cF)) ∧ (w3.cell? ⟨X, 3, none⟩ = some (.int .i64 last)) := ⟨hc2 _ hb3, hc3 _ hb3⟩
  clear hr4 hr6 hb3
  refine norm_ (a' := ?_) ?_ ?_
  rotate_left
  · simp only [putAll, Act.put, List.setIfInBounds_toArray, List.set_cons_zero, List.set_cons_succ]
    rfl
  refine one_ (i := 11) (N := some 17) #[true, true, true, true, true, true, true, true, true, true, true, true, false, false, false] rfl rfl (by kernel_rfl) (by decide) (fun K hK => ?_)
  refine Kd.R_append_rows_step (Kd.int .i64) (w0 := W) W.heap.size (by rfl) (.tmp 12) (.tmp 16) 40 3 (.int .i64 0) 8 rfl Try.underlying40 infoint rfl (by decide) (by decide) v6 [] fl AF fl.length cF (fun _ => True) (fun _ => False) rfl rfl HR6.out (Kd.C_below hCF HB.out) (fun _ _ h => h) (fun _ h => h.elim) (fun _ _ => trivial) HB.out HB.out.size ?room ?_
  case room => simp; omega
  intro v7 w7 hr hb hg hn
  rw [List.nil_append] at hr
  obtain ⟨A7, c7, rfl⟩ := Kd.R_slice hr
  have HR7 := Aside0.mk hr
  have nHR4_ := Aside0.mk (Kd.R_mono (Kd.R_grown (Kd.R_apart' HR4.out (Kd.R_typed HR6.out) (by decide)) hg (fun k hk => hk.2)) (fun _ _ => trivial))
  clear HR4
  have HR4 := nHR4_
  clear nHR4_
  clear HB
  have HB := Aside0.mk hb
  clear hr hb hg hn
  refine hK.out _ _ ⟨(hc2 _ HB.out), (hc3 _ HB.out)⟩ (fun hHeld => ?_)
  clear hK K
  refine norm_ (a' := ?_) ?_ ?_
  rotate_left
  · show Act.put _ (some 17) _ = _
    simp only [Act.put, List.setIfInBounds_toArray, List.set_cons_zero, List.set_cons_succ, i64_w, i32_w]
    rfl
  refine pure_ (i := 12) (N := some 18) (v := ?_) (a' := ?_) #[true, true, true, true, true, true, true, true, true, true, true, true, true, false, false] rfl rfl (by kernel_rfl) (fun _ _ _ h => h) (Or.inl ⟨by rfl, ?_⟩) ?_ ?_
  rotate_left
  · intro w'
    go_simp
    with_reducible rfl
  rotate_left
  · simp only [Act.put, List.setIfInBounds_toArray, List.set_cons_zero, List.set_cons_succ, i64_w, i32_w]
    rfl
  refine one_ (i := 13) (N := some 19) #[true, true, true, true, true, true, true, true, true, true, true, true, true, true, false] rfl rfl (by kernel_rfl) (by decide) (fun K hK => ?_)
  refine value_ (w1 := ?_) (v := ?_) (by rfl) rfl ?_ ?_
  rotate_left 2
  · go_simp
    constructor
    · rfl
    · rfl
  refine hK.out _ _ ⟨(hc2 _ (below_alloc HB.out (.cells #[.slice A4 bl.length c4, .slice none 0 0, .slice A7 fl.length c7, .int .i64 last] 81))), (hc3 _ (below_alloc HB.out (.cells #[.slice A4 bl.length c4, .slice none 0 0, .slice A7 fl.length c7, .int .i64 last] 81)))⟩ (fun hHeld => ?_)
  clear hK K
  refine norm_ (a' := ?_) ?_ ?_
  rotate_left
  · show Act.put _ (some 19) _ = _
    simp only [Act.put, List.setIfInBounds_toArray, List.set_cons_zero, List.set_cons_succ, i64_w, i32_w]
    rfl
  refine pure_ (i := 14) (N := some 3) (v := ?_) (a' := ?_) #[true, true, true, true, true, true, true, true, true, true, true, true, true, true, true] rfl rfl (by kernel_rfl) (fun _ _ _ h => h) (Or.inl ⟨by rfl, ?_⟩) ?_ ?_
  rotate_left
  · intro w'
    go_simp
    with_reducible rfl
  rotate_left
  · simp only [Act.put, List.setIfInBounds_toArray, List.set_cons_zero, List.set_cons_succ, i64_w, i32_w]
    rfl
  refine done_ (by kernel_rfl) ?_

  have HB8 := Aside0.mk (below_alloc HB.out (.cells #[.slice A4 bl.length c4, .slice none 0 0, .slice A7 fl.length c7, .int .i64 last] 81))
  have HY8 := Aside0.mk (World.alloc_heap_new w7 (.cells #[.slice A4 bl.length c4, .slice none 0 0, .slice A7 fl.length c7, .int .i64 last] 81))
  have hlt7 : w7.heap.size < (w7.alloc (.cells #[.slice A4 bl.length c4, .slice none 0 0, .slice A7 fl.length c7, .int .i64 last] 81)).heap.size := by simp
  have HRB8 := Aside0.mk (Kd.R_mono (Kd.R_bound (Kd.R_alloc (Kd.R_mono (Kd.R_bound HR4.out) (fun k hk => (hk.2.2.1 : k < w7.heap.size))) (.cells #[.slice A4 bl.length c4, .slice none 0 0, .slice A7 fl.length c7, .int .i64 last] 81))) (fun k hk => (Nat.ne_of_lt hk.1 : k ≠ w7.heap.size)))
  have HRF8 := Aside0.mk (Kd.R_mono (Kd.R_bound (Kd.R_alloc (Kd.R_mono (Kd.R_bound HR7.out) (fun k hk => (hk.2.2.1 : k < w7.heap.size))) (.cells #[.slice A4 bl.length c4, .slice none 0 0, .slice A7 fl.length c7, .int .i64 last] 81))) (fun k hk => (Nat.ne_of_lt hk.1 : k ≠ w7.heap.size)))
  have hYW : W.heap.size ≤ w7.heap.size := HB.out.size
  clear HR4 HR6 HR7 HB hHeld
  generalize w7.alloc (.cells #[.slice A4 bl.length c4, .slice none 0 0, .slice A7 fl.length c7, .int .i64 last] 81) = W8 at *
  generalize w7.heap.size = Y at *
  have hc18 := hc1 _ HB8.out
  gi_wp2
  gi_loopw [25] (fun v25 wr => ∃ (i : Nat) (vq : Value), v25 = .int .i64 (i : Int) ∧ i ≤ q.length ∧ Aside0 (wr.heap[Y]? = some (.cells #[.slice A4 bl.length c4, vq, .slice A7 fl.length c7, .int .i64 last] 81 (0, 0))) ∧ Aside0 (Kd.R (Kd.slice 5 (Kd.int .u8)) 30 wr W.heap.size (fun k => k ≠ Y) (.slice A4 bl.length c4) bl) ∧ Aside0 (Kd.R (Kd.int .i64) 3 wr W.heap.size (fun k => k ≠ Y) (.slice A7 fl.length c7) fl) ∧ Aside0 (Kd.R k32 32 wr W.heap.size (fun k => k ≠ Y) vq (q.take i)) ∧ Aside0 (Below W.heap.size W wr))
    (fun v25 _ => q.length - (intOf v25).toNat)
  case atStart => exact ⟨0, _, rfl, Nat.zero_le _, HY8, HRB8, HRF8, ⟨Kd.R_nil _ _ _ _ _⟩, HB8⟩
  case round =>
    obtain ⟨i, vq, rfl, hi, HY, HRB, HRF, HRQ, HBW⟩ := hrel
    by_cases hlt : i < q.length
    · have t1 : decide ((i : Int) < (q.length : Int)) = true := decide_eq_true (by omega)
      obtain ⟨gQ, cap, A2, c2, hv, hgl, _, k0, k1, k2, hc2s, hR2⟩ := at_sent HQ.out i hlt
      have hv2 := HVQ.out.symm.trans hv
      injection hv2 with hA _ hc
      subst hA
      subst hc
      have htk : q.take (i + 1) = q.take i ++ [q[i]] := by rw [List.take_add_one, List.getElem?_eq_getElem hlt]; rfl
      have h128 := HFIT.out.1.sent q[i] (List.getElem_mem _)
      generalize q[i] = s at *
      have HTK := Aside0.mk htk
      have H128 := Aside0.mk h128
      have HR2 := Aside0.mk hR2
      have j0 := (HBW.out.cell (p := ⟨gQ, i * 3, none⟩) hgl).trans k0
      have j1 := (HBW.out.cell (p := ⟨gQ, i * 3 + 1, none⟩) hgl).trans k1
      have j2 := (HBW.out.cell (p := ⟨gQ, i * 3 + 2, none⟩) hgl).trans k2
      clear htk h128 hR2 hv k0 k1 k2
      gi_wp2
      have hb3 := below_alloc (Below.refl wr.heap.size wr) (.cells #[.int .i64 s.f0, .int .i64 s.f1, .slice A2 s.f2.length c2] 32)
      have hz3 := World.alloc_heap_new wr (.cells #[.int .i64 s.f0, .int .i64 s.f1, .slice A2 s.f2.length c2] 32)
      have hzl : wr.heap.size < (wr.alloc (.cells #[.int .i64 s.f0, .int .i64 s.f1, .slice A2 s.f2.length c2] 32)).heap.size := by simp
      have hYw := heap_lt HY.out
      clear j0 j1 j2
      obtain ⟨z, hz⟩ : ∃ z, wr.heap.size = z := ⟨_, rfl⟩
      have HZZ := Aside0.mk hz
      rw [hz] at hz3 hzl ⊢
      generalize wr.alloc (.cells #[.int .i64 s.f0, .int .i64 s.f1, .slice A2 s.f2.length c2] 32) = W3 at *
      clear hz
      have hbd : Below wr.heap.size wr W3.drew := below_drew hb3
      have HB3 := Aside0.mk hbd
      have HY3 := Aside0.mk (show W3.drew.heap[Y]? = some (.cells #[.slice A4 bl.length c4, vq, .slice A7 fl.length c7, .int .i64 last] 81 (0, 0)) from (hbd.block Y hYw).trans HY.out)
      have hY3 : Y < W3.drew.heap.size := heap_lt HY3.out
      have hz3d : W3.drew.heap[z]? = _ := hz3
      have hz3l : z < W3.drew.heap.size := hzl
      have ky : ∀ W1, Below W3.drew.heap.size W3.drew W1 → W1.cell? ⟨Y, 1, none⟩ = some vq := fun W1 hb => by simp [World.cell?, (hb.block Y hY3).trans HY3.out]
      have kz0 : ∀ W1, Below W3.drew.heap.size W3.drew W1 → W1.cell? ⟨z, 0, none⟩ = some (.int .i64 s.f0) := fun W1 hb => by simp [World.cell?, (hb.block z hz3l).trans hz3d]
      have kz1 : ∀ W1, Below W3.drew.heap.size W3.drew W1 → W1.cell? ⟨z, 1, none⟩ = some (.int .i64 s.f1) := fun W1 hb => by simp [World.cell?, (hb.block z hz3l).trans hz3d]
      have kz2 : ∀ W1, Below W3.drew.heap.size W3.drew W1 → W1.cell? ⟨z, 2, none⟩ = some (.slice A2 s.f2.length c2) := fun W1 hb => by simp [World.cell?, (hb.block z hz3l).trans hz3d]
      have HQ3 := Aside0.mk (Kd.R_below HRQ.out hbd)
      have hvq : ∀ k, vq.ownBlock = some k → k < W3.drew.heap.size := fun k hk => Kd.R_lt HQ3.out k hk
      have hvY : ∀ k, vq.ownBlock = some k → k ≠ Y := fun k hk => HRQ.out.1 k hk
      have hbase3 : W.heap.size ≤ W3.drew.heap.size := by have := HBW.out.size; have := hbd.size; omega
      have hcl := bollardref02_copied.calls A2 c2 s.f2 s.f2 W3.drew (Kd.C_below (Kd.R_reads' HR2.out).2.2 (HBW.out.trans (below_base HBW.out.size hbd))) hc2s (copied_f s.f2 (by have := H128.out; omega))
      clear hb3 hz3 hbd hz3d
      refine wpIn_wide.2 ?_
      refine start_ (n := 18) (S := fun w' => w'.cell? ⟨Y, 1, none⟩ = some vq ∧ w'.cell? ⟨z, 0, none⟩ = some (.int .i64 s.f0) ∧ w'.cell? ⟨z, 1, none⟩ = some (.int .i64 s.f1) ∧ w'.cell? ⟨z, 2, none⟩ = some (.slice A2 s.f2.length c2)) (ds := [14, 17]) #[false, false, false, false, false, false, false, false, false, false, false, false, false, false, false, false, false, false] (by kernel_rfl) rfl rfl ⟨(ky _ (Below.refl W3.drew.heap.size W3.drew)), (kz0 _ (Below.refl W3.drew.heap.size W3.drew)), (kz1 _ (Below.refl W3.drew.heap.size W3.drew)), (kz2 _ (Below.refl W3.drew.heap.size W3.drew))⟩ (fun hHeld => ?_)
      refine pure_ (i := 0) (N := some 29) (v := ?_) (a' := ?_) #[true, false, false, false, false, false, false, false, false, false, false, false, false, false, false, false, false, false] rfl rfl (by kernel_rfl) (fun _ _ _ h => h) (Or.inl ⟨by rfl, ?_⟩) ?_ ?_
      rotate_left
      · intro w'
        go_simp
        with_reducible rfl
      rotate_left
      · simp only [Act.put, List.setIfInBounds_toArray, List.set_cons_zero, List.set_cons_succ, i64_w, i32_w]
        rfl
      refine pure_ (i := 1) (N := some 30) (v := ?_) (a' := ?_) #[true, true, false, false, false, false, false, false, false, false, false, false, false, false, false, false, false, false] rfl rfl (by kernel_rfl) (fun _ _ _ h => h) (Or.inl ⟨by rfl, ?_⟩) ?_ ?_
      rotate_left
      · intro w'
        go_simp
        with_reducible rfl
      rotate_left
      · simp only [Act.put, List.setIfInBounds_toArray, List.set_cons_zero, List.set_cons_succ, i64_w, i32_w]
        rfl
      refine pure_ (i := 2) (N := some 31) (v := ?_) (a' := ?_) #[true, true, true, false, false, false, false, false, false, false, false, false, false, false, false, false, false, false] rfl rfl (by kernel_rfl) (fun _ _ _ h => h) (Or.inl ⟨by rfl, ?_⟩) ?_ ?_
      rotate_left
      · intro w'
        go_simp
        with_reducible rfl
      rotate_left
      · simp only [Act.put, List.setIfInBounds_toArray, List.set_cons_zero, List.set_cons_succ, i64_w, i32_w]
        rfl
      refine pure_ (i := 3) (N := some 32) (v := ?_) (a' := ?_) #[true, true, true, true, false, false, false, false, false, false, false, false, false, false, false, false, false, false] rfl rfl (by kernel_rfl) (fun _ _ _ h => h) (Or.inl ⟨by rfl, ?_⟩) ?_ ?_
      rotate_left
      · intro w'
        go_simp
        with_reducible rfl
      rotate_left
      · simp only [Act.put, List.setIfInBounds_toArray, List.set_cons_zero, List.set_cons_succ, i64_w, i32_w]
        rfl
      refine pure_ (i := 5) (N := some 34) (v := ?_) (a' := ?_) #[true, true, true, true, false, true, false, false, false, false, false, false, false, false, false, false, false, false] rfl rfl (by kernel_rfl) (fun _ _ _ h => h) (Or.inl ⟨by rfl, ?_⟩) ?_ ?_
      rotate_left
      · intro w'
        go_simp
        with_reducible rfl
      rotate_left
      · simp only [Act.put, List.setIfInBounds_toArray, List.set_cons_zero, List.set_cons_succ, i64_w, i32_w]
        rfl
      refine pure_ (i := 7) (N := some 36) (v := ?_) (a' := ?_) #[true, true, true, true, false, true, false, true, false, false, false, false, false, false, false, false, false, false] rfl rfl (by kernel_rfl) (fun _ _ _ h => h) (Or.inl ⟨by rfl, ?_⟩) ?_ ?_
      rotate_left
      · intro w'
        go_simp
        with_reducible rfl
      rotate_left
      · simp only [Act.put, List.setIfInBounds_toArray, List.set_cons_zero, List.set_cons_succ, i64_w, i32_w]
        rfl
      refine pure_ (i := 9) (N := some 38) (v := ?_) (a' := ?_) #[true, true, true, true, false, true, false, true, false, true, false, false, false, false, false, false, false, false] rfl rfl (by kernel_rfl) (fun _ _ _ h => h) (Or.inl ⟨by rfl, ?_⟩) ?_ ?_
      rotate_left
      · intro w'
        go_simp
        with_reducible rfl
      rotate_left
      · simp only [Act.put, List.setIfInBounds_toArray, List.set_cons_zero, List.set_cons_succ, i64_w, i32_w]
        rfl
      refine take_ (i := 4) (N := some 33) (v := ?_) (a' := ?_) #[true, true, true, true, true, true, false, true, false, true, false, false, false, false, false, false, false, false] rfl rfl (by kernel_rfl) (fun _ _ _ h => h) (Or.inl ⟨by rfl, ?_⟩) hHeld ?_ ?_
      rotate_left
      · rintro w' ⟨s0, s1, s2, s3⟩
        go_simp
        with_reducible rfl
      rotate_left
      · simp only [Act.put, List.setIfInBounds_toArray, List.set_cons_zero, List.set_cons_succ, i64_w, i32_w]
        rfl
      refine take_ (i := 6) (N := some 35) (v := ?_) (a' := ?_) #[true, true, true, true, true, true, true, true, false, true, false, false, false, false, false, false, false, false] rfl rfl (by kernel_rfl) (fun _ _ _ h => h) (Or.inl ⟨by rfl, ?_⟩) hHeld ?_ ?_
      rotate_left
      · rintro w' ⟨s0, s1, s2, s3⟩
        go_simp
        with_reducible rfl
      rotate_left
      · simp only [Act.put, List.setIfInBounds_toArray, List.set_cons_zero, List.set_cons_succ, i64_w, i32_w]
        rfl
      refine take_ (i := 8) (N := some 37) (v := ?_) (a' := ?_) #[true, true, true, true, true, true, true, true, true, true, false, false, false, false, false, false, false, false] rfl rfl (by kernel_rfl) (fun _ _ _ h => h) (Or.inl ⟨by rfl, ?_⟩) hHeld ?_ ?_
      rotate_left
      · rintro w' ⟨s0, s1, s2, s3⟩
        go_simp
        with_reducible rfl
      rotate_left
      · simp only [Act.put, List.setIfInBounds_toArray, List.set_cons_zero, List.set_cons_succ, i64_w, i32_w]
        rfl
      refine take_ (i := 10) (N := some 39) (v := ?_) (a' := ?_) #[true, true, true, true, true, true, true, true, true, true, true, false, false, false, false, false, false, false] rfl rfl (by kernel_rfl) (fun _ _ _ h => h) (Or.inl ⟨by rfl, ?_⟩) hHeld ?_ ?_
      rotate_left
      · rintro w' ⟨s0, s1, s2, s3⟩
        go_simp
        with_reducible rfl
      rotate_left
      · simp only [Act.put, List.setIfInBounds_toArray, List.set_cons_zero, List.set_cons_succ, i64_w, i32_w]
        rfl
      refine one_ (i := 11) (N := some 40) #[true, true, true, true, true, true, true, true, true, true, true, true, false, false, false, false, false, false] rfl rfl (by kernel_rfl) (by decide) (fun K hK => ?_)
      refine goes_ Try.func53 (by kernel_rfl) rfl #[.slice A2 s.f2.length c2] (by rfl) rfl rfl (by simp only [List.map_toArray, List.map_cons, List.map_nil]; rfl) ?_
      with_reducible refine (hcl).mono ?_
      rintro e w4 ⟨v0, rfl, hr1, hb1⟩
      refine ⟨_, rfl, ?_⟩
      obtain ⟨A1, c1, rfl⟩ := Kd.R_slice hr1
      have HR1 := Aside0.mk hr1
      have HB4 := Aside0.mk hb1
      clear hr1 hb1
      refine hK.out _ _ ⟨(ky _ HB4.out), (kz0 _ HB4.out), (kz1 _ HB4.out), (kz2 _ HB4.out)⟩ (fun hHeld => ?_)
      clear hK K
      refine norm_ (a' := ?_) ?_ ?_
      rotate_left
      · show Act.put _ (some 40) _ = _
        simp only [Act.put, List.setIfInBounds_toArray, List.set_cons_zero, List.set_cons_succ, i64_w, i32_w]
        rfl
      refine pure_ (i := 12) (N := some 41) (v := ?_) (a' := ?_) #[true, true, true, true, true, true, true, true, true, true, true, true, true, false, false, false, false, false] rfl rfl (by kernel_rfl) (fun _ _ _ h => h) (Or.inl ⟨by rfl, ?_⟩) ?_ ?_
      rotate_left
      · intro w'
        go_simp
        with_reducible rfl
      rotate_left
      · simp only [Act.put, List.setIfInBounds_toArray, List.set_cons_zero, List.set_cons_succ, i64_w, i32_w]
        rfl
      refine one_ (i := 13) (N := some 42) #[true, true, true, true, true, true, true, true, true, true, true, true, true, true, false, false, false, false] rfl rfl (by kernel_rfl) (by decide) (fun K hK => ?_)
      refine value_ (w1 := ?_) (v := ?_) (by rfl) rfl ?_ ?_
      rotate_left 2
      · go_simp
        constructor
        · rfl
        · rfl
      refine hK.out _ _ ⟨(ky _ (below_alloc HB4.out (.cells #[.int .i64 s.f0, .int .i64 s.f1, .slice A1 s.f2.length c1] 32))), (kz0 _ (below_alloc HB4.out (.cells #[.int .i64 s.f0, .int .i64 s.f1, .slice A1 s.f2.length c1] 32))), (kz1 _ (below_alloc HB4.out (.cells #[.int .i64 s.f0, .int .i64 s.f1, .slice A1 s.f2.length c1] 32))), (kz2 _ (below_alloc HB4.out (.cells #[.int .i64 s.f0, .int .i64 s.f1, .slice A1 s.f2.length c1] 32)))⟩ (fun hHeld => ?_)
      clear hK K
      refine norm_ (a' := ?_) ?_ ?_
      rotate_left
      · show Act.put _ (some 42) _ = _
        simp only [Act.put, List.setIfInBounds_toArray, List.set_cons_zero, List.set_cons_succ, i64_w, i32_w]
        rfl
      refine last_ (i := 14) (N := some 43) #[true, true, true, true, true, true, true, true, true, true, true, true, true, true, true, false, false, false] rfl rfl (by kernel_rfl) (by decide) (fun K hK => ?_)
      refine Kd.R_append_step k32 (w0 := W3.drew) W.heap.size (by rfl) (.tmp 33) (.tmp 42) 28 32 _ _ rfl Try.underlying28 info32 rfl (by decide) (by decide) vq (q.take i) s [_, _, _] (fun k => k ≠ Y) (fun k => W3.drew.heap.size ≤ k) rfl rfl (k32_mkM _ _ _ s (Kd.R_mono (Kd.R_lower (Kd.R_bound HR1.out) hbase3) (fun k hk => hk.2.1))) ?okp ?fresh (Kd.R_below HQ3.out HB4.out) ?below ?base ?room ?_
      case okp => exact fun k hk => ⟨fun e => by omega, fun e => by have := hvq k e.symm; omega⟩
      case fresh => exact fun k hk => fun e => by have := HB4.out.size; omega
      case below => exact below_base hbase3 HB4.out
      case base => have := HB4.out.size; omega
      case room => rw [List.length_take]; omega
      intro v5 w5 hr5 hb5 hg5 ht5
      obtain ⟨ad5, cp5, hv5⟩ := Kd.R_slice1 hr5 (by simp)
      obtain ⟨n5, hn5⟩ : ∃ n5, (q.take i ++ [s]).length = n5 := ⟨_, rfl⟩
      rw [hn5] at hv5
      clear hn5
      subst hv5
      have HR5 := Aside0.mk hr5
      have HG5 := Aside0.mk hg5
      have HY5 := Aside0.mk (show w5.heap[Y]? = some (.cells #[.slice A4 bl.length c4, vq, .slice A7 fl.length c7, .int .i64 last] 81 (0, 0)) from (hg5.block Y (by have := HB4.out.size; omega) (fun e => by have := hvY Y e.symm; omega)).trans ((HB4.out.block Y hY3).trans HY3.out))
      have c51 : w5.cell? ⟨Y, 1, none⟩ = some vq := (by simp [World.cell?, HY5.out])
      have f51 : w5.frozen? ⟨Y, 1, none⟩ = false := (by simp [World.frozen?, HY5.out])
      clear hr5 hb5 hg5 ht5
      refine hK.out _ _ ?_
      clear hK K
      refine norm_ (a' := ?_) ?_ ?_
      rotate_left
      · show Act.put _ (some 43) _ = _
        simp only [Act.put, List.setIfInBounds_toArray, List.set_cons_zero, List.set_cons_succ, i64_w, i32_w]
        rfl
      refine pure_ (i := 15) (N := some 44) (v := ?_) (a' := ?_) #[true, true, true, true, true, true, true, true, true, true, true, true, true, true, true, true, false, false] rfl rfl (by kernel_rfl) (fun _ _ _ h => h) (Or.inl ⟨by rfl, ?_⟩) ?_ ?_
      rotate_left
      · intro w'
        go_simp
        with_reducible rfl
      rotate_left
      · simp only [Act.put, List.setIfInBounds_toArray, List.set_cons_zero, List.set_cons_succ, i64_w, i32_w]
        rfl
      refine pure_ (i := 16) (N := some 45) (v := ?_) (a' := ?_) #[true, true, true, true, true, true, true, true, true, true, true, true, true, true, true, true, true, false] rfl rfl (by kernel_rfl) (fun _ _ _ h => h) (Or.inl ⟨by rfl, ?_⟩) ?_ ?_
      rotate_left
      · intro w'
        go_simp
        with_reducible rfl
      rotate_left
      · simp only [Act.put, List.setIfInBounds_toArray, List.set_cons_zero, List.set_cons_succ, i64_w, i32_w]
        rfl
      refine last_ (i := 17) (N := none) #[true, true, true, true, true, true, true, true, true, true, true, true, true, true, true, true, true, true] rfl rfl (by kernel_rfl) (by decide) (fun K hK => ?_)
      refine skip_ (w1 := ?_) (by rfl) rfl ?_ ?_
      rotate_left
      · go_simp
        rfl
      refine hK.out _ _ ?_
      clear hK K
      refine done_ (by kernel_rfl) ?_

      have hb5 : Below W3.drew.heap.size W3.drew w4 := HB4.out
      have hs4 := HB4.out.size
      have hs5 := HG5.out.size
      have hRB5 := Kd.R_grown (Kd.R_apart' (Kd.R_below HRB.out (below_step HB3.out HB4.out)) (fun k hk => (Kd.R_typed (Kd.R_below HQ3.out HB4.out)) k hk) (by decide)) HG5.out (fun k hk => hk.2)
      have hRF5 := Kd.R_grown (Kd.R_apart' (Kd.R_below HRF.out (below_step HB3.out HB4.out)) (fun k hk => (Kd.R_typed (Kd.R_below HQ3.out HB4.out)) k hk) (by decide)) HG5.out (fun k hk => hk.2)
      have hB5 : Below W.heap.size W w5 := Below.grown (HBW.out.trans (below_base HBW.out.size (below_step HB3.out HB4.out))) HG5.out (by have := HBW.out.size; have := HB3.out.size; omega) (fun k hk => Kd.R_base HQ3.out k hk)
      have hY6 := Go.Proofs.Ytbopccjcehnfnaa.Nb.set_heap HY5.out (o := 1) (.slice (some ad5) n5 cp5)
      have hR6 := Kd.R_far HR5.out (p := ⟨Y, 1, none⟩) (fun j hj => hj) (.slice (some ad5) n5 cp5)
      have hRB6 := Kd.R_far hRB5 (p := ⟨Y, 1, none⟩) (fun j hj => hj.1) (.slice (some ad5) n5 cp5)
      have hRF6 := Kd.R_far hRF5 (p := ⟨Y, 1, none⟩) (fun j hj => hj.1) (.slice (some ad5) n5 cp5)
      have hB6 := hB5.setCell (p := ⟨Y, 1, none⟩) hYW (.slice (some ad5) n5 cp5)
      rw [← HTK.out] at hR6
      have HALL := Aside0.mk (And.intro hY6 (And.intro hRB6 (And.intro hRF6 (And.intro hR6 hB6))))
      clear hY6 hRB6 hRF6 hR6 hB6 hB5 hRF5 hRB5 hb5 hcl ky kz0 kz1 kz2
      gi_wp2
      obtain ⟨hY6, hRB6, hRF6, hR6, hB6⟩ := HALL.out
      exact ⟨⟨i + 1, _, by simp, hlt, ⟨hY6⟩, ⟨Kd.R_mono hRB6 (fun k hk => hk.1)⟩, ⟨Kd.R_mono hRF6 (fun k hk => hk.1)⟩, ⟨hR6⟩, ⟨hB6⟩⟩, by simp [intOf]; omega⟩
    · obtain rfl : i = q.length := by omega
      have t1 : decide ((q.length : Int) < (q.length : Int)) = false := decide_eq_false (by omega)
      gi_wp2
      go_ret
      have hR := HRQ.out
      rw [List.take_length] at hR
      have hlt2 := heap_lt HY.out
      exact ⟨Y, rfl, ⟨HFIT.out.1, HFIT.out.2, ⟨_, vq, _, HY.out, Kd.R_mono (Kd.R_bound HRB.out) (fun k hk => ⟨hk.2.1, hk.2.2.1⟩), Kd.R_mono (Kd.R_bound hR) (fun k hk => ⟨hk.2.1, hk.2.2.1⟩), Kd.R_mono (Kd.R_bound HRF.out) (fun k hk => ⟨hk.2.1, hk.2.2.1⟩)⟩, ⟨hYW, hlt2⟩, fun k hk => hk⟩, HBW.out⟩
theorem dm_copy {W : World} {base D m : Nat} {S : Nat → Prop} {bl : List (List Int)} {q : List S32} {fl : List Int} {last : Int} {n : Nat} (h : IsDm W base D m S bl q fl last n) (hn : n ≤ maxLen) :
    Calls Try.prog 15 #[.pointer (some ⟨D, 0, none⟩)] W fun e W' => ∃ D2 m2, e = .returned (.pointer (some ⟨D2, 0, none⟩)) ∧ IsDm W' W.heap.size D2 m2 (fun k => W.heap.size ≤ k ∧ k < W'.heap.size) bl q fl last n ∧ Below W.heap.size W W' := by
  obtain ⟨⟨mo, hd⟩, ⟨Dm, ho, ha⟩, hfl⟩ := h
  have hs : Maps.size Dm ≤ n := by
    obtain ⟨es, c, h1, h2, h3, h4⟩ := ho
    rw [h4]
    simp only [Maps.size]
    rw [length_sorted]
    simpa using h3
  refine (copy_ok hd ho (by omega)).mono ?_
  rintro e W' ⟨D2, m2, mo2, rfl, hi, ho2, hb⟩
  exact ⟨D2, m2, rfl, ⟨⟨mo2, hi⟩, ⟨Dm, ho2.mono hs, ha⟩, hfl⟩, hb⟩
end Go.Proofs.Ytbopccjcehnfnaa.Dk
