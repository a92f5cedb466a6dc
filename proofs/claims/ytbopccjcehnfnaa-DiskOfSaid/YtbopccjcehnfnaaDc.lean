/- Written by a program of this session. Copy of a disk. -/
import Derived.Test.YtbopccjcehnfnaaDw
import Derived.Sort.MapsRangeIn
import Derived.Maps.Ext
import Derived.Maps.RangeWalk
import Derived.Maps.OwnIn
import Derived.OwnWalkIn
import Derived.Test.YtbopccjcehnfnaaAp
namespace Go.Proofs.Ytbopccjcehnfnaa.Dk
open Go Go.RowKit Go.Shelf Go.Proofs Go.Maps Go.Proofs.Ytbopccjcehnfnaa.Sp Go.Proofs.Ytbopccjcehnfnaa.XFb Go.Proofs.YtbopccjcehnfnaaW.PrintWords Go.Proofs.YtbopccjcehnfnaaW.PrintLast Go.Proofs.YtbopccjcehnfnaaW.PrintMore
set_option linter.unusedVariables false
set_option linter.unusedSimpArgs false
/-- Block m is a map of whole numbers that reads as Dm. -/
abbrev Fz (w : World) (m n : Nat) (Dm : DataW Unit) : Prop := w.ownsMap Try.prog 3 (plainElem Try.prog 3) m n Dm
theorem Fz.at_ {w w' : World} {m n : Nat} {Dm : DataW Unit} (h : Fz w m n Dm) (hb : w'.heap[m]? = w.heap[m]?) : Fz w' m n Dm := by
  obtain ⟨es, clock, h1, r⟩ := h
  exact ⟨es, clock, hb.trans h1, r⟩
theorem alloc_new_of {n : Nat} {W X : World} (_ : Below n W X) (o : Obj) : (X.alloc o).heap[X.heap.size]? = some o := World.alloc_heap_new _ _
theorem heap_lt {W : World} {g : Nat} {o : Obj} (h : W.heap[g]? = some o) : g < W.heap.size := (Array.getElem?_eq_some_iff.1 h).1
theorem run_mk (W1 : World) : (Instr.makeMap 43 none).run Try.prog W1 = .ok (.map (some W1.heap.size)) (W1.alloc (.map #[] 0)) := rfl
theorem made_own {w : World} {b : Nat} (hb : w.heap[b]? = some (.map #[] 0)) (n : Nat) : Fz w b n (.map []) := by
  obtain ⟨es, clock, h1, h2, h3, h4⟩ := World.ownsMap_made w Try.prog 3 (plainElem (H := Unit) Try.prog 3)
  rw [World.alloc_heap_new] at h1
  cases h1
  exact ⟨#[], 0, hb, h2, Nat.zero_le _, h4⟩
theorem R_map {α : Type} {d : Kd α} {e base g : Nat} {ok : Nat → Prop} {w : World} {v : Value} {xs : List α} {n : Nat} {Dm : DataW Unit} (h : Kd.R d e w base ok v xs) (hm : Fz w g n Dm) : Kd.R d e w base (fun k => ok k ∧ k ≠ g) v xs :=
  Kd.R_mono (Kd.R_bound h) (fun k hk => ⟨hk.1, by
    obtain ⟨_, _, _, q, hq, cells, hc⟩ := hk
    rintro rfl
    obtain ⟨es, clock, h1, _⟩ := hm
    rw [h1] at hc
    cases hc⟩)
set_option maxRecDepth 100000 in
set_option maxHeartbeats 8000000 in
theorem copy_ok {W : World} {base D m : Nat} {S : Nat → Prop} {bl : List (List Int)} {q : List S32} {mo : Obj} {last : Int} (h : IsDk W base D m S bl q mo last) {n : Nat} {Dm : DataW Unit} (hown : Fz W m n Dm) (hmax : Maps.size Dm ≤ maxLen) :
    Calls Try.prog 15 #[.pointer (some ⟨D, 0, none⟩)] W fun e W' => ∃ D2 m2 mo2, e = .returned (.pointer (some ⟨D2, 0, none⟩)) ∧ IsDk W' W.heap.size D2 m2 (fun k => W.heap.size ≤ k ∧ k < W'.heap.size) bl q mo2 last ∧ Fz W' m2 (Maps.size Dm) Dm ∧ Below W.heap.size W W' := by
  have H := Aside0.mk h
  have HO := Aside0.mk hown
  have hmlt := h.low m h.inM
  obtain ⟨hf, ⟨vB, vQ, hD, hB, hQ⟩, hm, hmm, hSD, hSm, hlow⟩ := h
  obtain ⟨AB, cB, rfl⟩ := Kd.R_slice hB
  obtain ⟨AQ, cQ, rfl⟩ := Kd.R_slice hQ
  have hDlt := (hlow D hSD).2
  have hfi := image_f bl (fun x hx => by have := hf.each x hx; omega) (by have := hf.most; omega) (bl.length + 1) (Nat.lt_succ_self _)
  have hfs := sent_f q (fun x hx => by have := hf.sent x hx; omega) (by have := hf.queue; omega) (q.length + 1) (Nat.lt_succ_self _)
  have hcB : ∀ W1, Below W.heap.size W W1 → Calls Try.prog 30 #[.slice AB bl.length cB] W1 (fun e w' => ∃ v, e = .returned v ∧ Kd.R (Kd.slice 5 (Kd.int .u8)) 30 w' W.heap.size (fun _ => True) v bl ∧ Below W1.heap.size W1 w' ∧ W.heap.size ≤ w'.heap.size) := fun W1 hb1 => by
    have hB1 := Kd.R_below hB hb1
    refine (disk_image.calls (bl.length + 1) AB cB bl bl _ (Kd.R_reads' hB1).2.2 (Kd.R_reads' hB1).2.1 hfi).mono ?_
    rintro e w' ⟨v, rfl, hs, hb⟩
    exact ⟨v, rfl, Kd.R_lower (Kd.S_R hs) hb1.size, hb, Nat.le_trans hb1.size hb.size⟩
  have hcQ : ∀ W1, Below W.heap.size W W1 → Calls Try.prog 31 #[.slice AQ q.length cQ] W1 (fun e w' => ∃ v, e = .returned v ∧ Kd.R k32 32 w' W.heap.size (fun _ => True) v q ∧ Below W1.heap.size W1 w' ∧ W.heap.size ≤ w'.heap.size) := fun W1 hb1 => by
    have hQ1 := Kd.R_below hQ hb1
    refine (disk_sent.calls (q.length + 1) AQ cQ q q _ (Kd.R_reads' hQ1).2.2 (Kd.R_reads' hQ1).2.1 hfs).mono ?_
    rintro e w' ⟨v, rfl, hs, hb⟩
    exact ⟨v, rfl, Kd.R_lower (Kd.S_R hs) hb1.size, hb, Nat.le_trans hb1.size hb.size⟩
  have hcell : ∀ W1, Below W.heap.size W W1 → W1.heap[D]? = W.heap[D]? := fun W1 hb1 => hb1.block D hDlt
  have hc0 : ∀ W1, Below W.heap.size W W1 → W1.cell? ⟨D, 0, none⟩ = some (.slice AB bl.length cB) := fun W1 hb1 => by simp [World.cell?, hcell W1 hb1, hD]
  have hc1 : ∀ W1, Below W.heap.size W W1 → W1.cell? ⟨D, 1, none⟩ = some (.slice AQ q.length cQ) := fun W1 hb1 => by simp [World.cell?, hcell W1 hb1, hD]
  have hc2 : ∀ W1, Below W.heap.size W W1 → W1.cell? ⟨D, 2, none⟩ = some (.map (some m)) := fun W1 hb1 => by simp [World.cell?, hcell W1 hb1, hD]
  have hc3 : ∀ W1, Below W.heap.size W W1 → W1.cell? ⟨D, 3, none⟩ = some (.int .i64 last) := fun W1 hb1 => by simp [World.cell?, hcell W1 hb1, hD]
  clear hB hQ hfi hfs hcell
  refine (callsIn_wide (n := 1)).1 ?_
  refine callsIn_of_wp Try.func15 rfl trivial ?_ rfl
  simp only [Try.ntmps15, List.size_toArray, List.length_cons, List.length_nil, Nat.reduceAdd, Nat.reduceSub, Array.replicate_succ, Array.replicate_zero, List.push_toArray, List.append_toArray, List.nil_append, List.cons_append]
  gi_wp2_with (first
    | (refine ⟨trivial, ?_⟩; gi_at_call 32; refine (callsIn_wide.2 (made_ok H.out)).mono ?_; rintro e w0 ⟨rfl, hw⟩; rw [hw]; clear hw))
  have HB := Aside0.mk (below_drew (Below.refl W.heap.size W))
  refine wpIn_wide.2 ?_
  refine start_ (n := 18) (S := fun w' => w'.cell? ⟨D, 0, none⟩ = some (.slice AB bl.length cB) ∧ w'.cell? ⟨D, 1, none⟩ = some (.slice AQ q.length cQ) ∧ w'.cell? ⟨D, 3, none⟩ = some (.int .i64 last)) (ds := []) #[false, false, false, false, false, false, false, false, false, false, false, false, false, false, false, false, false, false] (by kernel_rfl) rfl rfl ⟨(hc0 _ HB.out), (hc1 _ HB.out), (hc3 _ HB.out)⟩ (fun hHeld => ?_)
  refine pure_ (i := 0) (N := some 9) (v := ?_) (a' := ?_) #[true, false, false, false, false, false, false, false, false, false, false, false, false, false, false, false, false, false] rfl rfl (by kernel_rfl) (fun _ _ _ h => h) (Or.inl ⟨by rfl, ?_⟩) ?_ ?_
  rotate_left
  · intro w'
    go_simp
    with_reducible rfl
  rotate_left
  · simp only [Act.put, List.setIfInBounds_toArray, List.set_cons_zero, List.set_cons_succ, i64_w, i32_w]
    rfl
  refine pure_ (i := 1) (N := some 10) (v := ?_) (a' := ?_) #[true, true, false, false, false, false, false, false, false, false, false, false, false, false, false, false, false, false] rfl rfl (by kernel_rfl) (fun _ _ _ h => h) (Or.inl ⟨by rfl, ?_⟩) ?_ ?_
  rotate_left
  · intro w'
    go_simp
    with_reducible rfl
  rotate_left
  · simp only [Act.put, List.setIfInBounds_toArray, List.set_cons_zero, List.set_cons_succ, i64_w, i32_w]
    rfl
  refine pure_ (i := 2) (N := some 11) (v := ?_) (a' := ?_) #[true, true, true, false, false, false, false, false, false, false, false, false, false, false, false, false, false, false] rfl rfl (by kernel_rfl) (fun _ _ _ h => h) (Or.inl ⟨by rfl, ?_⟩) ?_ ?_
  rotate_left
  · intro w'
    go_simp
    with_reducible rfl
  rotate_left
  · simp only [Act.put, List.setIfInBounds_toArray, List.set_cons_zero, List.set_cons_succ, i64_w, i32_w]
    rfl
  refine pure_ (i := 5) (N := some 14) (v := ?_) (a' := ?_) #[true, true, true, false, false, true, false, false, false, false, false, false, false, false, false, false, false, false] rfl rfl (by kernel_rfl) (fun _ _ _ h => h) (Or.inl ⟨by rfl, ?_⟩) ?_ ?_
  rotate_left
  · intro w'
    go_simp
    with_reducible rfl
  rotate_left
  · simp only [Act.put, List.setIfInBounds_toArray, List.set_cons_zero, List.set_cons_succ, i64_w, i32_w]
    rfl
  refine pure_ (i := 6) (N := some 15) (v := ?_) (a' := ?_) #[true, true, true, false, false, true, true, false, false, false, false, false, false, false, false, false, false, false] rfl rfl (by kernel_rfl) (fun _ _ _ h => h) (Or.inl ⟨by rfl, ?_⟩) ?_ ?_
  rotate_left
  · intro w'
    go_simp
    with_reducible rfl
  rotate_left
  · simp only [Act.put, List.setIfInBounds_toArray, List.set_cons_zero, List.set_cons_succ, i64_w, i32_w]
    rfl
  refine pure_ (i := 7) (N := some 16) (v := ?_) (a' := ?_) #[true, true, true, false, false, true, true, true, false, false, false, false, false, false, false, false, false, false] rfl rfl (by kernel_rfl) (fun _ _ _ h => h) (Or.inl ⟨by rfl, ?_⟩) ?_ ?_
  rotate_left
  · intro w'
    go_simp
    with_reducible rfl
  rotate_left
  · simp only [Act.put, List.setIfInBounds_toArray, List.set_cons_zero, List.set_cons_succ, i64_w, i32_w]
    rfl
  refine pure_ (i := 11) (N := some 20) (v := ?_) (a' := ?_) #[true, true, true, false, false, true, true, true, false, false, false, true, false, false, false, false, false, false] rfl rfl (by kernel_rfl) (fun _ _ _ h => h) (Or.inl ⟨by rfl, ?_⟩) ?_ ?_
  rotate_left
  · intro w'
    go_simp
    with_reducible rfl
  rotate_left
  · simp only [Act.put, List.setIfInBounds_toArray, List.set_cons_zero, List.set_cons_succ, i64_w, i32_w]
    rfl
  refine pure_ (i := 12) (N := some 21) (v := ?_) (a' := ?_) #[true, true, true, false, false, true, true, true, false, false, false, true, true, false, false, false, false, false] rfl rfl (by kernel_rfl) (fun _ _ _ h => h) (Or.inl ⟨by rfl, ?_⟩) ?_ ?_
  rotate_left
  · intro w'
    go_simp
    with_reducible rfl
  rotate_left
  · simp only [Act.put, List.setIfInBounds_toArray, List.set_cons_zero, List.set_cons_succ, i64_w, i32_w]
    rfl
  refine pure_ (i := 13) (N := some 22) (v := ?_) (a' := ?_) #[true, true, true, false, false, true, true, true, false, false, false, true, true, true, false, false, false, false] rfl rfl (by kernel_rfl) (fun _ _ _ h => h) (Or.inl ⟨by rfl, ?_⟩) ?_ ?_
  rotate_left
  · intro w'
    go_simp
    with_reducible rfl
  rotate_left
  · simp only [Act.put, List.setIfInBounds_toArray, List.set_cons_zero, List.set_cons_succ, i64_w, i32_w]
    rfl
  refine take_ (i := 3) (N := some 12) (v := ?_) (a' := ?_) #[true, true, true, true, false, true, true, true, false, false, false, true, true, true, false, false, false, false] rfl rfl (by kernel_rfl) (fun _ _ _ h => h) (Or.inl ⟨by rfl, ?_⟩) hHeld ?_ ?_
  rotate_left
  · rintro w' ⟨s0, s1, s2⟩
    go_simp
    with_reducible rfl
  rotate_left
  · simp only [Act.put, List.setIfInBounds_toArray, List.set_cons_zero, List.set_cons_succ, i64_w, i32_w]
    rfl
  refine take_ (i := 8) (N := some 17) (v := ?_) (a' := ?_) #[true, true, true, true, false, true, true, true, true, false, false, true, true, true, false, false, false, false] rfl rfl (by kernel_rfl) (fun _ _ _ h => h) (Or.inl ⟨by rfl, ?_⟩) hHeld ?_ ?_
  rotate_left
  · rintro w' ⟨s0, s1, s2⟩
    go_simp
    with_reducible rfl
  rotate_left
  · simp only [Act.put, List.setIfInBounds_toArray, List.set_cons_zero, List.set_cons_succ, i64_w, i32_w]
    rfl
  refine take_ (i := 14) (N := some 23) (v := ?_) (a' := ?_) #[true, true, true, true, false, true, true, true, true, false, false, true, true, true, true, false, false, false] rfl rfl (by kernel_rfl) (fun _ _ _ h => h) (Or.inl ⟨by rfl, ?_⟩) hHeld ?_ ?_
  rotate_left
  · rintro w' ⟨s0, s1, s2⟩
    go_simp
    with_reducible rfl
  rotate_left
  · simp only [Act.put, List.setIfInBounds_toArray, List.set_cons_zero, List.set_cons_succ, i64_w, i32_w]
    rfl
  refine join_ (σ := Value × Value × Nat) 3 #[true, true, true, true, true, true, true, true, true, true, true, true, true, true, true, false, false, false] (fun s => [(13, s.1), (18, s.2.1), (19, .map (some s.2.2))]) (fun s w' => Kd.R (Kd.slice 5 (Kd.int .u8)) 30 w' W.heap.size (fun _ => True) s.1 bl ∧ Kd.R k32 32 w' W.heap.size (fun _ => True) s.2.1 q ∧ w'.heap[s.2.2]? = some (.map #[] 0) ∧ W.heap.size ≤ s.2.2 ∧ Below W.heap.size W w') ?_ ?_
  rotate_left
  · intro hCont
    refine two_ (i := 4) (j := 10) (Ni := some 13) (Nj := some 19) #[true, true, true, true, true, true, true, true, true, false, false, true, true, true, true, false, false, false] #[true, true, true, true, false, true, true, true, true, false, true, true, true, true, true, false, false, false] rfl rfl rfl rfl (by kernel_rfl) (by decide) (by decide) (fun K hK => ?_) (fun K hK => ?_)
    · skip
      refine goes_ Try.func30 (by kernel_rfl) rfl #[.slice AB bl.length cB] (by rfl) rfl rfl (by simp only [List.map_toArray, List.map_cons, List.map_nil]; rfl) ?_
      with_reducible refine ((hcB _ HB.out)).mono ?_
      rintro e w4 ⟨v4, rfl, hr4, hb4, hl4⟩
      refine ⟨_, rfl, ?_⟩
      have HR4 := Aside0.mk hr4
      have nHB_ := Aside0.mk (below_step HB.out hb4)
      clear HB
      have HB := nHB_
      clear nHB_
      clear hr4 hb4
      refine hK.out _ _ ⟨(hc0 _ HB.out), (hc1 _ HB.out), (hc3 _ HB.out)⟩ (fun hHeld => ?_)
      clear hK K
      refine norm_ (a' := ?_) ?_ ?_
      rotate_left
      · show Act.put _ (some 13) _ = _
        simp only [Act.put, List.setIfInBounds_toArray, List.set_cons_zero, List.set_cons_succ, i64_w, i32_w]
        rfl
      refine two_ (i := 9) (j := 10) (Ni := some 18) (Nj := some 19) #[true, true, true, true, true, true, true, true, true, true, false, true, true, true, true, false, false, false] #[true, true, true, true, true, true, true, true, true, false, true, true, true, true, true, false, false, false] rfl rfl rfl rfl (by kernel_rfl) (by decide) (by decide) (fun K hK => ?_) (fun K hK => ?_)
      · skip
        refine goes_ Try.func31 (by kernel_rfl) rfl #[.slice AQ q.length cQ] (by rfl) rfl rfl (by simp only [List.map_toArray, List.map_cons, List.map_nil]; rfl) ?_
        with_reducible refine ((hcQ _ HB.out)).mono ?_
        rintro e w9 ⟨v9, rfl, hr9, hb9, hl9⟩
        refine ⟨_, rfl, ?_⟩
        have HR9 := Aside0.mk hr9
        have nHR4_ := Aside0.mk (Kd.R_below HR4.out hb9)
        clear HR4
        have HR4 := nHR4_
        clear nHR4_
        have nHB_ := Aside0.mk (below_step HB.out hb9)
        clear HB
        have HB := nHB_
        clear nHB_
        clear hr9 hb9
        refine hK.out _ _ ⟨(hc0 _ HB.out), (hc1 _ HB.out), (hc3 _ HB.out)⟩ (fun hHeld => ?_)
        clear hK K
        refine norm_ (a' := ?_) ?_ ?_
        rotate_left
        · show Act.put _ (some 18) _ = _
          simp only [Act.put, List.setIfInBounds_toArray, List.set_cons_zero, List.set_cons_succ, i64_w, i32_w]
          rfl
        refine one_ (i := 10) (N := some 19) #[true, true, true, true, true, true, true, true, true, true, true, true, true, true, true, false, false, false] rfl rfl (by kernel_rfl) (by decide) (fun K hK => ?_)
        refine value_ (w1 := ?_) (v := ?_) (by rfl) rfl ?_ ?_
        rotate_left 2
        · go_simp
          rw [run_mk]
          rfl
        have HM := Aside0.mk (alloc_new_of HB.out (.map #[] 0))
        have HL := Aside0.mk HB.out.size
        have nHR4_ := Aside0.mk (Kd.R_alloc HR4.out (.map #[] 0))
        clear HR4
        have HR4 := nHR4_
        clear nHR4_
        have nHR9_ := Aside0.mk (Kd.R_alloc HR9.out (.map #[] 0))
        clear HR9
        have HR9 := nHR9_
        clear nHR9_
        have nHB_ := Aside0.mk (below_alloc HB.out (.map #[] 0))
        clear HB
        have HB := nHB_
        clear nHB_
        refine hK.out _ _ ⟨(hc0 _ HB.out), (hc1 _ HB.out), (hc3 _ HB.out)⟩ (fun hHeld => ?_)
        clear hK K
        refine norm_ (a' := ?_) ?_ ?_
        rotate_left
        · show Act.put _ (some 19) _ = _
          simp only [Act.put, List.setIfInBounds_toArray, List.set_cons_zero, List.set_cons_succ, i64_w, i32_w]
          rfl
        exact norm_ (by simp only [putAll, Act.put, List.setIfInBounds_toArray, List.set_cons_zero, List.set_cons_succ]) (hCont (v4, v9, w9.heap.size) _ ⟨HR4.out, HR9.out, HM.out, HL.out, HB.out⟩)
      · skip
        refine value_ (w1 := ?_) (v := ?_) (by rfl) rfl ?_ ?_
        rotate_left 2
        · go_simp
          rw [run_mk]
          rfl
        have HM := Aside0.mk (alloc_new_of HB.out (.map #[] 0))
        have HL := Aside0.mk HB.out.size
        have nHR4_ := Aside0.mk (Kd.R_alloc HR4.out (.map #[] 0))
        clear HR4
        have HR4 := nHR4_
        clear nHR4_
        have nHB_ := Aside0.mk (below_alloc HB.out (.map #[] 0))
        clear HB
        have HB := nHB_
        clear nHB_
        refine hK.out _ _ ⟨(hc0 _ HB.out), (hc1 _ HB.out), (hc3 _ HB.out)⟩ (fun hHeld => ?_)
        clear hK K
        refine norm_ (a' := ?_) ?_ ?_
        rotate_left
        · show Act.put _ (some 19) _ = _
          simp only [Act.put, List.setIfInBounds_toArray, List.set_cons_zero, List.set_cons_succ, i64_w, i32_w]
          rfl
        refine one_ (i := 9) (N := some 18) #[true, true, true, true, true, true, true, true, true, true, true, true, true, true, true, false, false, false] rfl rfl (by kernel_rfl) (by decide) (fun K hK => ?_)
        refine goes_ Try.func31 (by kernel_rfl) rfl #[.slice AQ q.length cQ] (by rfl) rfl rfl (by simp only [List.map_toArray, List.map_cons, List.map_nil]; rfl) ?_
        with_reducible refine ((hcQ _ HB.out)).mono ?_
        rintro e w9 ⟨v9, rfl, hr9, hb9, hl9⟩
        refine ⟨_, rfl, ?_⟩
        have HR9 := Aside0.mk hr9
        have nHR4_ := Aside0.mk (Kd.R_below HR4.out hb9)
        clear HR4
        have HR4 := nHR4_
        clear nHR4_
        have nHM_ := Aside0.mk ((hb9.block _ (heap_lt HM.out)).trans HM.out)
        clear HM
        have HM := nHM_
        clear nHM_
        have nHB_ := Aside0.mk (below_step HB.out hb9)
        clear HB
        have HB := nHB_
        clear nHB_
        clear hr9 hb9
        refine hK.out _ _ ⟨(hc0 _ HB.out), (hc1 _ HB.out), (hc3 _ HB.out)⟩ (fun hHeld => ?_)
        clear hK K
        refine norm_ (a' := ?_) ?_ ?_
        rotate_left
        · show Act.put _ (some 18) _ = _
          simp only [Act.put, List.setIfInBounds_toArray, List.set_cons_zero, List.set_cons_succ, i64_w, i32_w]
          rfl
        exact norm_ (by simp only [putAll, Act.put, List.setIfInBounds_toArray, List.set_cons_zero, List.set_cons_succ]) (hCont (v4, v9, w4.heap.size) _ ⟨HR4.out, HR9.out, HM.out, HL.out, HB.out⟩)
    · skip
      refine value_ (w1 := ?_) (v := ?_) (by rfl) rfl ?_ ?_
      rotate_left 2
      · go_simp
        rw [run_mk]
        rfl
      have HM := Aside0.mk (alloc_new_of HB.out (.map #[] 0))
      have HL := Aside0.mk HB.out.size
      have nHB_ := Aside0.mk (below_alloc HB.out (.map #[] 0))
      clear HB
      have HB := nHB_
      clear nHB_
      refine hK.out _ _ ⟨(hc0 _ HB.out), (hc1 _ HB.out), (hc3 _ HB.out)⟩ (fun hHeld => ?_)
      clear hK K
      refine norm_ (a' := ?_) ?_ ?_
      rotate_left
      · show Act.put _ (some 19) _ = _
        simp only [Act.put, List.setIfInBounds_toArray, List.set_cons_zero, List.set_cons_succ, i64_w, i32_w]
        rfl
      refine one_ (i := 4) (N := some 13) #[true, true, true, true, true, true, true, true, true, false, true, true, true, true, true, false, false, false] rfl rfl (by kernel_rfl) (by decide) (fun K hK => ?_)
      refine goes_ Try.func30 (by kernel_rfl) rfl #[.slice AB bl.length cB] (by rfl) rfl rfl (by simp only [List.map_toArray, List.map_cons, List.map_nil]; rfl) ?_
      with_reducible refine ((hcB _ HB.out)).mono ?_
      rintro e w4 ⟨v4, rfl, hr4, hb4, hl4⟩
      refine ⟨_, rfl, ?_⟩
      have HR4 := Aside0.mk hr4
      have nHM_ := Aside0.mk ((hb4.block _ (heap_lt HM.out)).trans HM.out)
      clear HM
      have HM := nHM_
      clear nHM_
      have nHB_ := Aside0.mk (below_step HB.out hb4)
      clear HB
      have HB := nHB_
      clear nHB_
      clear hr4 hb4
      refine hK.out _ _ ⟨(hc0 _ HB.out), (hc1 _ HB.out), (hc3 _ HB.out)⟩ (fun hHeld => ?_)
      clear hK K
      refine norm_ (a' := ?_) ?_ ?_
      rotate_left
      · show Act.put _ (some 13) _ = _
        simp only [Act.put, List.setIfInBounds_toArray, List.set_cons_zero, List.set_cons_succ, i64_w, i32_w]
        rfl
      refine one_ (i := 9) (N := some 18) #[true, true, true, true, true, true, true, true, true, true, true, true, true, true, true, false, false, false] rfl rfl (by kernel_rfl) (by decide) (fun K hK => ?_)
      refine goes_ Try.func31 (by kernel_rfl) rfl #[.slice AQ q.length cQ] (by rfl) rfl rfl (by simp only [List.map_toArray, List.map_cons, List.map_nil]; rfl) ?_
      with_reducible refine ((hcQ _ HB.out)).mono ?_
      rintro e w9 ⟨v9, rfl, hr9, hb9, hl9⟩
      refine ⟨_, rfl, ?_⟩
      have HR9 := Aside0.mk hr9
      have nHR4_ := Aside0.mk (Kd.R_below HR4.out hb9)
      clear HR4
      have HR4 := nHR4_
      clear nHR4_
      have nHM_ := Aside0.mk ((hb9.block _ (heap_lt HM.out)).trans HM.out)
      clear HM
      have HM := nHM_
      clear nHM_
      have nHB_ := Aside0.mk (below_step HB.out hb9)
      clear HB
      have HB := nHB_
      clear nHB_
      clear hr9 hb9
      refine hK.out _ _ ⟨(hc0 _ HB.out), (hc1 _ HB.out), (hc3 _ HB.out)⟩ (fun hHeld => ?_)
      clear hK K
      refine norm_ (a' := ?_) ?_ ?_
      rotate_left
      · show Act.put _ (some 18) _ = _
        simp only [Act.put, List.setIfInBounds_toArray, List.set_cons_zero, List.set_cons_succ, i64_w, i32_w]
        rfl
      exact norm_ (by simp only [putAll, Act.put, List.setIfInBounds_toArray, List.set_cons_zero, List.set_cons_succ]) (hCont (v4, v9, W.drew.heap.size) _ ⟨HR4.out, HR9.out, HM.out, HL.out, HB.out⟩)
  rintro ⟨v4, v9, mm⟩ w3 ⟨hr4, hr9, hm3, hle3, hb3⟩
  simp only at hr4 hr9 hm3 hle3
  obtain ⟨A4, c4, rfl⟩ := Kd.R_slice hr4
  obtain ⟨A9, c9, rfl⟩ := Kd.R_slice hr9
  have HR4 := Aside0.mk hr4
  have HR9 := Aside0.mk hr9
  have HM := Aside0.mk hm3
  have HL := Aside0.mk hle3
  have HB := Aside0.mk hb3
  have hHeld : (w3.cell? ⟨D, 0, none⟩ = some (.slice AB bl.length cB)) ∧ (w3.cell? ⟨D, 1, none⟩ = some (.slice AQ q.length cQ)) ∧ (w3.cell? ⟨D, 3, none⟩ = some (.int .i64 last)) := ⟨hc0 _ hb3, hc1 _ hb3, hc3 _ hb3⟩
  clear hr4 hr9 hm3 hle3 hb3
  refine norm_ (a' := ?_) ?_ ?_
  rotate_left
  · simp only [putAll, Act.put, List.setIfInBounds_toArray, List.set_cons_zero, List.set_cons_succ]
    rfl
  refine pure_ (i := 15) (N := some 24) (v := ?_) (a' := ?_) #[true, true, true, true, true, true, true, true, true, true, true, true, true, true, true, true, false, false] rfl rfl (by kernel_rfl) (fun _ _ _ h => h) (Or.inl ⟨by rfl, ?_⟩) ?_ ?_
  rotate_left
  · intro w'
    go_simp
    with_reducible rfl
  rotate_left
  · simp only [Act.put, List.setIfInBounds_toArray, List.set_cons_zero, List.set_cons_succ, i64_w, i32_w]
    rfl
  refine one_ (i := 16) (N := some 25) #[true, true, true, true, true, true, true, true, true, true, true, true, true, true, true, true, true, false] rfl rfl (by kernel_rfl) (by decide) (fun K hK => ?_)
  refine value_ (w1 := ?_) (v := ?_) (by rfl) rfl ?_ ?_
  rotate_left 2
  · go_simp
    constructor
    · rfl
    · rfl
  refine hK.out _ _ ⟨(hc0 _ (below_alloc HB.out (.cells #[.slice A4 bl.length c4, .slice A9 q.length c9, .map (some mm), .int .i64 last] 45))), (hc1 _ (below_alloc HB.out (.cells #[.slice A4 bl.length c4, .slice A9 q.length c9, .map (some mm), .int .i64 last] 45))), (hc3 _ (below_alloc HB.out (.cells #[.slice A4 bl.length c4, .slice A9 q.length c9, .map (some mm), .int .i64 last] 45)))⟩ (fun hHeld => ?_)
  clear hK K
  refine norm_ (a' := ?_) ?_ ?_
  rotate_left
  · show Act.put _ (some 25) _ = _
    simp only [Act.put, List.setIfInBounds_toArray, List.set_cons_zero, List.set_cons_succ, i64_w, i32_w]
    rfl
  refine pure_ (i := 17) (N := some 3) (v := ?_) (a' := ?_) #[true, true, true, true, true, true, true, true, true, true, true, true, true, true, true, true, true, true] rfl rfl (by kernel_rfl) (fun _ _ _ h => h) (Or.inl ⟨by rfl, ?_⟩) ?_ ?_
  rotate_left
  · intro w'
    go_simp
    with_reducible rfl
  rotate_left
  · simp only [Act.put, List.setIfInBounds_toArray, List.set_cons_zero, List.set_cons_succ, i64_w, i32_w]
    rfl
  refine done_ (by kernel_rfl) ?_

  have HB4 := Aside0.mk (below_alloc HB.out (.cells #[.slice A4 bl.length c4, .slice A9 q.length c9, .map (some mm), .int .i64 last] 45))
  have HD4 := Aside0.mk (alloc_new_of HB.out (.cells #[.slice A4 bl.length c4, .slice A9 q.length c9, .map (some mm), .int .i64 last] 45))
  have HRB := Aside0.mk (Kd.R_alloc HR4.out (.cells #[.slice A4 bl.length c4, .slice A9 q.length c9, .map (some mm), .int .i64 last] 45))
  have HRQ := Aside0.mk (Kd.R_alloc HR9.out (.cells #[.slice A4 bl.length c4, .slice A9 q.length c9, .map (some mm), .int .i64 last] 45))
  have HM4 := Aside0.mk ((heap_alloc_old _ (.cells #[.slice A4 bl.length c4, .slice A9 q.length c9, .map (some mm), .int .i64 last] 45) _ (heap_lt HM.out)).trans HM.out)
  have HL4 := Aside0.mk HB.out.size
  have HMD := Aside0.mk (show mm ≠ w3.heap.size by have := heap_lt HM.out; omega)
  have HLT4 := Aside0.mk (show w3.heap.size < (w3.alloc (.cells #[.slice A4 bl.length c4, .slice A9 q.length c9, .map (some mm), .int .i64 last] 45)).heap.size by simp)
  clear HR4 HR9 HM HB hHeld
  generalize w3.alloc (.cells #[.slice A4 bl.length c4, .slice A9 q.length c9, .map (some mm), .int .i64 last] 45) = W4 at *
  generalize w3.heap.size = D4 at *
  have hcm := hc2 W4 HB4.out
  have hO4 := HO.out.at_ (HB4.out.block m hmlt.2)
  gi_wp2_with (first
    | (gi_at_range; refine wpListIn_range_own _ rfl _ 43 rfl 3 3 (Maps.int_keyed Try.underlying3) Try.underlying43 _ m n _ rfl hO4 ?_; intro w5 hrg0 hg0 hs0)
    | gi_in)
  go_frame
  gi_loopw [4] (fun _ wr => ∃ (left : Lit → Bool) (cnt : Nat) (Dout : DataW Unit), wr.ranges Try.prog 3 (plainElem Try.prog 3) m W4.heap.size n Dm left cnt ∧ cnt ≤ Maps.size Dm ∧
      wr.ownsMap Try.prog 3 (plainElem Try.prog 3) mm (Maps.size Dm - cnt) Dout ∧ Agree Dout Dm left ∧ Aside0 (Below W.heap.size W wr) ∧ Aside0 (wr.heap[D4]? = some (.cells #[.slice A4 bl.length c4, .slice A9 q.length c9, .map (some mm), .int .i64 last] 45 (0, 0))) ∧ Aside0 (Kd.R (Kd.slice 5 (Kd.int .u8)) 30 wr W.heap.size (fun k => k < W4.heap.size) (.slice A4 bl.length c4) bl) ∧ Aside0 (Kd.R k32 32 wr W.heap.size (fun k => k < W4.heap.size) (.slice A9 q.length c9) q))
    (fun _ wr => wr.rangeLeft m W4.heap.size)
  case atStart =>
    exact ⟨_, _, .map [], hrg0, Nat.le_refl _, ((made_own HM4.out _).at_ (hg0.block mm (heap_lt HM4.out) (by simp))), agree_start Dm, ⟨HB4.out.grown hg0 HB4.out.size (fun j hj => by cases hj)⟩, ⟨(hg0.block D4 HLT4.out (by simp)).trans HD4.out⟩, ⟨Kd.R_grown (Kd.R_mono (Kd.R_bound HRB.out) (fun k hk => hk.2.2.1)) hg0 (by simp)⟩, ⟨Kd.R_grown (Kd.R_mono (Kd.R_bound HRQ.out) (fun k hk => hk.2.2.1)) hg0 (by simp)⟩⟩
  case round =>
    obtain ⟨left, cnt, Dout, hrg, hcs, hout, hA, HB5, HD5, HRB5, HRQ5⟩ := hrel
    gi_wp2_with (first
      | (gi_at_next; refine wpListIn_next_ranges_ii _ rfl _ rfl 3 3 .i64 .i64 (Maps.int_keyed Try.underlying3) Try.underlying3 Try.underlying3 m W4.heap.size n _ _ _ rfl hrg ?_ ?_)
      | gi_in)
    · intro hc0 hl0
      gi_wp2
      go_ret
      subst hc0
      have e := agree_end hA hl0 (hout.canon (Maps.int_keyed Try.underlying3)) (HO.out.canon (Maps.int_keyed Try.underlying3))
      subst e
      have hlt := heap_lt HD5.out
      obtain ⟨es, ck, hm6, r6⟩ := hout
      refine ⟨D4, mm, _, rfl, ⟨hf, ⟨_, _, HD5.out, Kd.R_mono (Kd.R_bound HRB5.out) (fun k hk => ⟨hk.2.1, hk.2.2.1⟩), Kd.R_mono (Kd.R_bound HRQ5.out) (fun k hk => ⟨hk.2.1, hk.2.2.1⟩)⟩, hm6, ⟨_, _, rfl⟩, ⟨by have := HL4.out; omega, hlt⟩, ⟨HL.out, heap_lt hm6⟩, fun k hk => hk⟩, ⟨es, ck, hm6, r6⟩, HB5.out⟩
    · intro x c w1 cnt1 hwx hwc hlx hat hrg1 hlt hg1 hs1 hen
      have hrs : W4.heap.size < wr.heap.size := hrg.lt
      have hout1 := hout.kept hg1 (by have := heap_lt HM4.out; simp; omega)
      have hmm1 : mm < w1.heap.size := hout1.lt
      have HD6 := Aside0.mk ((hg1.block D4 (heap_lt HD5.out) (by have := HLT4.out; simp; omega)).trans HD5.out)
      have c2 : w1.cell? ⟨D4, 2, none⟩ = some (.map (some mm)) := (by simp [World.cell?, HD6.out])
      gi_wp2_with (first
        | (gi_at_mapUpdate; refine wpListIn_mapUpdate_own _ rfl _ _ _ 43 rfl 3 3 (Maps.int_keyed Try.underlying3) Try.underlying43 _ mm _ _ rfl hout1 (by omega) _ _ _ rfl rfl (Maps.keyOf_int_mk Try.underlying3 hwx) _ [] (plainElem_int Try.underlying3 hwc) ?_; intro w2 hout2 hg2; go_frame)
        | gi_in)
      have hmm4 := heap_lt HM4.out
      have hwm : W.heap.size ≤ mm := HL.out
      have hrg2 := hrg1.kept hg2 (fun e => by have := Option.some.inj e; have := hmlt.2; omega) (fun e => by have := Option.some.inj e; omega)
      go_roundw
      case rel =>
        exact ⟨_, cnt1, _, hrg2, by omega, hout2.mono (by omega), agree_step hA hout.isMap trivial hat, ⟨(HB5.out.grown hg1 HB5.out.size (fun j hj => by cases hj; exact HB4.out.size)).grown hg2 (by have := HB5.out.size; have := hg1.size; omega) (fun j hj => by cases hj; exact HL.out)⟩,
          ⟨(hg2.block D4 (heap_lt HD6.out) (fun e => HMD.out (Option.some.inj e).symm)).trans HD6.out⟩,
          ⟨Kd.R_mono (Kd.R_grown (R_map (Kd.R_grown HRB5.out hg1 (fun k hk e => by have := Option.some.inj e; omega)) hout1) hg2 (fun k hk e => hk.2 (Option.some.inj e))) (fun k hk => hk.1)⟩,
          ⟨Kd.R_mono (Kd.R_grown (R_map (Kd.R_grown HRQ5.out hg1 (fun k hk e => by have := Option.some.inj e; omega)) hout1) hg2 (fun k hk e => hk.2 (Option.some.inj e))) (fun k hk => hk.1)⟩⟩
      case measure => rw [hrg2.left_eq, hrg.left_eq]; exact hlt
end Go.Proofs.Ytbopccjcehnfnaa.Dk
