/- Written by a program of this session. fore.Blocks: an image of bytes. -/
import Derived.Test.YtalmfdlnmhhbbaaCc
import Derived.Test.YtalmfdlnmhhbbaaCk
import Derived.Test.YtalmfdlnmhhbbaaRb
namespace Go.Proofs.Ytalmfdlnmhhbbaa.Sp
open Go Go.RowKit Go.Shelf Go.Proofs Go.Proofs.Ytalmfdlnmhhbbaa.Ap Go.Proofs.Ytalmfdlnmhhbbaa.XFb Go.Proofs.YtalmfdlnmhhbbaaW.PrintWords Go.Proofs.YtalmfdlnmhhbbaaW.PrintLast Go.Proofs.YtalmfdlnmhhbbaaW.PrintMore
set_option linter.unusedVariables false
set_option linter.unusedSimpArgs false
theorem infosl : (Try.prog.info? 22).map (fun i => (i.zero, i.size, i.bytes)) = some (some (.slice none 0 0), 1, 24) := by kernel_rfl
def chL (l : List Int) (n : Nat) : List (List Int) := (List.range n).map fun j => (l.drop (j * 128)).take 128
theorem chL_snoc (l : List Int) (n : Nat) : chL l n ++ [(l.drop (n * 128)).take 128] = chL l (n + 1) := by
  unfold chL
  rw [List.range_succ, List.map_append]; rfl
theorem chL_len (l : List Int) (n : Nat) : (chL l n).length = n := by unfold chL; simp
theorem C_piece {W : World} {ad : Addr} {l : List Int} (hC : Kd.C (Kd.int .u8) W (some ad) l.length l) (o m : Nat) (ho : o + m ≤ l.length) : Kd.C (Kd.int .u8) W (some (ad.add o)) m ((l.drop o).take m) := by
  have hY : ReadsOf (Value.int .u8) 0 W (some ad) l.length l := Kd.reads_of_C hC
  have hl : ((l.drop o).take m).length = m := by rw [List.length_take, List.length_drop]; omega
  refine Kd.C_of_reads (d := (0 : Int)) (enc := Value.int .u8) (h1 := fun _ => rfl) ⟨hl, by have := hC.2.1; omega, fun hm => ⟨_, rfl, fun j hj => ?_⟩⟩
  obtain ⟨ad', e, hc⟩ := hY.2.2 (by omega)
  injection e with e; subst e
  have h1 := hc (o + j) (by omega)
  have h2 : ((l.drop o).take m).getD j 0 = l.getD (o + j) 0 := by
    rw [List.getD_eq_getElem?_getD, List.getD_eq_getElem?_getD, List.getElem?_take, if_pos hj, List.getElem?_drop]
  rw [h2, ← h1]
  congr 1
  unfold Addr.add
  by_cases h3 : o = 0 <;> by_cases h4 : j = 0 <;> simp [h3, h4, Nat.add_assoc]

theorem allocOld (W : World) (o : Obj) (k : Nat) (h : k < W.heap.size) : (W.alloc o).heap[k]? = W.heap[k]? := Below.heap_alloc _ _ _ h
theorem allocNew (W : World) (o : Obj) (k : Nat) (h : k = W.heap.size) : (W.alloc o).heap[k]? = some o := by subst h; exact World.alloc_heap_new W o
set_option maxRecDepth 100000 in
set_option maxHeartbeats 8000000 in
attribute [local go_sem] Oper.semAt_some in
theorem blocks_good (w : World) (A : Option Addr) (c m : Nat) (l : List Int) (hl : l.length = 128 * m) (h1 : 1 ≤ m) (h2 : m ≤ 2048) (hC : Kd.C (Kd.int .u8) w A l.length l) (hc : l.length ≤ c) :
    Calls Try.prog 5 #[.slice A l.length c] w fun e w' => ∃ v, e = .returned (.tuple #[v, .int .i64 0]) ∧ Kd.R (Kd.slice 5 (Kd.int .u8)) 22 w' w.heap.size (fun _ => True) v (chL l m) ∧ Below w.heap.size w w' := by
  obtain ⟨ad, rfl⟩ : ∃ ad, A = some ad := by
    obtain ⟨ad, e, _⟩ := hC.2.2 (by omega)
    exact ⟨ad, e⟩
  have HC := fun (W : World) (hb : Below w.heap.size w W) => Kd.C_below hC hb
  refine (callsIn_wide (n := 5)).1 ?_
  refine callsIn_of_wp_marks Try.func5 rfl trivial ?_ rfl
  simp only [Try.ntmps5, List.size_toArray, List.length_cons, List.length_nil, Nat.reduceAdd, Nat.reduceSub, Array.replicate_succ, Array.replicate_zero, List.push_toArray, List.append_toArray, List.nil_append, List.cons_append]
  have HL := Aside0.mk hl
  have hCm : Kd.C (Kd.int .u8) w (some ad) (128 * m) l := by rw [← hl]; exact hC
  rw [hl] at hc
  rw [hl]
  clear hl
  have t2 : decide ((2048 : Int) < (m : Int)) = false := decide_eq_false (by omega)
  gi_wp2_with (refine ⟨trivial, ?_⟩; gi_at_call 12; refine (Go.Proofs.Ytalmfdlnmhhbbaa.Ck.chunk_in _ _ _ _ (by omega) _ _).mono ?_; rintro e w' ⟨rfl, hw⟩; rw [hw]; clear hw)
  obtain ⟨W0, hW0⟩ : ∃ W0, (((w.alloc (.cells #[Value.slice none 0 0] 23)).alloc (.cells #[Value.slice (some ad) (128 * m) c] 22)).alloc (.cells #[Value.int .i64 128] 3)) = W0 := ⟨_, rfl⟩
  have hs0 : W0.heap.size = w.heap.size + 3 := by rw [← hW0]; simp
  have hB0 : Below w.heap.size w W0 := by
    rw [← hW0]
    repeat (first | exact Below.refl _ _ | refine below_alloc ?_ _)
  have e0 : W0.heap[w.heap.size]? = some (.cells #[Value.slice none 0 0] 23 (0, 0)) := by
    rw [← hW0]; exact (allocOld _ _ _ (by simp only [World.size_alloc]; omega)).trans ((allocOld _ _ _ (by simp only [World.size_alloc]; omega)).trans (allocNew _ _ _ rfl))
  have e1 : W0.heap[w.heap.size + 1]? = some (.cells #[Value.slice (some ad) (128 * m) c] 22 (0, 0)) := by
    rw [← hW0]; exact (allocOld _ _ _ (by simp only [World.size_alloc]; omega)).trans (allocNew _ _ _ (by simp only [World.size_alloc]))
  have e2 : W0.heap[w.heap.size + 2]? = some (.cells #[Value.int .i64 128] 3 (0, 0)) := by
    rw [← hW0]; exact allocNew _ _ _ (by simp only [World.size_alloc])
  rw [hW0]
  refine Rf.range_stops (by rfl) (by omega) (gf := 16) (lb := #[.pointer (some ⟨w.heap.size + 1, 0, none⟩), .pointer (some ⟨w.heap.size + 1 + 1, 0, none⟩)]) rfl trivial (enters_of Try.func16 (by kernel_rfl) rfl)
    (K := fun k => k < w.heap.size ∨ k = w.heap.size + 1 ∨ k = w.heap.size + 2) (by rw [hs0]; omega) (by simp)
    (Go.Proofs.Ytalmfdlnmhhbbaa.Ck.chunk_stops W0 (some ad) (128 * m) c 128 m (by omega) (by omega) (by omega) hc (by omega) (by omega) ad (fun _ => rfl) (w.heap.size + 1) (w.heap.size + 2) (by omega) e1 (by omega) e2 _ (by omega) (by omega) _)
    (fun _ => rfl)
    (fun pre W => ∃ v : Value, W.heap[w.heap.size]? = some (.cells #[v] 23 (0, 0)) ∧ Kd.R (Kd.slice 5 (Kd.int .u8)) 22 W (w.heap.size + 5) (fun _ => True) v (chL l pre.length) ∧ Below w.heap.size w W)
    (fun pre W => False)
    ?hI ?hIx ?h0
    (fun x a' W => a' = { tmps := #[Value.slice (some ad) (128 * m) c, undef, Value.slice none 0 0, Value.int .i64 0, Value.pointer (some { block := w.heap.size, off := 0 }), Go.Proofs.Ytalmfdlnmhhbbaa.Ck.piece ad (128 * m) 128 x, Value.slice (some ad) (128 * m) c, Value.int .i64 (128 * (m : Int)), Value.bool false, Value.bool false, Value.slice (some ad) (128 * m) c, Value.int .i64 (128 * (m : Int)), Value.int .i64 0, Value.bool false, Value.bool false, Value.bool false, Value.slice (some ad) (128 * m) c, Value.int .i64 (128 * (m : Int)), Value.int .i64 m, Value.bool false, Value.bool false, Value.slice (some ad) (128 * m) c,
        Value.func (Fn.func 16) #[] #[Value.pointer (some { block := w.heap.size + 1, off := 0 }), Value.pointer (some { block := w.heap.size + 1 + 1, off := 0 })], Go.Proofs.Ytalmfdlnmhhbbaa.Ck.piece ad (128 * m) 128 x, undef, undef, undef, undef, undef, undef], defers := [] })
    ?hAx ?assign ?body ?done ?stop
  case hI =>
    rintro pre A A' row ⟨v, h0, hR, hB⟩ hg hr
    have hr' : ∀ r, row = some r → w.heap.size + 3 ≤ r ∧ r < w.heap.size + 5 := fun r e => by rcases hr r e with h | h | h <;> first | omega | exact h.elim
    refine ⟨v, (hg.block _ (Array.getElem?_eq_some_iff.1 h0).1 (fun e => by have := hr' _ e.symm; omega)).trans h0, ?_, hB.trans ⟨hg.os, hg.tape, hg.output, hg.size, fun k hk => hg.block k (by have := hB.size; omega) (fun e => by have := hr' k e.symm; omega)⟩⟩
    refine Kd.R_mono (Kd.R_grown (Kd.R_bound hR) hg (fun k hk e => by have := hr' k e.symm; omega)) (fun _ _ => trivial)
  case hIx => rintro pre A A' row h; exact h.elim
  case h0 => exact ⟨_, e0, Kd.R_nil _ _ _ _ _, hB0⟩
  case hAx =>
    rintro x a' A A' row h hg hr
    exact h
  case assign =>
    rintro l' pre x W k ⟨hv, hx⟩ hI hsz hk
    rw [show Go.Proofs.Ytalmfdlnmhhbbaa.Ck.piece ad (128 * m) 128 x = .slice (some (ad.add (x * 128))) (min 128 (128 * m - x * 128)) (min 128 (128 * m - x * 128)) from rfl]
    gi_wp2
    exact hk _ _ (Rf.Keep.refl _ _) hI rfl
  case body =>
    rintro l' pre x a' W ⟨rfl, hx⟩ ⟨v, h0, hR, hB⟩ rfl hlen2 hsz
    rw [List.length_range] at hR
    have hP : ((l.drop (x * 128)).take 128).length = 128 := by rw [List.length_take, List.length_drop]; have := HL.out; omega
    have hpc : Go.Proofs.Ytalmfdlnmhhbbaa.Ck.piece ad (128 * m) 128 x = .slice (some (ad.add (x * 128))) 128 128 := by
      unfold Go.Proofs.Ytalmfdlnmhhbbaa.Ck.piece
      rw [show min 128 (128 * m - x * 128) = 128 by omega]
    rw [hpc]
    have cL : W.cell? ⟨w.heap.size, 0, none⟩ = some v := by simp [World.cell?, h0]
    have h0d : W.drew.heap[w.heap.size]? = some (.cells #[v] 23 (0, 0)) := h0
    have hRd := Kd.R_drew hR
    have hBd : Below w.heap.size w W.drew := below_drew hB
    have hsd : W.drew.heap.size = W.heap.size := rfl
    have hcall : ∀ n, CallsIn (Fence.wide.inRound l') n Try.prog 4 #[.slice (some (ad.add (x * 128))) 128 128] W.drew (fun e w' => ∃ v0 : Value, e = .returned v0 ∧ Kd.R (Kd.int .u8) 5 w' W.drew.heap.size (fun _ => True) v0 ((l.drop (x * 128)).take 128) ∧ Below W.drew.heap.size W.drew w') := fun n => by
      have h1 := C_piece (HC W.drew hBd) (x * 128) 128 (by have := HL.out; omega)
      have := bytes_Clone.calls (some (ad.add (x * 128))) 128 ((l.drop (x * 128)).take 128) ((l.drop (x * 128)).take 128) W.drew (by rw [hP]; exact h1) (by omega) (by unfold bytes_Clone.f; rw [if_pos (by omega)])
      rw [hP] at this
      exact CallsIn.inRound l' (callsIn_wide.2 this)
    have hs3 : w.heap.size + 5 ≤ W.heap.size := by omega
    clear hpc HC hC hCm hW0
    have hdc := (callsIn_wide (n := 0)).1 (hcall 0).outOfRound
    have cD : W.drew.cell? ⟨w.heap.size, 0, none⟩ = some v := cL
    have HD := Aside0.mk h0d
    have HR := Aside0.mk hRd
    clear hcall hR hRd h0 h0d cL
    refine wpIn_block ?_
    refine Rb.startIn_ (k := 6) (S := fun w' => w'.cell? ⟨w.heap.size, 0, none⟩ = some v) (ds := [5]) (by rintro ⟨a, w, h⟩; rcases h with ⟨h, _⟩ | ⟨h, _⟩ <;> cases h) rfl #[false, false, false, false, false, false] (by kernel_rfl) rfl rfl (cD) (fun hHeld => ?_)
    refine pure_ (i := 1) (N := some 25) (v := ?_) (a' := ?_) #[false, true, false, false, false, false] rfl rfl (by kernel_rfl) (fun _ _ _ h => h) (Or.inl ⟨by rfl, ?_⟩) ?_ ?_
    rotate_left
    · intro w'
      go_simp
      with_reducible rfl
    rotate_left
    · simp only [Act.put, List.setIfInBounds_toArray, List.set_cons_zero, List.set_cons_succ, i64_w, i32_w]
      rfl
    refine take_ (i := 0) (N := some 24) (v := ?_) (a' := ?_) #[true, true, false, false, false, false] rfl rfl (by kernel_rfl) (fun _ _ _ h => h) (Or.inl ⟨by rfl, ?_⟩) hHeld ?_ ?_
    rotate_left
    · intro w' s0
      go_simp
      with_reducible rfl
    rotate_left
    · simp only [Act.put, List.setIfInBounds_toArray, List.set_cons_zero, List.set_cons_succ, i64_w, i32_w]
      rfl
    refine one_ (i := 2) (N := some 26) #[true, true, true, false, false, false] rfl rfl (by kernel_rfl) (by decide) (fun K hK => ?_)
    refine goes_ Try.func4 (by kernel_rfl) rfl #[.slice (some (ad.add (x * 128))) 128 128] (by rfl) rfl rfl (by simp only [List.map_toArray, List.map_cons, List.map_nil]; rfl) ?_
    with_reducible refine (hdc).mono ?_
    rintro e w1 ⟨v0, rfl, hr1, hb1⟩
    refine ⟨_, rfl, ?_⟩
    obtain ⟨A1, c1, hv0⟩ := Kd.R_slice hr1
    rw [hP] at hv0
    subst hv0
    have H1 := Aside0.mk ((hb1.block _ (Array.getElem?_eq_some_iff.1 HD.out).1).trans HD.out)
    have HR1 := Aside0.mk hr1
    have HV1 := Aside0.mk (Kd.R_below HR.out hb1)
    have HB1 := Aside0.mk hb1
    clear hr1 hb1
    refine hK.out _ _ ((by simp [World.cell?, H1.out])) (fun hHeld => ?_)
    clear hK K
    refine norm_ (a' := ?_) ?_ ?_
    rotate_left
    · show Act.put _ (some 26) _ = _
      simp only [Act.put, List.setIfInBounds_toArray, List.set_cons_zero, List.set_cons_succ, i64_w, i32_w]
      rfl
    refine one_ (i := 3) (N := some 27) #[true, true, true, true, false, false] rfl rfl (by kernel_rfl) (by decide) (fun K hK => ?_)
    refine value_ (w1 := ?_) (v := ?_) (by rfl) rfl ?_ ?_
    rotate_left 2
    · go_simp
      constructor
      · rfl
      · rfl
    refine hK.out _ _ ((by simp [World.cell?, heap_alloc_old _ _ _ (show w.heap.size < w1.heap.size by have := HB1.out.size; omega), H1.out])) (fun hHeld => ?_)
    clear hK K
    refine norm_ (a' := ?_) ?_ ?_
    rotate_left
    · show Act.put _ (some 27) _ = _
      simp only [Act.put, List.setIfInBounds_toArray, List.set_cons_zero, List.set_cons_succ, i64_w, i32_w]
      rfl
    refine one_ (i := 4) (N := some 28) #[true, true, true, true, true, false] rfl rfl (by kernel_rfl) (by decide) (fun K hK => ?_)
    refine Kd.R_append_step (Kd.slice 5 (Kd.int .u8)) (w0 := W.drew) (w.heap.size + 5) (by rfl) (.tmp 24) (.tmp 27) 23 22 (.slice none 0 0) 24 rfl Try.underlying23 infosl rfl (by decide) (by decide) v (chL l x) ((l.drop (x * 128)).take 128) [_] (fun _ => True) (fun k => W.drew.heap.size ≤ k) rfl rfl ⟨_, rfl, Kd.R_mono (Kd.R_lower (Kd.R_bound HR1.out) (by omega)) (fun k hk => hk.2.1)⟩ ?okp ?fresh HV1.out ?below ?base ?room ?_
    case okp => exact fun k hk => ⟨trivial, fun e => by have := Kd.R_lt HR.out k e.symm; omega⟩
    case fresh => exact fun _ _ => trivial
    case below => exact ⟨HB1.out.os, HB1.out.tape, HB1.out.output, HB1.out.size, fun k hk => HB1.out.block k (by omega)⟩
    case base => have := HB1.out.size; omega
    case room => rw [chL_len]; omega
    intro v2 w2 hr2 hb2 hg2 ht2
    obtain ⟨ad2, cp2, rfl⟩ := Kd.R_slice1 hr2 (by simp)
    have HR2 := Aside0.mk hr2
    have HB2 := Aside0.mk hb2
    have H2 := Aside0.mk (show w2.heap[w.heap.size]? = some (.cells #[v] 23 (0, 0)) from (hg2.block _ (by have := HB1.out.size; omega) (fun e => by have := Kd.R_base HR.out _ e.symm; omega)).trans H1.out)
    have c2 : w2.cell? ⟨w.heap.size, 0, none⟩ = some v := (by simp [World.cell?, H2.out])
    have f2 : w2.frozen? ⟨w.heap.size, 0, none⟩ = false := (by simp [World.frozen?, H2.out])
    have HG2 := Aside0.mk hg2
    clear hr2 hb2 hg2 ht2
    refine hK.out _ _ ((by simp [World.cell?, H2.out])) (fun hHeld => ?_)
    clear hK K
    refine norm_ (a' := ?_) ?_ ?_
    rotate_left
    · show Act.put _ (some 28) _ = _
      simp only [Act.put, List.setIfInBounds_toArray, List.set_cons_zero, List.set_cons_succ, i64_w, i32_w]
      rfl
    refine last_ (i := 5) (N := none) #[true, true, true, true, true, true] rfl rfl (by kernel_rfl) (by decide) (fun K hK => ?_)
    refine skip_ (w1 := ?_) (by rfl) rfl ?_ ?_
    rotate_left
    · go_simp
      rfl
    refine hK.out _ _ ?_
    clear hK K
    refine done_ (by kernel_rfl) ?_
    obtain ⟨W2, hW2⟩ : ∃ W2, w2.setCell ⟨w.heap.size, 0, none⟩ (Value.slice (some ad2) ((chL l x).length + 1) cp2) = W2 := ⟨_, rfl⟩
    have hg2 : w2.grownBy W2 (some w.heap.size) := hW2 ▸ ⟨rfl, rfl, rfl, by simp [World.setCell], fun k _ hk => Below.heap_setCell w2 ⟨w.heap.size, 0, none⟩ _ k (fun e => hk (by rw [e]))⟩
    have hself : W2.heap[w.heap.size]? = some (.cells #[Value.slice (some ad2) ((chL l x).length + 1) cp2] 23 (0, 0)) := by
      rw [← hW2]
      obtain ⟨hlt, hk⟩ := Array.getElem?_eq_some_iff.1 H2.out
      show (w2.heap.modify w.heap.size _)[w.heap.size]? = _
      rw [Array.getElem?_eq_getElem (by rw [Array.size_modify]; exact hlt), Array.getElem_modify_self, hk]
      rfl
    have hk2 : ∀ k, k < w.heap.size + 5 → k ≠ w.heap.size → W2.heap[k]? = W.heap[k]? := fun k hk hne =>
      (hg2.block k (by have := HB2.out.size; omega) (fun e => hne (Option.some.inj e))).trans (HB2.out.block k hk)
    have hkeep : ∀ K : Nat → Prop, (∀ k, K k → k < w.heap.size + 5 ∧ k ≠ w.heap.size) → Rf.Keep K W W2 := fun K hK =>
      ⟨⟨hg2.os.trans HB2.out.os, hg2.tape.trans HB2.out.tape, hg2.output.trans HB2.out.output, by have := hg2.size; have := HB2.out.size; omega, fun k hk => by omega⟩, fun k hk => hk2 k (hK k hk).1 (hK k hk).2⟩
    have hR2 : Kd.R (Kd.slice 5 (Kd.int .u8)) 22 W2 (w.heap.size + 5) (fun _ => True) (Value.slice (some ad2) ((chL l x).length + 1) cp2) (chL l (x + 1)) := by
      rw [← chL_snoc]
      have hR2 := HR2.out
      rw [List.length_append, List.length_singleton] at hR2
      exact Kd.R_mono (Kd.R_grown (Kd.R_bound hR2) hg2 (fun k hk e => by injection e with e; omega)) (fun _ _ => trivial)
    rw [hW2]
    refine .inl ⟨rfl, hkeep _ (fun k hk => by omega), _, hself, ?_, hB.trans ((hkeep (fun k => k < w.heap.size) (fun k hk => by omega)).below (fun k hk => hk))⟩
    rw [List.length_append, List.length_range]
    exact hR2
  case done =>
    rintro ys W rfl ⟨v, h0, hR, hB⟩ hK
    rw [List.length_range] at hR
    obtain ⟨g', cap', rfl, _⟩ := Kd.R_form hR (by rw [chL_len]; omega)
    rw [chL_len] at h0 hR
    have cL : W.cell? ⟨w.heap.size, 0, none⟩ = some (.slice (some ⟨g', 0, none⟩) m cap') := by simp [World.cell?, h0]
    have HR := Aside0.mk hR
    clear hR
    gi_wp2
    refine ⟨by simp, .inl ⟨_, _, rfl, run_takeDeferred hK, ?_⟩⟩
    have hRF : Kd.R (Kd.slice 5 (Kd.int .u8)) 22 (W.putObj W0.heap.size (.deferred none)) w.heap.size (fun _ => True) (.slice (some ⟨g', 0, none⟩) m cap') (chL l m) := by
      refine Kd.R_lower (base := w.heap.size + 5) ?_ (by omega)
      exact Kd.R_mono (Kd.R_step (Kd.R_bound HR.out) (fun k hk hlt => World.putObj_heap_other (by have := hk.2.1; omega))) (fun _ _ => trivial)
    exact ⟨_, results_tmp2 rfl _ _ _, _, rfl, hRF, hB.trans (belowK_b (w := w) (Nat.le_refl _) W W0.heap.size _ _ (by omega) hK rfl rfl)⟩
  case stop => rintro pre W h1 h; exact h.elim
set_option maxRecDepth 100000 in
set_option maxHeartbeats 4000000 in
theorem blocks_bad (w : World) (A : Option Addr) (c n : Nat) (hn : n ≤ 140737488351232) (h : n = 0 ∨ n % 128 ≠ 0 ∨ 2048 < n / 128) :
    Calls Try.prog 5 #[.slice A n c] w fun e w' => e = .returned (.tuple #[.slice none 0 0, .int .i64 220]) ∧ w' = w := by
  refine (callsIn_wide (n := 5)).1 ?_
  refine callsIn_of_wp_marks Try.func5 rfl trivial ?_ rfl
  simp only [Try.ntmps5, List.size_toArray, List.length_cons, List.length_nil, Nat.reduceAdd, Nat.reduceSub, Array.replicate_succ, Array.replicate_zero, List.push_toArray, List.append_toArray, List.nil_append, List.cons_append]
  by_cases h0 : n = 0
  · subst h0
    gi_wp2
    exact ⟨_, results_tmp2 rfl _ _ _, rfl, rfl⟩
  · have t1 : ((n : Int) == 0) = false := by simp; omega
    by_cases h1 : n % 128 = 0
    · have t2 : ((n : Int) % 128 != 0) = false := by simp; omega
      have t4 : (n : Int) % 128 = 0 := by omega
      have t5 : wrap64 ((n : Int) / 128) = (n : Int) / 128 := IntWalk.wrap64_in _ (by omega)
      have t3 : decide ((2048 : Int) < (n : Int) / 128) = true := decide_eq_true (by omega)
      gi_wp2
      exact ⟨_, results_tmp2 rfl _ _ _, rfl, rfl⟩
    · have t2 : ((n : Int) % 128 != 0) = true := by simp; omega
      have t4 : ¬ (n : Int) % 128 = 0 := by omega
      gi_wp2
      exact ⟨_, results_tmp2 rfl _ _ _, rfl, rfl⟩
end Go.Proofs.Ytalmfdlnmhhbbaa.Sp
