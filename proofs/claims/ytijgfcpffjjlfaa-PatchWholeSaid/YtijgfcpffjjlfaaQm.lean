/- Written by a program of this session. (*Set).Get. -/
import Derived.BigQuiet
import Derived.Deep.QuietTactic
import Derived.Test.YtijgfcpffjjlfaaQl
namespace Go.Proofs.Ytijgfcpffjjlfaa.Pq
open Go Go.RowKit Go.Shelf Go.Proofs Go.Maps Go.Sort Go.Proofs.Ytijgfcpffjjlfaa.XFb Go.Proofs.YtijgfcpffjjlfaaW.PrintWords Go.Proofs.YtijgfcpffjjlfaaW.PrintLast Go.Proofs.YtijgfcpffjjlfaaW.PrintMore
set_option linter.unusedVariables false
set_option linter.unusedSimpArgs false
def getE (l : List Pt) (i : Int) : Int := if i ∈ ids l then 0 else 70
theorem set_os (w : World) (a : Addr) (v : Value) : (w.setCell a v).os = w.os := rfl
theorem set_tape (w : World) (a : Addr) (v : Value) : (w.setCell a v).tape = w.tape := rfl
theorem set_out (w : World) (a : Addr) (v : Value) : (w.setCell a v).output = w.output := rfl
/-- What Get tells. -/
def GetIs (W : World) (l : List Pt) (i : Int) (e : Ending) (W' : World) : Prop := ∃ (A : Option Addr) (k : Nat) (B : Option Addr) (j : Nat), e = .returned (.tuple #[.agg #[.int .i64 (get l i).id, .int .i64 (get l i).blk, .int .i64 (get l i).off, .slice A (get l i).by_.length k, .slice B (pen l (get l i).nd).length j], .int .i64 (getE l i)]) ∧
  RB W' W.heap.size (fun _ => True) (.slice A (get l i).by_.length k) (get l i).by_ ∧ RI W' W.heap.size (fun _ => True) (.slice B (pen l (get l i).nd).length j) (pen l (get l i).nd) ∧ Below W.heap.size W W'
set_option maxRecDepth 100000 in
set_option maxHeartbeats 8000000 in
theorem get_ok {W : World} {base g m d : Nat} {S : Nat → Prop} {l : List Pt} {last : Int} {n : Nat} (h : IsSet W base g m d S l last n) (hn : n ≤ 1000000000) (i : Int) (hw : (Lit.int .i64 i).wf = true) :
    Calls Try.prog 21 #[.pointer (some ⟨g, 0, none⟩), .int .i64 i] W fun e W' => GetIs W l i e W' := by
  have H := Aside0.mk h
  have hfi := Aside0.mk h.fits
  have hle := h.len_le
  obtain ⟨W1, hW1⟩ : ∃ W1, W.alloc (.cells #[.int .i64 0, .int .i64 0, .int .i64 0, .slice none 0 0, .slice none 0 0] 44) = W1 := ⟨_, rfl⟩
  have hb1 : Below W.heap.size W W1 := by rw [← hW1]; exact below_alloc (Below.refl _ _) _
  have hr1 := World.alloc_heap_new W (.cells #[.int .i64 0, .int .i64 0, .int .i64 0, .slice none 0 0, .slice none 0 0] 44)
  rw [hW1] at hr1
  obtain ⟨r4, hr4⟩ : ∃ r4, W.heap.size = r4 := ⟨_, rfl⟩
  rw [hr4] at hr1
  have hr4l : r4 < W1.heap.size := (Array.getElem?_eq_some_iff.1 hr1).1
  have HR1 := Aside0.mk hr1
  have HB1 := Aside0.mk hb1
  have HS1 := Aside0.mk (h.below hb1)
  have HO1 := Aside0.mk (own_ok W1 g _ _ _ HS1.out.cells)
  obtain ⟨A2, k2, B2, j2, r1, r2, q1, q2⟩ := HS1.out.look i hw
  have c2 := HS1.out.map_cell
  have r4c : ∀ (W' : World) {cs : Array Value}, W'.heap[r4]? = some (.cells cs 44 (0, 0)) → ∀ i, W'.frozen? ⟨r4, i, none⟩ = false := fun W' cs h i => by simp [World.frozen?, h]
  clear h hb1 r2
  refine (callsIn_wide (n := 1)).1 ?_
  refine callsIn_of_wp Try.func21 rfl trivial ?_ rfl
  simp only [Try.ntmps21, List.size_toArray, List.length_cons, List.length_nil, Nat.reduceAdd, Nat.reduceSub, Array.replicate_succ, Array.replicate_zero, List.push_toArray, List.append_toArray, List.nil_append, List.cons_append]
  by_cases hi : i ∈ ids l
  · rw [decide_eq_true hi] at r1
    have hm := (get_id hi).2
    have HE : Aside0 (getE l i = 0) := ⟨by unfold getE; rw [if_pos hi]⟩
    have hndw : ∀ y ∈ (get l i).nd, (Lit.int .i64 y).wf = true := fun y hy => by
      have h2 := hfi.out.ndl _ hm y hy
      have h3 := hfi.out.high _ hm
      have h4 := hfi.out.lastm
      exact WalkArith.wf_i64 (by omega)
    have hndl := Fits.nd_len hfi.out hm
    have hbyl := hfi.out.offm _ hm
    have hofl := hfi.out.off0 _ hm
    have HGI : Aside0 (GetIs W l i = GetIs W l i) := ⟨rfl⟩
    obtain ⟨p, hp⟩ : ∃ p, get l i = p := ⟨_, rfl⟩
    rw [hp] at r1 q1 q2 hndw hndl hbyl hofl
    have HPP := Aside0.mk hp
    obtain ⟨W2, hW2⟩ : ∃ W2, W1.alloc (.cells #[.int .i64 p.id, .int .i64 p.blk, .int .i64 p.off, .slice A2 p.by_.length k2, .slice B2 p.nd.length j2] 44) = W2 := ⟨_, rfl⟩
    have hb2 : Below W1.heap.size W1 W2 := by rw [← hW2]; exact below_alloc (Below.refl _ _) _
    have hx2 := World.alloc_heap_new W1 (.cells #[.int .i64 p.id, .int .i64 p.blk, .int .i64 p.off, .slice A2 p.by_.length k2, .slice B2 p.nd.length j2] 44)
    rw [hW2] at hx2
    obtain ⟨xb, hxb⟩ : ∃ xb, W1.heap.size = xb := ⟨_, rfl⟩
    rw [hxb] at hx2
    have hd2 : Below W2.heap.size W2 W2.drew := ⟨rfl, rfl, rfl, Nat.le_refl _, fun _ _ => rfl⟩
    have HX := Aside0.mk (show W2.drew.heap[xb]? = _ from hx2)
    have hxlt : xb < W2.drew.heap.size := (Array.getElem?_eq_some_iff.1 hx2).1
    have hclo := slices_Clone_byte_byte.calls A2 k2 p.by_ p.by_ W2.drew (Kd.R_reads' (Kd.R_below (Kd.R_below q1 hb2) hd2)).2.2 (Kd.R_reads' q1).2.1 (by unfold slices_Clone_byte_byte.f; rw [if_pos (by omega)])
    have hpen := fun (W0 : World) (hb0 : Below W2.drew.heap.size W2.drew W0) => pending_ok (((HS1.out.below hb2).below hd2).below hb0) B2 j2 p.nd (Kd.C_below (Kd.R_reads' (Kd.R_below (Kd.R_below q2 hb2) hd2)).2.2 hb0) hndw (by omega)
    have HCLO := Aside0.mk hclo
    have HPEN := Aside0.mk hpen
    have HB2 := Aside0.mk hb2
    clear hclo hpen hb2 hx2 hd2 q1 q2 hndw hp hi hm
    gi_wp2_with (first
      | (refine ⟨trivial, ?_⟩; gi_at_call 39; refine (callsIn_wide.2 (HO1.out)).mono ?_; rintro e w1 ⟨rfl, hw⟩; rw [hw]; clear hw))
    refine wpIn_wide.2 ?_
    refine start_ (n := 11) (S := fun w' => w'.cell? ⟨xb, 3, none⟩ = some (.slice A2 p.by_.length k2) ∧ w'.cell? ⟨xb, 4, none⟩ = some (.slice B2 p.nd.length j2)) (ds := [6, 8, 10]) #[false, false, false, false, false, false, false, false, false, false, false] (by kernel_rfl) rfl rfl ⟨(cell_of (i := 3) HX.out rfl), (cell_of (i := 4) HX.out rfl)⟩ (fun hHeld => ?_)
    refine pure_ (i := 0) (N := some 24) (v := ?_) (a' := ?_) #[true, false, false, false, false, false, false, false, false, false, false] rfl rfl (by kernel_rfl) (fun _ _ _ h => h) (Or.inl ⟨by rfl, ?_⟩) ?_ ?_
    rotate_left
    · intro w'
      go_simp
      with_reducible rfl
    rotate_left
    · simp only [Act.put, List.setIfInBounds_toArray, List.set_cons_zero, List.set_cons_succ, i64_w, i32_w]
      rfl
    refine pure_ (i := 3) (N := some 27) (v := ?_) (a' := ?_) #[true, false, false, true, false, false, false, false, false, false, false] rfl rfl (by kernel_rfl) (fun _ _ _ h => h) (Or.inl ⟨by rfl, ?_⟩) ?_ ?_
    rotate_left
    · intro w'
      go_simp
      with_reducible rfl
    rotate_left
    · simp only [Act.put, List.setIfInBounds_toArray, List.set_cons_zero, List.set_cons_succ, i64_w, i32_w]
      rfl
    refine pure_ (i := 4) (N := some 28) (v := ?_) (a' := ?_) #[true, false, false, true, true, false, false, false, false, false, false] rfl rfl (by kernel_rfl) (fun _ _ _ h => h) (Or.inl ⟨by rfl, ?_⟩) ?_ ?_
    rotate_left
    · intro w'
      go_simp
      with_reducible rfl
    rotate_left
    · simp only [Act.put, List.setIfInBounds_toArray, List.set_cons_zero, List.set_cons_succ, i64_w, i32_w]
      rfl
    refine take_ (i := 1) (N := some 25) (v := ?_) (a' := ?_) #[true, true, false, true, true, false, false, false, false, false, false] rfl rfl (by kernel_rfl) (fun _ _ _ h => h) (Or.inl ⟨by rfl, ?_⟩) hHeld ?_ ?_
    rotate_left
    · rintro w' ⟨s0, s1⟩
      go_simp
      with_reducible rfl
    rotate_left
    · simp only [Act.put, List.setIfInBounds_toArray, List.set_cons_zero, List.set_cons_succ, i64_w, i32_w]
      rfl
    refine take_ (i := 5) (N := some 29) (v := ?_) (a' := ?_) #[true, true, false, true, true, true, false, false, false, false, false] rfl rfl (by kernel_rfl) (fun _ _ _ h => h) (Or.inl ⟨by rfl, ?_⟩) hHeld ?_ ?_
    rotate_left
    · rintro w' ⟨s0, s1⟩
      go_simp
      with_reducible rfl
    rotate_left
    · simp only [Act.put, List.setIfInBounds_toArray, List.set_cons_zero, List.set_cons_succ, i64_w, i32_w]
      rfl
    refine one_ (i := 2) (N := some 26) #[true, true, true, true, true, true, false, false, false, false, false] rfl rfl (by kernel_rfl) (by decide) (fun K hK => ?_)
    refine goes_ Try.func44 (by kernel_rfl) rfl #[.slice A2 p.by_.length k2] (by rfl) rfl rfl (by simp only [List.map_toArray, List.map_cons, List.map_nil]; rfl) ?_
    with_reducible refine (HCLO.out).mono ?_
    rintro e W3 ⟨vB, rfl, hrb, hb3⟩
    refine ⟨_, rfl, ?_⟩
    obtain ⟨A3, c3, hvB⟩ := Kd.R_slice hrb
    subst hvB
    have HRB := Aside0.mk hrb
    have HB3 := Aside0.mk hb3
    have HX3 := Aside0.mk ((hb3.block xb hxlt).trans HX.out)
    clear hrb hb3
    refine hK.out _ _ ⟨(cell_of (i := 3) HX3.out rfl), (cell_of (i := 4) HX3.out rfl)⟩ (fun hHeld => ?_)
    clear hK K
    refine norm_ (a' := ?_) ?_ ?_
    rotate_left
    · show Act.put _ (some 26) _ = _
      simp only [Act.put, List.setIfInBounds_toArray, List.set_cons_zero, List.set_cons_succ, i64_w, i32_w]
      rfl
    refine pure_ (i := 7) (N := some 31) (v := ?_) (a' := ?_) #[true, true, true, true, true, true, false, true, false, false, false] rfl rfl (by kernel_rfl) (fun _ _ _ h => h) (Or.inl ⟨by rfl, ?_⟩) ?_ ?_
    rotate_left
    · intro w'
      go_simp
      with_reducible rfl
    rotate_left
    · simp only [Act.put, List.setIfInBounds_toArray, List.set_cons_zero, List.set_cons_succ, i64_w, i32_w]
      rfl
    refine last_ (i := 6) (N := some 30) #[true, true, true, true, true, true, true, true, false, false, false] rfl rfl (by kernel_rfl) (by decide) (fun K hK => ?_)
    refine goes_ Try.func47 (by kernel_rfl) rfl #[.pointer (some ⟨g, 0, none⟩), .slice B2 p.nd.length j2] (by rfl) rfl rfl (by simp only [List.map_toArray, List.map_cons, List.map_nil]; rfl) ?_
    with_reducible refine ((HPEN.out _ HB3.out)).mono ?_
    rintro e W4 ⟨vN, rfl, hrn, hb4⟩
    refine ⟨_, rfl, ?_⟩
    obtain ⟨AN, cN, hvN⟩ := Kd.R_slice hrn
    subst hvN
    have HRN := Aside0.mk hrn
    have HB4 := Aside0.mk hb4
    have HX4 := Aside0.mk ((hb4.block xb (by have := HB3.out.size; omega)).trans HX3.out)
    have z3 := cell_of (i := 3) HX4.out rfl
    have z4 := cell_of (i := 4) HX4.out rfl
    have zf : ∀ i, W4.frozen? ⟨xb, i, none⟩ = false := fun i => by simp [World.frozen?, HX4.out]
    clear hrn hb4
    refine hK.out _ _ ?_
    clear hK K
    refine norm_ (a' := ?_) ?_ ?_
    rotate_left
    · show Act.put _ (some 30) _ = _
      simp only [Act.put, List.setIfInBounds_toArray, List.set_cons_zero, List.set_cons_succ, i64_w, i32_w]
      rfl
    refine last_ (i := 8) (N := none) #[true, true, true, true, true, true, true, true, true, false, false] rfl rfl (by kernel_rfl) (by decide) (fun K hK => ?_)
    refine skip_ (w1 := ?_) (by rfl) rfl ?_ ?_
    rotate_left
    · go_simp
      rfl
    refine hK.out _ _ ?_
    clear hK K
    refine pure_ (i := 9) (N := some 32) (v := ?_) (a' := ?_) #[true, true, true, true, true, true, true, true, true, true, false] rfl rfl (by kernel_rfl) (fun _ _ _ h => h) (Or.inl ⟨by rfl, ?_⟩) ?_ ?_
    rotate_left
    · intro w'
      go_simp
      with_reducible rfl
    rotate_left
    · simp only [Act.put, List.setIfInBounds_toArray, List.set_cons_zero, List.set_cons_succ, i64_w, i32_w]
      rfl
    refine last_ (i := 10) (N := none) #[true, true, true, true, true, true, true, true, true, true, true] rfl rfl (by kernel_rfl) (by decide) (fun K hK => ?_)
    refine skip_ (w1 := ?_) (by rfl) rfl ?_ ?_
    rotate_left
    · go_simp
      rfl
    refine hK.out _ _ ?_
    clear hK K
    refine done_ (by kernel_rfl) ?_

    generalize hW6 : (W4.setCell ⟨xb, 3, none⟩ (.slice A3 p.by_.length c3)).setCell ⟨xb, 4, none⟩ (.slice AN (pen l p.nd).length cN) = W6
    have hb3s := HB3.out.size
    have hb4s := HB4.out.size
    have hne : r4 ≠ xb := by omega
    have hx6 : W6.heap[xb]? = some (.cells #[.int .i64 p.id, .int .i64 p.blk, .int .i64 p.off, .slice A3 p.by_.length c3, .slice AN (pen l p.nd).length cN] 44 (0, 0)) := by
      rw [← hW6]; exact set_heap (set_heap HX4.out _) _
    have hk6 : ∀ k, k ≠ xb → W6.heap[k]? = W4.heap[k]? := fun k hk => by rw [← hW6]; exact (Below.heap_setCell _ _ _ _ (by simp; omega)).trans (Below.heap_setCell _ _ _ _ (by simp; omega))
    have hs6 : W6.heap.size = W4.heap.size := by rw [← hW6]; simp
    have hr6 : W6.heap[r4]? = some (.cells #[.int .i64 0, .int .i64 0, .int .i64 0, .slice none 0 0, .slice none 0 0] 44 (0, 0)) := (hk6 r4 hne).trans ((HB4.out.block r4 (by omega)).trans ((HB3.out.block r4 (by show r4 < W2.drew.heap.size; omega)).trans ((HB2.out.block r4 hr4l).trans HR1.out)))
    have HR6 := Aside0.mk hr6
    have HK6 := Aside0.mk hk6
    have x0 := cell_of (i := 0) hx6 rfl
    have x1 := cell_of (i := 1) hx6 rfl
    have x2 := cell_of (i := 2) hx6 rfl
    have x3 := cell_of (i := 3) hx6 rfl
    have x4 := cell_of (i := 4) hx6 rfl
    have u0 := cell_of (i := 0) hr6 rfl
    have u1 := cell_of (i := 1) hr6 rfl
    have u2 := cell_of (i := 2) hr6 rfl
    have u3 := cell_of (i := 3) hr6 rfl
    have u4 := cell_of (i := 4) hr6 rfl
    have uf := r4c W6 hr6
    have HW6 := Aside0.mk hW6
    clear hr6 hk6 hx6 hW6 z3 z4 zf
    gi_wp2
    generalize hW7 : ((((W6.setCell ⟨r4, 0, none⟩ (.int .i64 p.id)).setCell ⟨r4, 1, none⟩ (.int .i64 p.blk)).setCell ⟨r4, 2, none⟩ (.int .i64 p.off)).setCell ⟨r4, 3, none⟩ (.slice A3 p.by_.length c3)).setCell ⟨r4, 4, none⟩ (.slice AN (pen l p.nd).length cN) = W7
    have hr7 : W7.heap[r4]? = some (.cells #[.int .i64 p.id, .int .i64 p.blk, .int .i64 p.off, .slice A3 p.by_.length c3, .slice AN (pen l p.nd).length cN] 44 (0, 0)) := by
      rw [← hW7]; exact set_heap (set_heap (set_heap (set_heap (set_heap HR6.out _) _) _) _) _
    have hk7 : ∀ k, k ≠ r4 → W7.heap[k]? = W6.heap[k]? := fun k hk => by
      rw [← hW7]
      exact (Below.heap_setCell _ ⟨r4, 4, none⟩ _ k hk).trans ((Below.heap_setCell _ ⟨r4, 3, none⟩ _ k hk).trans ((Below.heap_setCell _ ⟨r4, 2, none⟩ _ k hk).trans ((Below.heap_setCell _ ⟨r4, 1, none⟩ _ k hk).trans (Below.heap_setCell _ ⟨r4, 0, none⟩ _ k hk))))
    have hs7 : W7.heap.size = W6.heap.size := by rw [← hW7]; simp
    have ho7 : W7.os = W4.os ∧ W7.tape = W4.tape ∧ W7.output = W4.output := by rw [← hW7, ← HW6.out]; simp only [set_os, set_tape, set_out, and_self]
    have e0 := cell_of (i := 0) hr7 rfl
    have e1 := cell_of (i := 1) hr7 rfl
    have e2 := cell_of (i := 2) hr7 rfl
    have e3 := cell_of (i := 3) hr7 rfl
    have e4 := cell_of (i := 4) hr7 rfl
    refine bodyPost_ret (v := .tuple #[.agg #[.int .i64 p.id, .int .i64 p.blk, .int .i64 p.off, .slice A3 p.by_.length c3, .slice AN (pen l p.nd).length cN], .int .i64 0]) ?_ rfl ?_
    · simp [results, Try.f21, go_sem, e0, e1, e2, e3, e4]
    have hmv : ∀ k, k ≠ xb → k ≠ r4 → W7.heap[k]? = W4.heap[k]? := fun k h1 h2 => (hk7 k h2).trans (HK6.out k h1)
    have hb24 : Below W.heap.size W W4 := (HB1.out.trans (HB2.out.mono (by omega))).trans ((show Below W2.heap.size W2 W2.drew from ⟨rfl, rfl, rfl, Nat.le_refl _, fun _ _ => rfl⟩).trans (HB3.out.trans (HB4.out.mono hb3s)) |>.mono (by have h1 := HB1.out.size; have h2 := HB2.out.size; omega))
    refine ⟨A3, c3, AN, cN, by rw [HPP.out, HE.out], ?_, ?_, ?_⟩
    · rw [HPP.out]
      exact Kd.R_lower (Kd.R_mono (Kd.R_step (Kd.R_bound (Kd.R_below HRB.out HB4.out)) (fun k hk _ => hmv k (by have := hk.2.1; omega) (by have h1 := hk.2.1; have h2 : W2.drew.heap.size = W2.heap.size := rfl; have h3 := HB2.out.size; omega))) (fun _ _ => trivial)) (by have h1 := HB1.out.size; have h2 := HB2.out.size; show W.heap.size ≤ W2.heap.size; omega)
    · rw [HPP.out]
      exact Kd.R_lower (Kd.R_mono (Kd.R_step (Kd.R_bound HRN.out) (fun k hk _ => hmv k (by have := hk.2.1; omega) (by have h1 := hk.2.1; have h3 := HB2.out.size; have h2 : W2.drew.heap.size = W2.heap.size := rfl; omega))) (fun _ _ => trivial)) (by have h1 := HB1.out.size; have h2 := HB2.out.size; have h4 : W2.drew.heap.size = W2.heap.size := rfl; omega)
    · exact ⟨ho7.1.trans hb24.os, ho7.2.1.trans hb24.tape, ho7.2.2.trans hb24.output, by rw [hs7, hs6]; exact hb24.size, fun k hk => (hmv k (by have h1 := HB1.out.size; omega) (by omega)).trans (hb24.block k hk)⟩
  · rw [decide_eq_false hi] at r1
    have HE : Aside0 (getE l i = 70) := ⟨by unfold getE; rw [if_neg hi]⟩
    have HZ : Aside0 (get l i = zPt) := ⟨get_none hi⟩
    rw [HZ.out] at r1
    have r1' : (Instr.lookup 53 (.map (some m)) (.int .i64 i) true).run Try.prog W1 = .ok (.tuple #[.agg #[.int .i64 0, .int .i64 0, .int .i64 0, .slice A2 0 k2, .slice B2 0 j2], .bool false]) W1 := r1
    clear r1 q1 q2 hi
    have u0 := cell_of (i := 0) HR1.out rfl
    have u1 := cell_of (i := 1) HR1.out rfl
    have u2 := cell_of (i := 2) HR1.out rfl
    have u3 := cell_of (i := 3) HR1.out rfl
    have u4 := cell_of (i := 4) HR1.out rfl
    have uf := r4c W1 HR1.out
    obtain ⟨W2, hW2⟩ : ∃ W2, W1.alloc (.cells #[.int .i64 0, .int .i64 0, .int .i64 0, .slice A2 0 k2, .slice B2 0 j2] 44) = W2 := ⟨_, rfl⟩
    have hb2 : Below W1.heap.size W1 W2 := by rw [← hW2]; exact below_alloc (Below.refl _ _) _
    have hr2 := (hb2.block r4 hr4l).trans HR1.out
    have HR2 := Aside0.mk hr2
    have v0 := cell_of (i := 0) hr2 rfl
    have v1 := cell_of (i := 1) hr2 rfl
    have v2 := cell_of (i := 2) hr2 rfl
    have v3 := cell_of (i := 3) hr2 rfl
    have v4 := cell_of (i := 4) hr2 rfl
    have vf := r4c W2 hr2
    have HB2 := Aside0.mk hb2
    clear hb2 hr2
    gi_wp2_with (first
      | (refine ⟨trivial, ?_⟩; gi_at_call 39; refine (callsIn_wide.2 (HO1.out)).mono ?_; rintro e w1 ⟨rfl, hw⟩; rw [hw]; clear hw))
    generalize hW7 : ((((W2.setCell ⟨r4, 0, none⟩ (.int .i64 0)).setCell ⟨r4, 1, none⟩ (.int .i64 0)).setCell ⟨r4, 2, none⟩ (.int .i64 0)).setCell ⟨r4, 3, none⟩ (.slice none 0 0)).setCell ⟨r4, 4, none⟩ (.slice none 0 0) = W7
    have hr7 : W7.heap[r4]? = some (.cells #[.int .i64 0, .int .i64 0, .int .i64 0, .slice none 0 0, .slice none 0 0] 44 (0, 0)) := by
      rw [← hW7]; exact set_heap (set_heap (set_heap (set_heap (set_heap HR2.out _) _) _) _) _
    have e0 := cell_of (i := 0) hr7 rfl
    have e1 := cell_of (i := 1) hr7 rfl
    have e2 := cell_of (i := 2) hr7 rfl
    have e3 := cell_of (i := 3) hr7 rfl
    have e4 := cell_of (i := 4) hr7 rfl
    refine bodyPost_ret (v := .tuple #[.agg #[.int .i64 0, .int .i64 0, .int .i64 0, .slice none 0 0, .slice none 0 0], .int .i64 70]) ?_ rfl ?_
    · simp [results, Try.f21, go_sem, e0, e1, e2, e3, e4]
    have hb12 : Below W.heap.size W W2 := HB1.out.trans (HB2.out.mono HB1.out.size)
    have hp0 : pen l [] = [] := by unfold pen; simp
    refine ⟨none, 0, none, 0, by rw [HZ.out, HE.out, show pen l zPt.nd = [] from hp0]; rfl, ?_, ?_, ?_⟩
    · rw [HZ.out]; exact Kd.R_nil _ _ _ _ _
    · rw [HZ.out, show pen l zPt.nd = [] from hp0]; exact Kd.R_nil _ _ _ _ _
    · refine ⟨by rw [← hW7]; simp only [set_os]; exact hb12.os, by rw [← hW7]; simp only [set_tape]; exact hb12.tape, by rw [← hW7]; simp only [set_out]; exact hb12.output, by rw [← hW7]; simp; exact hb12.size, fun k hk => ?_⟩
      have hk4 : k ≠ r4 := by omega
      rw [← hW7]
      exact ((Below.heap_setCell _ ⟨r4, 4, none⟩ _ k hk4).trans ((Below.heap_setCell _ ⟨r4, 3, none⟩ _ k hk4).trans ((Below.heap_setCell _ ⟨r4, 2, none⟩ _ k hk4).trans ((Below.heap_setCell _ ⟨r4, 1, none⟩ _ k hk4).trans (Below.heap_setCell _ ⟨r4, 0, none⟩ _ k hk4))))).trans (hb12.block k hk)
end Go.Proofs.Ytijgfcpffjjlfaa.Pq
