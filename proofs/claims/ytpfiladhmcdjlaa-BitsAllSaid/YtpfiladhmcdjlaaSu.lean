/- Written by a program of this session. bits.Runs and bits.Longest, walked over the iterator's contract. -/
import Derived.Test.YtpfiladhmcdjlaaSt
import Derived.RangeFuncBox
import Derived.Maps.AppendAt
namespace Go.Proofs.Ytpfiladhmcdjlaa.St
open Go Go.RowKit Go.Shelf Go.Proofs Go.Proofs.Ytpfiladhmcdjlaa.Rf Go.Proofs.YtpfiladhmcdjlaaW.PrintWords Go.Proofs.YtpfiladhmcdjlaaW.PrintLast Go.Proofs.YtpfiladhmcdjlaaW.PrintMore
attribute [local go_sem] Oper.semAt_some
set_option linter.unusedVariables false
set_option linter.unusedSimpArgs false

set_option maxRecDepth 100000 in
set_option maxHeartbeats 2000000 in
theorem stretches_in (A0 : Option Addr) (len c0 : Nat) (nn : Int) (w : World) (n : Nat) :
    CallsIn Fence.wide n Try.prog 28 #[.slice A0 len c0, .int .i64 nn] w fun e w' =>
      e = .returned (.func (.func 29) #[] #[.pointer (some ⟨w.heap.size + 1, 0, none⟩), .pointer (some ⟨w.heap.size, 0, none⟩)]) ∧
      w' = (w.alloc (.cells #[.slice A0 len c0] 22)).alloc (.cells #[.int .i64 nn] 3) := by
  refine callsIn_of_wp Try.func28 rfl trivial ?_ rfl
  simp only [Try.ntmps28, List.size_toArray, List.length_cons, List.length_nil, Nat.reduceAdd, Nat.reduceSub, Array.replicate_succ, Array.replicate_zero, List.push_toArray, List.append_toArray, List.nil_append, List.cons_append]
  gi_wp2
  go_ret
  exact ⟨rfl, rfl⟩

theorem info_int : (Try.prog.info? 3).map (fun i => (i.zero, i.size, i.bytes)) = some (some (.int .i64 0), 1, 8) := by kernel_rfl

/-- Behind an append: the box stands, whatever lay below the row's base stands. -/
theorem behind {W w1 : World} {s base : Nat} {e T : TypeId} {v : Value} {k : Nat} {ys : List Value} {o : Obj} {u : Value} (hv : W.heap[s]? = some (.cells #[u] T (0, 0))) (hrow : W.ownsRow base e 1 v k ys) (hg : (W.alloc o).grownBy w1 v.ownBlock) (hs : s < base := by omega) :
    w1.heap[s]? = some (.cells #[u] T (0, 0)) ∧ ∀ j, j < base → j < W.heap.size → w1.heap[j]? = W.heap[j]? := by
  have h : ∀ j, j < base → j < W.heap.size → w1.heap[j]? = W.heap[j]? := fun j hj hw =>
    (hg.block j (by simp; omega) (fun e => by have := (hrow.lt j e.symm).1; omega)).trans (heap_alloc_old W o j hw)
  exact ⟨(h s hs (Array.getElem?_eq_some_iff.1 hv).1).trans hv, h⟩

def enc2 (x : Int × Int) : Value := .int .i64 x.2

set_option maxRecDepth 100000 in
set_option maxHeartbeats 2000000 in
theorem Runs_ok (A0 : Option Addr) (c0 : Nat) (xs : List Int) (nn : Int) (m : Nat) (hm : (m : Int) = mx 0 (mn nn 65536)) (w : World) (hr0 : Kd.C (Kd.int .u8) w A0 xs.length xs) (hc0 : xs.length ≤ c0) :
    Calls Try.prog 22 #[.slice A0 xs.length c0, .int .i64 nn] w fun e w' => ∃ v, e = .returned v ∧ w'.ownsRow w.heap.size 3 1 v (strs xs m).length ((strs xs m).map enc2) ∧ Below w.heap.size w w' := by
  refine (callsIn_wide (n := 3)).1 ?_
  refine callsIn_of_wp_marks Try.func22 rfl trivial ?_ rfl
  simp only [Try.ntmps22, List.size_toArray, List.length_cons, List.length_nil, Nat.reduceAdd, Nat.reduceSub, Array.replicate_succ, Array.replicate_zero, List.push_toArray, List.append_toArray, List.nil_append, List.cons_append]
  gi_wp2_with (refine ⟨trivial, ?_⟩; gi_at_call 28; refine (stretches_in _ _ _ _ _ _).mono ?_; rintro e w' ⟨rfl, rfl⟩)
  obtain ⟨W0, hW0⟩ : ∃ W0, (((w.alloc (.cells #[.slice none 0 0] 30)).alloc (.cells #[.slice A0 xs.length c0] 22)).alloc (.cells #[.int .i64 nn] 3)) = W0 := ⟨_, rfl⟩
  have hs0 : W0.heap.size = w.heap.size + 3 := by rw [← hW0]; simp
  have hB0 : Below w.heap.size w W0 := by rw [← hW0]; exact (((Below.refl _ w).alloc (Nat.le_refl _) _).alloc (by simp) _).alloc (by simp; omega) _
  have hcL : W0.heap[w.heap.size]? = some (.cells #[.slice none 0 0] 30 (0, 0)) := by
    rw [← hW0]
    exact (heap_alloc_old _ _ _ (by simp; omega)).trans ((heap_alloc_old _ _ _ (by simp)).trans (World.alloc_heap_new w _))
  have hcR : W0.heap[w.heap.size + 1]? = some (.cells #[.slice A0 xs.length c0] 22 (0, 0)) := by
    rw [← hW0]
    refine (heap_alloc_old _ _ _ (by simp)).trans ?_
    have := World.alloc_heap_new (w.alloc (.cells #[.slice none 0 0] 30)) (.cells #[.slice A0 xs.length c0] 22)
    rwa [World.size_alloc] at this
  have hcN : W0.heap[w.heap.size + 2]? = some (.cells #[.int .i64 nn] 3 (0, 0)) := by
    rw [← hW0]
    have := World.alloc_heap_new ((w.alloc (.cells #[.slice none 0 0] 30)).alloc (.cells #[.slice A0 xs.length c0] 22)) (.cells #[.int .i64 nn] 3)
    rwa [World.size_alloc, World.size_alloc] at this
  rw [hW0]
  refine range_gives (by rfl) (by omega) (gf := 29) (lb := #[.pointer (some ⟨w.heap.size + 1 + 1, 0, none⟩), .pointer (some ⟨w.heap.size + 1, 0, none⟩)]) rfl trivial (enters_of Try.func29 (by kernel_rfl) rfl)
    (K := fun k => k < w.heap.size ∨ k = w.heap.size + 1 ∨ k = w.heap.size + 2 ∨ k = w.heap.size + 5)
    (by rw [hs0]; omega) (by rw [hs0]; omega)
    (stretches_gives w W0 A0 c0 xs hr0 hc0 nn m hm (w.heap.size + 2) (w.heap.size + 1) hB0 (by omega) hcN (by omega) hcR _ (by intro k hk; omega) (by omega) (by omega) (by omega) _)
    (fun _ => rfl)
    (fun pre W => (∃ v, W.heap[w.heap.size]? = some (.cells #[v] 30 (0, 0)) ∧ W.ownsRow (w.heap.size + 6) 3 1 v pre.length (pre.map enc2)) ∧ Below w.heap.size w W)
    ?hI ?h0 
    (fun x a' W => ∃ Bx, w.heap.size + 5 ≤ Bx ∧ W.heap[Bx]? = some (.cells #[.int .i64 x.1, .int .i64 x.2] 47 (0, 0)) ∧ a' = { tmps := #[.slice A0 xs.length c0, .int .i64 nn, undef, undef, .slice none 0 0, .pointer (some ⟨w.heap.size, 0, none⟩), .pointer (some ⟨Bx, 0, none⟩), .slice A0 xs.length c0, .int .i64 nn, .func (.func 29) #[] #[.pointer (some ⟨w.heap.size + 1 + 1, 0, none⟩), .pointer (some ⟨w.heap.size + 1, 0, none⟩)], .agg #[.int .i64 x.1, .int .i64 x.2], undef, undef, undef, undef, undef, undef], defers := [] })
    ?hAx ?assign ?body ?done
  case hI =>
    rintro pre A A' row ⟨⟨v, hv, hrow⟩, hB⟩ hg hr
    have hr' : ∀ r, row = some r → w.heap.size + 3 ≤ r ∧ r ≤ w.heap.size + 5 := fun r e => by have := hr r e; omega
    refine ⟨⟨v, ?_, ?_⟩, hB.trans ⟨hg.os, hg.tape, hg.output, hg.size, fun k hk => hg.block k (by have := hB.size; omega) (fun e => by have := hr' k e.symm; omega)⟩⟩
    · exact (hg.block _ (Array.getElem?_eq_some_iff.1 hv).1 (fun e => by have := hr' _ e.symm; omega)).trans hv
    · refine hrow.kept hg ?_
      cases ho : v.ownBlock with
      | none => exact .inl rfl
      | some g => exact .inr (fun e => by have := hr' g e.symm; have := (hrow.lt g ho).1; omega)
  case h0 => exact ⟨⟨_, hcL, World.ownsRow_nil _ _ _ _⟩, hB0⟩
  case hAx =>
    rintro x a' A A' row ⟨Bx, h1, h2, h3⟩ hg hr
    exact ⟨Bx, h1, (hg.block _ (Array.getElem?_eq_some_iff.1 h2).1 (fun e => by have := hr Bx e.symm; omega)).trans h2, h3⟩
  case assign =>
    rintro l pre x W k ⟨⟨v, hv, hrow⟩, hB⟩ hsz hk
    gi_wp2
    have hg := World.grownBy_alloc W (.cells #[.int .i64 x.1, .int .i64 x.2] 47) none
    refine hk _ _ (Keep.of_grown hg (fun k hk => ⟨by omega, by simp⟩)) ⟨⟨v, (hg.block _ (by omega) (by simp)).trans hv, hrow.alloc _⟩, hB.alloc (by omega) _⟩ ⟨W.heap.size, by omega, World.alloc_heap_new W _, rfl⟩
  case body =>
    rintro l pre x a' W ⟨⟨v, hv, hrow⟩, hB⟩ ⟨Bx, hBx, hx, rfl⟩ hlen hsz
    have cL : W.cell? ⟨w.heap.size, 0, none⟩ = some v := by simp [World.cell?, hv]
    have fL : W.frozen? ⟨w.heap.size, 0, none⟩ = false := by simp [World.frozen?, hv]
    have cX : W.cell? ⟨Bx, 1, none⟩ = some (.int .i64 x.2) := by simp [World.cell?, hx]
    obtain ⟨i0, hi, hz0, hz1, hz2⟩ := info_parts info_int
    gi_wp2_with (gi_at_builtin; refine wpListIn_append_own _ rfl _ _ 30 rfl (w.heap.size + 6) 3 i0 (.int .i64 0) 1 8 Try.underlying30 hi hz0 hz1 hz2 rfl (by decide) _ _ _ rfl (hrow.alloc _) ⟨W.heap.size, 0, none⟩ 1 1 [.int .i64 x.2] rfl rfl (cell_one_new _ _ _) (by simp [Value.oneCell']) (by simp [maxLen]; omega) (by omega) (by simp; omega) ?_; intro v' w1 hown' hgrow _; obtain ⟨g', cap', rfl⟩ := ownsRow_succ hown'; obtain ⟨hv1, hk1⟩ := behind hv hrow hgrow; have cL1 : w1.cell? ⟨w.heap.size, 0, none⟩ = some v := (by simp [World.cell?, hv1]); have fL1 : w1.frozen? ⟨w.heap.size, 0, none⟩ = false := (by simp [World.frozen?, hv1]))
    obtain ⟨W2, hW2⟩ : ∃ W2, w1.setCell ⟨w.heap.size, 0, none⟩ (Value.slice (some ⟨g', 0, none⟩) (pre.length + 1) cap') = W2 := ⟨_, rfl⟩
    have h2 : W2.heap[w.heap.size]? = some (.cells #[Value.slice (some ⟨g', 0, none⟩) (pre.length + 1) cap'] 30 (0, 0)) := by rw [← hW2]; exact set_heap hv1 _
    have hg2 : w1.grownBy W2 (some w.heap.size) := hW2 ▸ grownBy_set w1 _ _ _
    have hr2 : W2.ownsRow (w.heap.size + 6) 3 1 (Value.slice (some ⟨g', 0, none⟩) (pre.length + 1) cap') (pre.length + 1) ((pre.map enc2) ++ [enc2 x]) := by
      rw [← hW2]; exact ownsRow_setCell_below hown' (by simp) _
    have hsz1 : W.heap.size + 1 ≤ w1.heap.size := by have := hgrow.size; simpa using this
    have hk2 : ∀ j, j < w.heap.size + 6 → j ≠ w.heap.size → W2.heap[j]? = W.heap[j]? := fun j hj hne =>
      (hg2.block j (by omega) (fun e => hne (by cases e; rfl))).trans (hk1 j hj (by omega))
    have hkeep : ∀ K : Nat → Prop, (∀ k, K k → k < w.heap.size + 6 ∧ k ≠ w.heap.size) → Keep K W W2 := fun K hK =>
      ⟨⟨hg2.os.trans hgrow.os, hg2.tape.trans hgrow.tape, hg2.output.trans hgrow.output, by have := hg2.size; omega, fun k hk => by omega⟩, fun k hk => hk2 k (hK k hk).1 (hK k hk).2⟩
    rw [hW2]
    try simp only [List.length_append, List.length_singleton, List.map_append, List.map_cons, List.map_nil]
    exact ⟨hkeep _ (fun k hk => by omega), ⟨_, h2, hr2⟩, hB.trans ((hkeep (fun k => k < w.heap.size) (fun k hk => by omega)).below (fun k hk => hk))⟩
  case done =>
    rintro ys W rfl ⟨⟨v, hv, hrow⟩, hB⟩ hK
    have cL : W.cell? ⟨w.heap.size, 0, none⟩ = some v := by simp [World.cell?, hv]
    gi_wp2
    refine ⟨by simp, .inl ⟨_, _, rfl, run_takeDeferred hK, ?_⟩⟩
    exact ⟨_, results_tmp rfl _ _ _, v, rfl, ownsRow_putObj (own_weaken hrow (by omega)) _ hK rfl, hB.trans (belowK_b (w := w) (Nat.le_refl _) W W0.heap.size _ _ (by omega) hK rfl rfl)⟩

def bestOf (ys : List (Int × Int)) : Int × Int := ys.foldl (fun b x => if x.2 > b.2 then x else b) (0, 0)
theorem bestOf_hit (pre : List (Int × Int)) (x : Int × Int) (h : (bestOf pre).2 < x.2) : bestOf (pre ++ [x]) = x := by
  unfold bestOf at *; rw [List.foldl_append]; simp only [List.foldl_cons, List.foldl_nil]; exact if_pos h
theorem bestOf_miss (pre : List (Int × Int)) (x : Int × Int) (h : ¬ (bestOf pre).2 < x.2) : bestOf (pre ++ [x]) = bestOf pre := by
  unfold bestOf at *; rw [List.foldl_append]; simp only [List.foldl_cons, List.foldl_nil]; exact if_neg h

set_option maxRecDepth 100000 in
set_option maxHeartbeats 2000000 in
theorem Longest_ok (A0 : Option Addr) (c0 : Nat) (xs : List Int) (nn : Int) (m : Nat) (hm : (m : Int) = mx 0 (mn nn 65536)) (w : World) (hr0 : Kd.C (Kd.int .u8) w A0 xs.length xs) (hc0 : xs.length ≤ c0) :
    Calls Try.prog 23 #[.slice A0 xs.length c0, .int .i64 nn] w fun e w' => e = .returned (.tuple #[.int .i64 (bestOf (strs xs m)).1, .int .i64 (bestOf (strs xs m)).2]) ∧ Below w.heap.size w w' := by
  refine (callsIn_wide (n := 3)).1 ?_
  refine callsIn_of_wp_marks Try.func23 rfl trivial ?_ rfl
  simp only [Try.ntmps23, List.size_toArray, List.length_cons, List.length_nil, Nat.reduceAdd, Nat.reduceSub, Array.replicate_succ, Array.replicate_zero, List.push_toArray, List.append_toArray, List.nil_append, List.cons_append]
  gi_wp2_with (refine ⟨trivial, ?_⟩; gi_at_call 28; refine (stretches_in _ _ _ _ _ _).mono ?_; rintro e w' ⟨rfl, rfl⟩)
  obtain ⟨W0, hW0⟩ : ∃ W0, (((w.alloc (.cells #[.int .i64 0, .int .i64 0] 47)).alloc (.cells #[.slice A0 xs.length c0] 22)).alloc (.cells #[.int .i64 nn] 3)) = W0 := ⟨_, rfl⟩
  have hs0 : W0.heap.size = w.heap.size + 3 := by rw [← hW0]; simp
  have hB0 : Below w.heap.size w W0 := by rw [← hW0]; exact (((Below.refl _ w).alloc (Nat.le_refl _) _).alloc (by simp) _).alloc (by simp; omega) _
  have hcL : W0.heap[w.heap.size]? = some (.cells #[.int .i64 0, .int .i64 0] 47 (0, 0)) := by
    rw [← hW0]
    exact (heap_alloc_old _ _ _ (by simp; omega)).trans ((heap_alloc_old _ _ _ (by simp)).trans (World.alloc_heap_new w _))
  have hcR : W0.heap[w.heap.size + 1]? = some (.cells #[.slice A0 xs.length c0] 22 (0, 0)) := by
    rw [← hW0]
    refine (heap_alloc_old _ _ _ (by simp)).trans ?_
    have := World.alloc_heap_new (w.alloc (.cells #[.int .i64 0, .int .i64 0] 47)) (.cells #[.slice A0 xs.length c0] 22)
    rwa [World.size_alloc] at this
  have hcN : W0.heap[w.heap.size + 2]? = some (.cells #[.int .i64 nn] 3 (0, 0)) := by
    rw [← hW0]
    have := World.alloc_heap_new ((w.alloc (.cells #[.int .i64 0, .int .i64 0] 47)).alloc (.cells #[.slice A0 xs.length c0] 22)) (.cells #[.int .i64 nn] 3)
    rwa [World.size_alloc, World.size_alloc] at this
  rw [hW0]
  refine range_gives (by rfl) (by omega) (gf := 29) (lb := #[.pointer (some ⟨w.heap.size + 1 + 1, 0, none⟩), .pointer (some ⟨w.heap.size + 1, 0, none⟩)]) rfl trivial (enters_of Try.func29 (by kernel_rfl) rfl)
    (K := fun k => k < w.heap.size ∨ k = w.heap.size + 1 ∨ k = w.heap.size + 2 ∨ k = w.heap.size + 5)
    (by rw [hs0]; omega) (by rw [hs0]; omega)
    (stretches_gives w W0 A0 c0 xs hr0 hc0 nn m hm (w.heap.size + 2) (w.heap.size + 1) hB0 (by omega) hcN (by omega) hcR _ (by intro k hk; omega) (by omega) (by omega) (by omega) _)
    (fun _ => rfl)
    (fun pre W => W.heap[w.heap.size]? = some (.cells #[.int .i64 (bestOf pre).1, .int .i64 (bestOf pre).2] 47 (0, 0)) ∧ Below w.heap.size w W)
    ?hI ?h0
    (fun x a' W => ∃ Bx, w.heap.size + 5 ≤ Bx ∧ W.heap[Bx]? = some (.cells #[.int .i64 x.1, .int .i64 x.2] 47 (0, 0)) ∧ a' = { tmps := #[.slice A0 xs.length c0, .int .i64 nn, undef, undef, .int .i64 0, .int .i64 0, .pointer (some ⟨w.heap.size, 0, none⟩), .pointer (some ⟨Bx, 0, none⟩), .slice A0 xs.length c0, .int .i64 nn, .func (.func 29) #[] #[.pointer (some ⟨w.heap.size + 1 + 1, 0, none⟩), .pointer (some ⟨w.heap.size + 1, 0, none⟩)], .agg #[.int .i64 x.1, .int .i64 x.2], undef, undef, undef, undef, undef, undef, undef, undef, undef, undef], defers := [] })
    ?hAx ?assign ?body ?done
  case hI =>
    rintro pre A A' row ⟨hv, hB⟩ hg hr
    have hr' : ∀ r, row = some r → w.heap.size + 3 ≤ r ∧ r ≤ w.heap.size + 5 := fun r e => by have := hr r e; omega
    exact ⟨(hg.block _ (Array.getElem?_eq_some_iff.1 hv).1 (fun e => by have := hr' _ e.symm; omega)).trans hv,
      hB.trans ⟨hg.os, hg.tape, hg.output, hg.size, fun k hk => hg.block k (by have := hB.size; omega) (fun e => by have := hr' k e.symm; omega)⟩⟩
  case h0 => exact ⟨hcL, hB0⟩
  case hAx =>
    rintro x a' A A' row ⟨Bx, h1, h2, h3⟩ hg hr
    exact ⟨Bx, h1, (hg.block _ (Array.getElem?_eq_some_iff.1 h2).1 (fun e => by have := hr Bx e.symm; omega)).trans h2, h3⟩
  case assign =>
    rintro l pre x W k ⟨hv, hB⟩ hsz hk
    gi_wp2
    have hg := World.grownBy_alloc W (.cells #[.int .i64 x.1, .int .i64 x.2] 47) none
    refine hk _ _ (Keep.of_grown hg (fun k hk => ⟨by omega, by simp⟩)) ⟨(hg.block _ (by omega) (by simp)).trans hv, hB.alloc (by omega) _⟩ ⟨W.heap.size, by omega, World.alloc_heap_new W _, rfl⟩
  case body =>
    rintro l pre x a' W ⟨hv, hB⟩ ⟨Bx, hBx, hx, rfl⟩ hlen hsz
    have cA : W.cell? ⟨w.heap.size, 0, none⟩ = some (.int .i64 (bestOf pre).1) := by simp [World.cell?, hv]
    have cL : W.cell? ⟨w.heap.size, 1, none⟩ = some (.int .i64 (bestOf pre).2) := by simp [World.cell?, hv]
    have fA : W.frozen? ⟨w.heap.size, 0, none⟩ = false := by simp [World.frozen?, hv]
    have fL : W.frozen? ⟨w.heap.size, 1, none⟩ = false := by simp [World.frozen?, hv]
    have cX : W.cell? ⟨Bx, 1, none⟩ = some (.int .i64 x.2) := by simp [World.cell?, hx]
    have cX0 : W.cell? ⟨Bx, 0, none⟩ = some (.int .i64 x.1) := by simp [World.cell?, hx]
    by_cases hz : (bestOf pre).2 < x.2
    · have hz0 : decide ((bestOf pre).2 < x.2) = true := decide_eq_true hz
      rw [bestOf_hit pre x hz]
      gi_wp2
      have g1 := grownBy_set W w.heap.size 0 (.int .i64 x.1)
      have g2 := grownBy_set (W.setCell ⟨w.heap.size, 0, none⟩ (.int .i64 x.1)) w.heap.size 1 (.int .i64 x.2)
      have hk2 : ∀ j, j < W.heap.size → j ≠ w.heap.size → ((W.setCell ⟨w.heap.size, 0, none⟩ (.int .i64 x.1)).setCell ⟨w.heap.size, 1, none⟩ (.int .i64 x.2)).heap[j]? = W.heap[j]? := fun j hj hne =>
        (g2.block j (by have := g1.size; omega) (fun e => hne (by cases e; rfl))).trans (g1.block j hj (fun e => hne (by cases e; rfl)))
      have hkeep : ∀ K : Nat → Prop, (∀ k, K k → k < W.heap.size ∧ k ≠ w.heap.size) → Keep K W ((W.setCell ⟨w.heap.size, 0, none⟩ (.int .i64 x.1)).setCell ⟨w.heap.size, 1, none⟩ (.int .i64 x.2)) := fun K hK =>
        ⟨⟨rfl, rfl, rfl, by have := g1.size; have := g2.size; omega, fun k hk => by omega⟩, fun k hk => hk2 k (hK k hk).1 (hK k hk).2⟩
      exact ⟨hkeep _ (fun k hk => by omega), set_heap (set_heap hv _) _, hB.trans ((hkeep (fun k => k < w.heap.size) (fun k hk => by have := hB.size; omega)).below (fun k hk => hk))⟩
    · have hz0 : decide ((bestOf pre).2 < x.2) = false := decide_eq_false hz
      rw [bestOf_miss pre x hz]
      gi_wp2
      first
        | exact ⟨Keep.refl _ _, hv, hB⟩
        | exact ⟨rfl, Keep.refl _ _, hv, hB⟩
        | (refine ⟨?_, ?_⟩ <;> first | exact Keep.refl _ _ | exact ⟨hv, hB⟩)
        | exact Keep.refl _ _
  case done =>
    rintro ys W rfl ⟨hv, hB⟩ hK
    have cA : W.cell? ⟨w.heap.size, 0, none⟩ = some (.int .i64 (bestOf (strs xs m)).1) := by simp [World.cell?, hv]
    have cL : W.cell? ⟨w.heap.size, 1, none⟩ = some (.int .i64 (bestOf (strs xs m)).2) := by simp [World.cell?, hv]
    gi_wp2
    refine wpIn_wide.2 ?_
    repeat (go_quiet (fail); try go_wp2)
    gi_wp2
    have hBq : ∀ q, Below w.heap.size w (W.drewN q) := fun q => hB.trans ⟨rfl, rfl, rfl, Nat.le_refl _, fun _ _ => rfl⟩
    refine ⟨by simp, .inl ⟨_, _, rfl, run_takeDeferred (by exact hK), ?_⟩⟩
    exact ⟨_, results_tmp2 rfl _ _ _, rfl, (by first | exact hBq _ | exact hB : Below w.heap.size w _).trans (belowK_b (w := w) (Nat.le_refl _) _ W0.heap.size _ _ (by omega) hK rfl rfl)⟩
end Go.Proofs.Ytpfiladhmcdjlaa.St
