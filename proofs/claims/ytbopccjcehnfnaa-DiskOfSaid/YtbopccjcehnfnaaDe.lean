/- Written by a program of this session. slices.Delete of one write of a queue of one's own. -/
import Derived.Test.YtbopccjcehnfnaaDk
import Derived.Lib.SliceRun
namespace Go.Proofs.Ytbopccjcehnfnaa.Dk
open Go Go.RowKit Go.Shelf Go.Proofs Go.Proofs.Ytbopccjcehnfnaa.Sp Go.Proofs.Ytbopccjcehnfnaa.XFb Go.Proofs.YtbopccjcehnfnaaW.PrintWords Go.Proofs.YtbopccjcehnfnaaW.PrintLast Go.Proofs.YtbopccjcehnfnaaW.PrintMore
set_option linter.unusedVariables false
set_option linter.unusedSimpArgs false
theorem clear_beyond (W : World) (base : Nat) (S : Nat → Prop) (g n c c3 : Nat) (q : List S32) (hO : Kd.R k32 32 W base S (.slice (some ⟨g, 0, none⟩) (n - 1) c) q) (hnc : n ≤ c) (h0 : 0 < n) :
    ∃ W2, (∀ ty, (Builtin.clear_ #[28] ty #[.slice (some ⟨g, (n - 1) * 3, none⟩) (n - (n - 1)) c3]).run Try.prog W = .ok (.tuple #[]) W2) ∧ Kd.R k32 32 W2 base S (.slice (some ⟨g, 0, none⟩) (n - 1) c) q ∧ W.grownBy W2 (some g) := by
  obtain ⟨hok, inner, hown, hr⟩ := hO
  obtain ⟨ho1, ho2⟩ := hown
  rcases ho2 with ⟨hv, _⟩ | ⟨g', cap', cur, hv, hb, hh, hnc', hcm, hcs, ht⟩
  · cases hv
  injection hv with ha hq hc
  injection ha with ha
  injection ha with hg
  subst hg; subst hc
  have hsz : (k32 : Kd S32).sz = 3 := rfl
  rw [hsz] at hcs ht ho1
  have hcl : cur.toList.length = c * 3 := by rw [Array.length_toList, hcs]
  obtain ⟨Z, hZ⟩ : ∃ Z : List Value, Z = [.int .i64 0, .int .i64 0, .slice none 0 0] := ⟨_, rfl⟩
  have hzl : Z.length = 3 := by rw [hZ]; rfl
  have hst := run_storeCells_at Try.prog g ((n - 1) * 3) 32 Z 0 cur W hh (by rw [hzl, hcs]; omega) (by rw [hZ]; intro v hv; simp at hv; rcases hv with rfl | rfl <;> rfl)
  rw [Nat.add_zero, hzl] at hst
  refine ⟨W.setRow g (cur.toList.take ((n - 1) * 3) ++ Z ++ cur.toList.drop ((n - 1) * 3 + 3)).toArray, fun ty => ?_, ?_, ?_⟩
  · rw [show n - (n - 1) = 0 + 1 by omega]
    have hzc : (Builtin.zeroCells (Value.agg #[.int .i64 0, .int .i64 0, .slice none 0 0]).cells (0 + 1)).toList = Z := by rw [hZ]; kernel_rfl
    have hu := run_underlying (P := Try.prog) (w := W) Try.underlying28
    have hz : (zeroValue 32).run Try.prog W = .ok (.agg #[.int .i64 0, .int .i64 0, .slice none 0 0]) W := by rfl
    simp only [Builtin.clear_, List.getElem?_toArray, List.getElem?_cons_zero, Sem.run_bind, hu, Result.andThen_ok, hz, hzc, hst, Sem.run_pure]
  · refine ⟨hok, inner, ⟨ho1, .inr ⟨g, c, _, by rw [hq], hb, setRow_heap W g cur _ 32 _ hh, hnc', hcm, ?_, ?_⟩⟩, ?_⟩
    · rw [hsz]; simp [hzl, hcl, hcs]; omega
    · rw [hsz, ← hq, List.toList_toArray, List.append_assoc, List.take_append_of_le_length (by rw [List.length_take, hcl]; omega), List.take_take, Nat.min_self]
      rw [← hq] at ht; exact ht
    · exact hr.imp_ (fun x cs hM => Kd.M_move _ (fun k hk => setRow_other W g k _ (fun e => hk.2 (by rw [e]; simp [Value.ownBlock]))) hM)
  · exact ⟨rfl, rfl, rfl, by simp [World.setRow], fun k _ hk => setRow_other W g k _ (fun e => hk (by rw [e]))⟩
set_option maxRecDepth 100000 in
set_option maxHeartbeats 4000000 in
theorem delete_ok (W : World) (base : Nat) (S : Nat → Prop) (g n c k : Nat) (q : List S32) (hO : Kd.R k32 32 W base S (.slice (some ⟨g, 0, none⟩) n c) q) (hk : k < n) (hn : n ≤ 64) (hbase : base ≤ W.heap.size) :
    Calls Try.prog 34 #[.slice (some ⟨g, 0, none⟩) n c, .int .i64 (k : Int), .int .i64 ((k + 1 : Nat) : Int)] W fun e W' => e = .returned (.slice (some ⟨g, 0, none⟩) (n - 1) c) ∧ Kd.R k32 32 W' base S (.slice (some ⟨g, 0, none⟩) (n - 1) c) (q.eraseIdx k) ∧ W.grownBy W' (some g) := by
  have hnc := (Kd.R_reads' hO).2.1
  have HO := Aside0.mk hO
  clear hO
  have t1 : ((k : Int) == ((k + 1 : Nat) : Int)) = false := by simp; omega
  have hkc : k ≤ c := by omega
  have f1 : 0 ≤ (k : Int) + 1 := by omega
  have f2 : (k : Int) + 1 ≤ (n : Int) := by omega
  have f3 : k + 1 ≤ n := hk
  refine (callsIn_wide (n := 1)).1 ?_
  refine callsIn_of_wp Try.func34 rfl trivial ?_ rfl
  simp only [Try.ntmps34, List.size_toArray, List.length_cons, List.length_nil, Nat.reduceAdd, Nat.reduceSub, Array.replicate_succ, Array.replicate_zero, List.push_toArray, List.append_toArray, List.nil_append, List.cons_append]
  gi_wp2
  refine wpIn_wide.2 ?_
  refine start_ (n := 8) (S := fun w' => True) (ds := []) #[false, false, false, false, false, false, false, false] (by kernel_rfl) rfl rfl trivial (fun hHeld => ?_)
  refine pure_ (i := 0) (N := some 20) (v := ?_) (a' := ?_) #[true, false, false, false, false, false, false, false] rfl rfl (by kernel_rfl) (fun _ _ _ h => h) (Or.inl ⟨by rfl, ?_⟩) ?_ ?_
  rotate_left
  · intro w'
    go_simp
    with_reducible rfl
  rotate_left
  · simp only [Act.put, List.setIfInBounds_toArray, List.set_cons_zero, List.set_cons_succ, i64_w, i32_w]
    rfl
  refine pure_ (i := 1) (N := some 21) (v := ?_) (a' := ?_) #[true, true, false, false, false, false, false, false] rfl rfl (by kernel_rfl) (fun _ _ _ h => h) (Or.inl ⟨by rfl, ?_⟩) ?_ ?_
  rotate_left
  · intro w'
    go_simp
    with_reducible rfl
  rotate_left
  · simp only [Act.put, List.setIfInBounds_toArray, List.set_cons_zero, List.set_cons_succ, i64_w, i32_w]
    rfl
  refine pure_ (i := 2) (N := some 22) (v := ?_) (a' := ?_) #[true, true, true, false, false, false, false, false] rfl rfl (by kernel_rfl) (fun _ _ _ h => h) (Or.inl ⟨by rfl, ?_⟩) ?_ ?_
  rotate_left
  · intro w'
    go_simp
    with_reducible rfl
  rotate_left
  · simp only [Act.put, List.setIfInBounds_toArray, List.set_cons_zero, List.set_cons_succ, i64_w, i32_w]
    rfl
  refine pure_ (i := 3) (N := some 23) (v := ?_) (a' := ?_) #[true, true, true, true, false, false, false, false] rfl rfl (by kernel_rfl) (fun _ _ _ h => h) (Or.inl ⟨by rfl, ?_⟩) ?_ ?_
  rotate_left
  · intro w'
    go_simp
    with_reducible rfl
  rotate_left
  · simp only [Act.put, List.setIfInBounds_toArray, List.set_cons_zero, List.set_cons_succ, i64_w, i32_w]
    rfl
  refine pure_ (i := 4) (N := some 24) (v := ?_) (a' := ?_) #[true, true, true, true, true, false, false, false] rfl rfl (by kernel_rfl) (fun _ _ _ h => h) (Or.inl ⟨by rfl, ?_⟩) ?_ ?_
  rotate_left
  · intro w'
    go_simp
    with_reducible rfl
  rotate_left
  · simp only [Act.put, List.setIfInBounds_toArray, List.set_cons_zero, List.set_cons_succ, i64_w, i32_w]
    rfl
  refine pure_ (i := 5) (N := some 25) (v := ?_) (a' := ?_) #[true, true, true, true, true, true, false, false] rfl rfl (by kernel_rfl) (fun _ _ _ h => h) (Or.inl ⟨by rfl, ?_⟩) ?_ ?_
  rotate_left
  · intro w'
    go_simp
    with_reducible rfl
  rotate_left
  · simp only [Act.put, List.setIfInBounds_toArray, List.set_cons_zero, List.set_cons_succ, i64_w, i32_w]
    rfl
  refine one_ (i := 6) (N := some 26) #[true, true, true, true, true, true, true, false] rfl rfl (by kernel_rfl) (by decide) (fun K hK => ?_)
  refine Kd.R_delete_step k32 (w0 := W) base (by rfl) (.tmp 22) (.tmp 25) 28 32 rfl Try.underlying28 (by kernel_rfl) (g := g) (n := n) (c := c) (k := k) (m := n - (k + 1)) (xs := q) (ok := S) rfl rfl ?hA ?hm (Kd.R_drew HO.out) hk (below_drew1 (Below.refl _ _)) hbase ?_
  case hA =>
    have e3 : (⟨g, 0, none⟩ : Addr).add ((k + 1) * (k32 : Kd S32).sz) = ⟨g, (k + 1) * 3, none⟩ := by
      show (⟨g, 0, none⟩ : Addr).add ((k + 1) * 3) = _
      unfold Addr.add
      rw [if_neg (by omega)]
      simp
    rw [Option.map_some, e3]
  case hm => rfl
  intro w1 hr1 hb1 hg1
  obtain ⟨w2, hclr, hr2, hg2⟩ := clear_beyond w1 base S g n c (c - (n - 1)) _ hr1 hnc (by omega)
  have HR2 := Aside0.mk hr2
  have HG2 := Aside0.mk hg2
  clear hr2 hg2
  have HR1 := Aside0.mk hr1
  have HG1 := Aside0.mk hg1
  clear hr1 hb1 hg1
  refine hK.out _ _ trivial (fun hHeld => ?_)
  clear hK K
  refine norm_ (a' := ?_) ?_ ?_
  rotate_left
  · show Act.put _ (some 26) _ = _
    simp only [Act.put, List.setIfInBounds_toArray, List.set_cons_zero, List.set_cons_succ, i64_w, i32_w]
    rfl
  refine pure_ (i := 7) (N := some 0) (v := ?_) (a' := ?_) #[true, true, true, true, true, true, true, true] rfl rfl (by kernel_rfl) (fun _ _ _ h => h) (Or.inl ⟨by rfl, ?_⟩) ?_ ?_
  rotate_left
  · intro w'
    go_simp
    with_reducible rfl
  rotate_left
  · simp only [Act.put, List.setIfInBounds_toArray, List.set_cons_zero, List.set_cons_succ, i64_w, i32_w]
    rfl
  refine done_ (by kernel_rfl) ?_

  generalize (if c = k + 1 then some (⟨g, 0, none⟩ : Addr) else some ⟨g, (k + 1) * 3, none⟩) = A25
  gi_wp2
  go_ret
  exact ⟨rfl, HR2.out, World.grownBy.trans (show W.grownBy w1 (some g) from ⟨HG1.out.os, HG1.out.tape, HG1.out.output, HG1.out.size, HG1.out.block⟩) HG2.out⟩
end Go.Proofs.Ytbopccjcehnfnaa.Dk
