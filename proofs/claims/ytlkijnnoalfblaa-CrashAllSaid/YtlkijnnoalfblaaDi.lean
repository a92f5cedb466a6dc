/- Written by a program of this session. slices.Delete of one write of a queue of one's own. -/
import Derived.Test.YtlkijnnoalfblaaCe
import Derived.Lib.SliceRun
namespace Go.Proofs.Ytlkijnnoalfblaa.Dk
open Go Go.RowKit Go.Shelf Go.Proofs Go.Proofs.Ytlkijnnoalfblaa.Sp Go.Proofs.Ytlkijnnoalfblaa.XFb Go.Proofs.YtlkijnnoalfblaaW.PrintWords Go.Proofs.YtlkijnnoalfblaaW.PrintLast Go.Proofs.YtlkijnnoalfblaaW.PrintMore
set_option linter.unusedVariables false
set_option linter.unusedSimpArgs false
theorem clear_beyondI (W : World) (base : Nat) (S : Nat → Prop) (g n c c3 : Nat) (q : List Int) (hO : Kd.R (Kd.int .i64) 3 W base S (.slice (some ⟨g, 0, none⟩) (n - 1) c) q) (hnc : n ≤ c) (h0 : 0 < n) :
    ∃ W2, (∀ ty, (Builtin.clear_ #[33] ty #[.slice (some ⟨g, (n - 1) * 1, none⟩) (n - (n - 1)) c3]).run Try.prog W = .ok (.tuple #[]) W2) ∧ Kd.R (Kd.int .i64) 3 W2 base S (.slice (some ⟨g, 0, none⟩) (n - 1) c) q ∧ W.grownBy W2 (some g) := by
  obtain ⟨hok, inner, hown, hr⟩ := hO
  obtain ⟨ho1, ho2⟩ := hown
  rcases ho2 with ⟨hv, _⟩ | ⟨g', cap', cur, hv, hb, hh, hnc', hcm, hcs, ht⟩
  · cases hv
  injection hv with ha hq hc
  injection ha with ha
  injection ha with hg
  subst hg; subst hc
  have hsz : (Kd.int .i64 : Kd Int).sz = 1 := rfl
  rw [hsz] at hcs ht ho1
  have hcl : cur.toList.length = c * 1 := by rw [Array.length_toList, hcs]
  obtain ⟨Z, hZ⟩ : ∃ Z : List Value, Z = [.int .i64 0] := ⟨_, rfl⟩
  have hzl : Z.length = 1 := by rw [hZ]; rfl
  have hst := run_storeCells_at Try.prog g ((n - 1) * 1) 3 Z 0 cur W hh (by rw [hzl, hcs]; omega) (by rw [hZ]; intro v hv; simp at hv; subst hv; rfl)
  rw [Nat.add_zero, hzl] at hst
  refine ⟨W.setRow g (cur.toList.take ((n - 1) * 1) ++ Z ++ cur.toList.drop ((n - 1) * 1 + 1)).toArray, fun ty => ?_, ?_, ?_⟩
  · rw [show n - (n - 1) = 0 + 1 by omega]
    have hzc : (Builtin.zeroCells (Value.int .i64 0).cells (0 + 1)).toList = Z := by rw [hZ]; kernel_rfl
    have hu := run_underlying (P := Try.prog) (w := W) Try.underlying33
    have hz : (zeroValue 3).run Try.prog W = .ok (.int .i64 0) W := by rfl
    simp only [Builtin.clear_, List.getElem?_toArray, List.getElem?_cons_zero, Sem.run_bind, hu, Result.andThen_ok, hz, hzc, hst, Sem.run_pure]
  · refine ⟨hok, inner, ⟨ho1, .inr ⟨g, c, _, by rw [hq], hb, setRow_heap W g cur _ 3 _ hh, hnc', hcm, ?_, ?_⟩⟩, ?_⟩
    · rw [hsz]; simp [hzl, hcl, hcs]; omega
    · rw [hsz, ← hq, List.toList_toArray, List.append_assoc, List.take_append_of_le_length (by rw [List.length_take, hcl]; omega), List.take_take, Nat.min_self]
      rw [← hq] at ht; exact ht
    · exact hr.imp_ (fun x cs hM => Kd.M_move _ (fun k hk => setRow_other W g k _ (fun e => hk.2 (by rw [e]; simp [Value.ownBlock]))) hM)
  · exact ⟨rfl, rfl, rfl, by simp [World.setRow], fun k _ hk => setRow_other W g k _ (fun e => hk (by rw [e]))⟩
set_option maxRecDepth 100000 in
set_option maxHeartbeats 4000000 in
theorem deleteI_ok (W : World) (base : Nat) (S : Nat → Prop) (g n c k : Nat) (q : List Int) (hO : Kd.R (Kd.int .i64) 3 W base S (.slice (some ⟨g, 0, none⟩) n c) q) (hk : k < n) (hn : n ≤ 64) (hbase : base ≤ W.heap.size) :
    Calls Try.prog 50 #[.slice (some ⟨g, 0, none⟩) n c, .int .i64 (k : Int), .int .i64 ((k + 1 : Nat) : Int)] W fun e W' => e = .returned (.slice (some ⟨g, 0, none⟩) (n - 1) c) ∧ Kd.R (Kd.int .i64) 3 W' base S (.slice (some ⟨g, 0, none⟩) (n - 1) c) (q.eraseIdx k) ∧ W.grownBy W' (some g) := by
  have hnc := (Kd.R_reads' hO).2.1
  have HO := Aside0.mk hO
  clear hO
  have t1 : ((k : Int) == ((k + 1 : Nat) : Int)) = false := by simp; omega
  have hkc : k ≤ c := by omega
  have f1 : 0 ≤ (k : Int) + 1 := by omega
  have f2 : (k : Int) + 1 ≤ (n : Int) := by omega
  have f3 : k + 1 ≤ n := hk
  refine (callsIn_wide (n := 1)).1 ?_
  refine callsIn_of_wp Try.func50 rfl trivial ?_ rfl
  simp only [Try.ntmps50, List.size_toArray, List.length_cons, List.length_nil, Nat.reduceAdd, Nat.reduceSub, Array.replicate_succ, Array.replicate_zero, List.push_toArray, List.append_toArray, List.nil_append, List.cons_append]
  gi_wp2
  refine wpIn_wide.2 ?_
  refine start_ (n := 8) (S := fun w' => True) (ds := []) #[false, false, false, false, false, false, false, false] (by kernel_rfl) rfl rfl trivial (fun hHeld => ?_)
  refine pure_ (i := 0) (N := some 20) (v := ?_) (a' := ?_) #[true, false, false, false, false, false, false, false] rfl rfl (by kernel_rfl) (fun _ _ _ h => h) (Or.inl ⟨by rfl, ?_⟩) ?_ ?_
  rotate_left
  · intro w'
    go_simp
    with_reducible rfl
  rotate_left
  · simp only [Act.put, List.setIfInBounds_toArray, List.set_cons_zero, List.set_cons_succ, i64_w, i32_w]
    rfl
  refine pure_ (i := 1) (N := some 21) (v := ?_) (a' := ?_) #[true, true, false, false, false, false, false, false] rfl rfl (by kernel_rfl) (fun _ _ _ h => h) (Or.inl ⟨by rfl, ?_⟩) ?_ ?_
  rotate_left
  · intro w'
    go_simp
    with_reducible rfl
  rotate_left
  · simp only [Act.put, List.setIfInBounds_toArray, List.set_cons_zero, List.set_cons_succ, i64_w, i32_w]
    rfl
  refine pure_ (i := 2) (N := some 22) (v := ?_) (a' := ?_) #[true, true, true, false, false, false, false, false] rfl rfl (by kernel_rfl) (fun _ _ _ h => h) (Or.inl ⟨by rfl, ?_⟩) ?_ ?_
  rotate_left
  · intro w'
    go_simp
    with_reducible rfl
  rotate_left
  · simp only [Act.put, List.setIfInBounds_toArray, List.set_cons_zero, List.set_cons_succ, i64_w, i32_w]
    rfl
  refine pure_ (i := 3) (N := some 23) (v := ?_) (a' := ?_) #[true, true, true, true, false, false, false, false] rfl rfl (by kernel_rfl) (fun _ _ _ h => h) (Or.inl ⟨by rfl, ?_⟩) ?_ ?_
  rotate_left
  · intro w'
    go_simp
    with_reducible rfl
  rotate_left
  · simp only [Act.put, List.setIfInBounds_toArray, List.set_cons_zero, List.set_cons_succ, i64_w, i32_w]
    rfl
  refine pure_ (i := 4) (N := some 24) (v := ?_) (a' := ?_) #[true, true, true, true, true, false, false, false] rfl rfl (by kernel_rfl) (fun _ _ _ h => h) (Or.inl ⟨by rfl, ?_⟩) ?_ ?_
  rotate_left
  · intro w'
    go_simp
    with_reducible rfl
  rotate_left
  · simp only [Act.put, List.setIfInBounds_toArray, List.set_cons_zero, List.set_cons_succ, i64_w, i32_w]
    rfl
  refine pure_ (i := 5) (N := some 25) (v := ?_) (a' := ?_) #[true, true, true, true, true, true, false, false] rfl rfl (by kernel_rfl) (fun _ _ _ h => h) (Or.inl ⟨by rfl, ?_⟩) ?_ ?_
  rotate_left
  · intro w'
    go_simp
    with_reducible rfl
  rotate_left
  · simp only [Act.put, List.setIfInBounds_toArray, List.set_cons_zero, List.set_cons_succ, i64_w, i32_w]
    rfl
  refine one_ (i := 6) (N := some 26) #[true, true, true, true, true, true, true, false] rfl rfl (by kernel_rfl) (by decide) (fun K hK => ?_)
  refine Kd.R_delete_step (Kd.int .i64) (w0 := W) base (by rfl) (.tmp 22) (.tmp 25) 33 3 rfl Try.underlying33 (by kernel_rfl) (g := g) (n := n) (c := c) (k := k) (m := n - (k + 1)) (xs := q) (ok := S) rfl rfl ?hA ?hm (Kd.R_drew HO.out) hk (below_drew1 (Below.refl _ _)) hbase ?_
  case hA =>
    have e3 : (⟨g, 0, none⟩ : Addr).add ((k + 1) * (Kd.int .i64 : Kd Int).sz) = ⟨g, k + 1, none⟩ := by
      show (⟨g, 0, none⟩ : Addr).add ((k + 1) * 1) = _
      unfold Addr.add
      rw [if_neg (by omega)]
      simp
    rw [Option.map_some, e3]
  case hm => rfl
  intro w1 hr1 hb1 hg1
  obtain ⟨w2, hclr, hr2, hg2⟩ := clear_beyondI w1 base S g n c (c - (n - 1)) _ hr1 hnc (by omega)
  simp only [Nat.mul_one] at hclr
  have HR2 := Aside0.mk hr2
  have HG2 := Aside0.mk hg2
  clear hr2 hg2
  have HR1 := Aside0.mk hr1
  have HG1 := Aside0.mk hg1
  clear hr1 hb1 hg1
  refine hK.out _ _ trivial (fun hHeld => ?_)
  clear hK K
  refine norm_ (a' := ?_) ?_ ?_
  rotate_left
  · show Act.put _ (some 26) _ = _
    simp only [Act.put, List.setIfInBounds_toArray, List.set_cons_zero, List.set_cons_succ, i64_w, i32_w]
    rfl
  refine pure_ (i := 7) (N := some 0) (v := ?_) (a' := ?_) #[true, true, true, true, true, true, true, true] rfl rfl (by kernel_rfl) (fun _ _ _ h => h) (Or.inl ⟨by rfl, ?_⟩) ?_ ?_
  rotate_left
  · intro w'
    go_simp
    with_reducible rfl
  rotate_left
  · simp only [Act.put, List.setIfInBounds_toArray, List.set_cons_zero, List.set_cons_succ, i64_w, i32_w]
    rfl
  refine done_ (by kernel_rfl) ?_

  generalize (if c = k + 1 then some (⟨g, 0, none⟩ : Addr) else some ⟨g, k + 1, none⟩) = A25
  gi_wp2
  go_ret
  exact ⟨rfl, HR2.out, World.grownBy.trans (show W.grownBy w1 (some g) from ⟨HG1.out.os, HG1.out.tape, HG1.out.output, HG1.out.size, HG1.out.block⟩) HG2.out⟩
/-- The first place of a number, from i on; -1: none. -/
def ixE (v : Int) : List Int → Int → Int
  | [], _ => -1
  | x :: r, i => if v = x then i else ixE v r (i + 1)
set_option maxRecDepth 100000 in
set_option maxHeartbeats 4000000 in
theorem indexI_ok (A : Option Addr) (c : Nat) (xs : List Int) (v : Int) (w : World) (hC : Kd.C (Kd.int .i64) w A xs.length xs) (hlen : xs.length ≤ 1000000000000000) :
    Calls Try.prog 49 #[.slice A xs.length c, .int .i64 v] w fun e w' => e = .returned (.int .i64 (ixE v xs 0)) ∧ w' = w := by
  have HC := Aside0.mk hC
  clear hC
  refine (callsIn_wide (n := 1)).1 ?_
  refine callsIn_of_wp Try.func49 rfl trivial ?_ rfl
  simp only [Try.ntmps49, List.size_toArray, List.length_cons, List.length_nil, Nat.reduceAdd, Nat.reduceSub, Array.replicate_succ, Array.replicate_zero, List.push_toArray, List.append_toArray, List.nil_append, List.cons_append]
  gi_wp2
  gi_loopw [8] (fun v8 w' => ∃ i : Nat, v8 = .int .i64 (i : Int) ∧ i ≤ xs.length ∧ ixE v xs 0 = ixE v (xs.drop i) i ∧ w' = w) (fun v8 _ => xs.length - (intOf v8).toNat)
  case atStart => exact ⟨0, rfl, Nat.zero_le _, rfl, rfl⟩
  case round =>
    obtain ⟨i, rfl, hi, hall, rfl⟩ := hrel
    by_cases hlt : i < xs.length
    · have t1 : decide ((i : Int) < (xs.length : Int)) = true := decide_eq_true (by omega)
      obtain ⟨ad, hA, hcid⟩ := at_int HC.out i hlt
      subst hA
      have hg : xs.getD i 0 = xs[i] := by simp [List.getD_eq_getElem?_getD, hlt]
      rw [hg] at hcid
      have hd : xs.drop i = xs[i] :: xs.drop (i + 1) := List.drop_eq_getElem_cons hlt
      rw [hd] at hall
      generalize xs[i] = x at *
      rw [show ixE v (x :: xs.drop (i + 1)) (i : Int) = if v = x then (i : Int) else ixE v (xs.drop (i + 1)) ((i : Int) + 1) from rfl] at hall
      have HL := Aside0.mk hall
      clear hall hd hg
      by_cases hp : v = x
      · have t2 : (v == x) = true := beq_iff_eq.2 hp
        have HL' := HL.out
        rw [if_pos hp] at HL'
        have HL2 := Aside0.mk HL'
        clear HL' HL hp
        gi_wp2
        go_ret
        exact ⟨by rw [HL2.out]; rfl, rfl⟩
      · have t2 : (v == x) = false := by rw [beq_eq_false_iff_ne]; exact hp
        have HL' := HL.out
        rw [if_neg hp] at HL'
        have HL2 := Aside0.mk HL'
        clear HL' HL hp
        gi_wp2
        exact ⟨⟨i + 1, by simp, hlt, HL2.out.trans (congrArg (ixE v _) (by omega)), trivial⟩, by simp [intOf]; omega⟩
    · obtain rfl : i = xs.length := by omega
      have t1 : decide ((xs.length : Int) < (xs.length : Int)) = false := decide_eq_false (by omega)
      rw [List.drop_length] at hall
      have HL := Aside0.mk hall
      clear hall
      gi_wp2
      go_ret
      exact ⟨by rw [HL.out]; rfl, rfl⟩
end Go.Proofs.Ytlkijnnoalfblaa.Dk
