/- Written by a program of this session. append of so many noughts onto a row of one's own. -/
import Derived.Test.YtbopccjcehnfnaaAp
namespace Go.Proofs.Ytbopccjcehnfnaa.Ap
open Go Go.RowKit Go.Shelf Go.Proofs Go.Proofs.YtbopccjcehnfnaaW.PrintWords Go.Proofs.YtbopccjcehnfnaaW.PrintLast Go.Proofs.YtbopccjcehnfnaaW.PrintMore
set_option linter.unusedVariables false
set_option linter.unusedSimpArgs false
section
variable {P : Program}
theorem run_append_zeros_own {W : World} (base : Nat) (t u ty e : TypeId) (k : IntKind) (bytes : Nat) (ht : P.underlying t = some (.slice e)) (hu : P.underlying u = some (.int .i64))
    (hinfo : (P.info? e).map (fun i => (i.zero, i.size, i.bytes)) = some (some (.int k 0), 1, bytes)) (hb0 : 0 < bytes)
    (v : Value) (xs : List Int) (ok : Nat → Prop) (hfresh : ∀ k, W.heap.size ≤ k → ok k) (HO : (Kd.int k).R e W base ok v xs) (m : Nat) (hbase : base ≤ W.heap.size) (hl : (xs.length + m) * bytes ≤ 140737488355328) :
    ∃ v1 w1, (Builtin.append_ #[t, u] ty #[v, .int .i64 (m : Int)]).run P W = .ok v1 w1 ∧ (Kd.int k).R e w1 base ok v1 (xs ++ List.replicate m 0) ∧ W.grownBy w1 v.ownBlock := by
  have hok := HO.1
  have hown := Kd.own_of_R HO
  obtain ⟨i0, hi, hzz⟩ := Option.map_eq_some_iff.1 hinfo
  simp only [Prod.mk.injEq] at hzz
  obtain ⟨hz0, hz1, hz2⟩ := hzz
  have hlen : xs.length + m ≤ 140737488355328 := Nat.le_trans (Nat.le_mul_of_pos_right _ hb0) hl
  have hmb : m * bytes ≤ 140737488355328 := Nat.le_trans (Nat.mul_le_mul_right _ (Nat.le_add_left _ _)) hl
  have hw0 : IntKind.i64.wrap 0 = 0 := by rw [IntKind.wrap_i64]; rfl
  have hw : IntKind.i64.wrap (m : Int) = (m : Int) := by rw [IntKind.wrap_i64]; omega
  have h1 : ¬ ((m : Int) < 0) := by omega
  have h2 : ¬ (281474976710656 < (m : Int) * (bytes : Int)) := by
    have : ((m * bytes : Nat) : Int) ≤ 140737488355328 := by omega
    rw [Int.natCast_mul] at this; omega
  have hcz : (Value.int k 0).cells = #[.int k 0] := rfl
  have hzl : ∀ q, (Builtin.zeroCells #[Value.int k 0] q).toList = List.replicate q (.int k 0) := fun q => by
    simp [Builtin.zeroCells]
    apply List.ext_getElem
    · simp
    · intro i h1 h2
      simp [Nat.mod_one]
  have hze : ∀ q, Builtin.zeroCells #[Value.int k 0] q = (List.replicate q (Value.int k 0)).toArray := fun q => by rw [← hzl q]
  have henc : encs (Value.int k) (xs ++ List.replicate m 0) = encs (Value.int k) xs ++ List.replicate m (.int k 0) := by simp [encs]
  rcases hown.2 with ⟨rfl, hx⟩ | ⟨g, cap, cur, rfl, hbg, hg, hnc, hcm, hcs, htake⟩
  · have hxs : xs = [] := List.eq_nil_of_length_eq_zero hx
    subst hxs
    by_cases hm : 0 < m
    · have hr := run_append_zeros (P := P) (W := W) t u ty e k (.int k 0) bytes ht hu hinfo rfl m hm hmb hb0
      have hge := grownCap_ge W m 0 e
      have hle := grownCap_le_maxLen W m 0 e (by simp only [maxLen]; omega)
      refine ⟨_, _, hr, ?_, ⟨rfl, rfl, rfl, by simp, fun k hk _ => heap_alloc_old W.drew _ k hk⟩⟩
      refine Kd.R_of_own (h1 := fun _ => rfl) ⟨by rw [encs_length, Nat.mul_one], .inr ⟨W.heap.size, _, _, by simp, hbase, heap_alloc_new W.drew _, by simpa using hge, hle, ?_, ?_⟩⟩ (fun q hq => by simp [Value.ownBlock] at hq; subst hq; exact hfresh _ (Nat.le_refl _))
      · simp [hcz, hze]; omega
      · simp [hcz, hze, encs]
    · obtain rfl : m = 0 := by omega
      refine ⟨.slice none 0 0, W, ?_, Kd.R_nil _ _ _ _ _, ⟨rfl, rfl, rfl, Nat.le_refl _, fun _ _ _ => rfl⟩⟩
      simp [Builtin.append_, run_underlying ht, run_underlying hu, sizeOf, typeInfo, hi, hz1, hz2, asInt, asIntOf, hw, hw0, Builtin.lenOf]
  · rw [Nat.mul_one] at hcs htake
    by_cases hroom : xs.length + m ≤ cap
    · have hst := run_storeCells_at P g xs.length e (List.replicate m (Value.int k 0)) 0 cur W hg (by rw [List.length_replicate, hcs]; omega) (fun v hv => by rw [List.eq_of_mem_replicate hv]; rfl)
      simp only [Nat.add_zero, List.length_replicate] at hst
      have hadd : (⟨g, 0, none⟩ : Addr).add (xs.length * i0.size) = ⟨g, xs.length, none⟩ := by rw [hz1, Nat.mul_one]; unfold Addr.add; by_cases h : xs.length = 0 <;> simp [h]
      refine ⟨.slice (some ⟨g, 0, none⟩) (xs.length + m) cap, W.setRow g (cur.toList.take xs.length ++ List.replicate m (Value.int k 0) ++ cur.toList.drop (xs.length + m)).toArray, ?_, ?_, ⟨rfl, rfl, rfl, by simp [World.setRow], fun k _ hk => setRow_other W g k _ (fun e => hk (by simp [Value.ownBlock, e]))⟩⟩
      · by_cases hm : m = 0
        · subst hm
          have hself : W.setRow g (cur.toList.take xs.length ++ cur.toList.drop xs.length).toArray = W := by rw [List.take_append_drop, Array.toArray_toList, setRow_self W g cur e (0, 0) hg]
          simp [Builtin.append_, run_underlying ht, run_underlying hu, sizeOf, typeInfo, hi, hz1, hz2, asInt, asIntOf, hw, hw0, Builtin.lenOf, hnc, storeCells]
          exact (setRow_self W g cur e (0, 0) hg).symm
        · simp [Builtin.append_, run_underlying ht, run_underlying hu, sizeOf, typeInfo, zeroValue, hi, hz0, hz1, hz2, asInt, asIntOf, hw, h1, h2, hm, Builtin.lenOf, hroom, hcz, hzl, hst, hadd]
          rw [hz1] at hadd
          rw [Nat.mul_one] at hadd
          simp [hadd, hst]
      · refine Kd.R_of_own (h1 := fun _ => rfl) ⟨by rw [encs_length, Nat.mul_one], .inr ⟨g, cap, _, by rw [List.length_append, List.length_replicate], hbg, setRow_heap W g cur _ e _ hg, by rw [List.length_append, List.length_replicate]; exact hroom, hcm, ?_, ?_⟩⟩ (fun q hq => hok q (by simpa [Value.ownBlock] using hq))
        · simp; omega
        · rw [List.toList_toArray, henc, ← htake, Nat.mul_one]
          exact List.take_left' (by simp; omega)
    · have hn : ¬ (xs.length + m ≤ cap) := hroom
      have hm : m ≠ 0 := by omega
      have h63' : ¬ (9223372036854775807 < ((xs.length : Int) + (m : Int))) := by omega
      have h48' : ¬ (281474976710656 < Builtin.nextslicecap (xs.length + m) cap * bytes) := by have := growslice_fits (need := xs.length + m) (old := cap) (bytes := bytes) (by omega) hl; omega
      have holds : ∀ j u, (encs (Value.int k) xs)[j]? = some u → W.cell? ((⟨g, 0, none⟩ : Addr).add j) = some u := hown.cells (g := g) rfl
      have hfo := run_firstCells_some (P := P) W.drew 1 xs.length ⟨g, 0, none⟩ xs.length cap (encs (Value.int k) xs) (by rw [encs_length, Nat.mul_one]) (by simpa using holds)
      have hge := grownCap_ge W (xs.length + m) cap e
      have hle := grownCap_le_maxLen W (xs.length + m) cap e (by simp only [maxLen]; omega)
      refine ⟨.slice (some ⟨W.heap.size, 0, none⟩) (xs.length + m) (grownCap W (xs.length + m) cap e), W.drew.alloc (.cells ((encs (Value.int k) xs).toArray ++ (List.replicate m (Value.int k 0)).toArray ++ Builtin.zeroCells #[.int k 0] (grownCap W (xs.length + m) cap e - (xs.length + m))) e), ?_, ?_, ⟨rfl, rfl, rfl, by simp, fun k hk _ => heap_alloc_old W.drew _ k hk⟩⟩
      · simp [Builtin.append_, run_underlying ht, run_underlying hu, sizeOf, typeInfo, zeroValue, hi, hz0, hz1, hz2, asInt, asIntOf, hw, h1, h2, hm, hn, h63', h48', Builtin.lenOf, Question.forced, hfo, newRow, grownCap, hcz, hze]
      · refine Kd.R_of_own (h1 := fun _ => rfl) ⟨by rw [encs_length, Nat.mul_one], .inr ⟨W.heap.size, _, _, by rw [List.length_append, List.length_replicate], hbase, heap_alloc_new W.drew _, by rw [List.length_append, List.length_replicate]; exact hge, hle, ?_, ?_⟩⟩ (fun q hq => by simp [Value.ownBlock] at hq; subst hq; exact hfresh _ (Nat.le_refl _))
        · simp [hze, encs_length]; omega
        · rw [henc]; simp [hze, encs_length]
          rw [← List.replicate_append_replicate, ← List.append_assoc]
          exact List.take_left' (by simp [encs_length])
theorem append_step {ops : Array Oper} {o : Oper} {a : Act} {Q : Exit → Act → World → Prop} {Kc : Act → World → Prop} {W w1 : World} {v1 : Value} (hw : Region.wanted o (yielded ops a.tmps) = true) (s x : Operand) (ts : Array TypeId)
    (ho : o.op = .call { callee := .builtin .append, args := #[s, x], argTypes := ts }) (u y : Value) (hs : a.eval s = u) (hx : a.eval x = y) (hrun : (Builtin.append_ ts o.type #[u, y]).run P W = .ok v1 w1) (h : Kc (a.put o.dst v1) w1) :
    if Region.wanted o (yielded ops a.tmps) = true then Oper.wp P o a W Kc Q else Kc (a.put o.dst undef) W := by
  rw [if_pos hw]
  unfold Oper.wp execOp
  simp only [ho, resolve, invoke, builtin, Sem.run_bind, Sem.run_pure, Result.andThen_ok, List.map_toArray, List.map_cons, List.map_nil, hs, hx, hrun]
  exact h
end
end Go.Proofs.Ytbopccjcehnfnaa.Ap
