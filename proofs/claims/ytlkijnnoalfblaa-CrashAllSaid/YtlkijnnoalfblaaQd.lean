/- Written by a program of this session (tools/trim.py): Az Ds, as far as the seat has what they speak of. -/
import Derived.Test.YtlkijnnoalfblaaQc
import Derived.Test.YtlkijnnoalfblaaQc
import Derived.Test.YtlkijnnoalfblaaQc
namespace Go.Proofs.Ytlkijnnoalfblaa.Ap
open Go Go.RowKit Go.Shelf Go.Proofs Go.Proofs.YtlkijnnoalfblaaW.PrintWords Go.Proofs.YtlkijnnoalfblaaW.PrintLast Go.Proofs.YtlkijnnoalfblaaW.PrintMore
set_option linter.unusedVariables false
set_option linter.unusedSimpArgs false
section
variable {P : Program}
theorem run_append_zeros_own {W : World} (base : Nat) (t u ty e : TypeId) (k : IntKind) (bytes : Nat) (ht : P.underlying t = some (.slice e)) (hu : P.underlying u = some (.int .i64))
    (hinfo : (P.info? e).map (fun i => (i.zero, i.size, i.bytes)) = some (some (.int k 0), 1, bytes)) (hb0 : 0 < bytes)
    (v : Value) (xs : List Int) (ok : Nat → Prop) (hfresh : ∀ k, W.heap.size ≤ k → ok k) (HO : (Kd.int k).R e W base ok v xs) (m : Nat) (hbase : base ≤ W.heap.size) (hl : (xs.length + m) * bytes ≤ 140737488355328) :
    ∃ v1 w1, (Builtin.append_ #[t, u] ty #[v, .int .i64 (m : Int)]).run P W = .ok v1 w1 ∧ (Kd.int k).R e w1 base ok v1 (xs ++ List.replicate m 0) ∧ W.grownBy w1 v.ownBlock := by
  have hok := HO.1
  have hown := Kd.own_of_R HO
  obtain ⟨i0, hi, hzz⟩ := Option.map_eq_some_iff.1 hinfo
  simp only [Prod.mk.injEq] at hzz
  obtain ⟨hz0, hz1, hz2⟩ := hzz
  have hlen : xs.length + m ≤ 140737488355328 := Nat.le_trans (Nat.le_mul_of_pos_right _ hb0) hl
  have hmb : m * bytes ≤ 140737488355328 := Nat.le_trans (Nat.mul_le_mul_right _ (Nat.le_add_left _ _)) hl
  have hw0 : IntKind.i64.wrap 0 = 0 := by rw [IntKind.wrap_i64]; rfl
  have hw : IntKind.i64.wrap (m : Int) = (m : Int) := by rw [IntKind.wrap_i64]; omega
  have h1 : ¬ ((m : Int) < 0) := by omega
  have h2 : ¬ (281474976710656 < (m : Int) * (bytes : Int)) := by
    have : ((m * bytes : Nat) : Int) ≤ 140737488355328 := by omega
    rw [Int.natCast_mul] at this; omega
  have hcz : (Value.int k 0).cells = #[.int k 0] := rfl
  have hzl : ∀ q, (Builtin.zeroCells #[Value.int k 0] q).toList = List.replicate q (.int k 0) := fun q => by
    simp [Builtin.zeroCells]
    apply List.ext_getElem
    · simp
    · intro i h1 h2
      simp [Nat.mod_one]
  have hze : ∀ q, Builtin.zeroCells #[Value.int k 0] q = (List.replicate q (Value.int k 0)).toArray := fun q => by rw [← hzl q]
  have henc : encs (Value.int k) (xs ++ List.replicate m 0) = encs (Value.int k) xs ++ List.replicate m (.int k 0) := by simp [encs]
  rcases hown.2 with ⟨rfl, hx⟩ | ⟨g, cap, cur, rfl, hbg, hg, hnc, hcm, hcs, htake⟩
  · have hxs : xs = [] := List.eq_nil_of_length_eq_zero hx
    subst hxs
    by_cases hm : 0 < m
    · have hr := run_append_zeros (P := P) (W := W) t u ty e k (.int k 0) bytes ht hu hinfo rfl m hm hmb hb0
      have hge := grownCap_ge W m 0 e
      have hle := grownCap_le_maxLen W m 0 e (by simp only [maxLen]; omega)
      refine ⟨_, _, hr, ?_, ⟨rfl, rfl, rfl, by simp, fun k hk _ => heap_alloc_old W.drew _ k hk⟩⟩
      refine Kd.R_of_own (h1 := fun _ => rfl) ⟨by rw [encs_length, Nat.mul_one], .inr ⟨W.heap.size, _, _, by simp, hbase, heap_alloc_new W.drew _, by simpa using hge, hle, ?_, ?_⟩⟩ (fun q hq => by simp [Value.ownBlock] at hq; subst hq; exact hfresh _ (Nat.le_refl _))
      · simp [hcz, hze]; omega
      · simp [hcz, hze, encs]
    · obtain rfl : m = 0 := by omega
      refine ⟨.slice none 0 0, W, ?_, Kd.R_nil _ _ _ _ _, ⟨rfl, rfl, rfl, Nat.le_refl _, fun _ _ _ => rfl⟩⟩
      simp [Builtin.append_, run_underlying ht, run_underlying hu, sizeOf, typeInfo, hi, hz1, hz2, asInt, asIntOf, hw, hw0, Builtin.lenOf]
  · rw [Nat.mul_one] at hcs htake
    by_cases hroom : xs.length + m ≤ cap
    · have hst := run_storeCells_at P g xs.length e (List.replicate m (Value.int k 0)) 0 cur W hg (by rw [List.length_replicate, hcs]; omega) (fun v hv => by rw [List.eq_of_mem_replicate hv]; rfl)
      simp only [Nat.add_zero, List.length_replicate] at hst
      have hadd : (⟨g, 0, none⟩ : Addr).add (xs.length * i0.size) = ⟨g, xs.length, none⟩ := by rw [hz1, Nat.mul_one]; unfold Addr.add; by_cases h : xs.length = 0 <;> simp [h]
      refine ⟨.slice (some ⟨g, 0, none⟩) (xs.length + m) cap, W.setRow g (cur.toList.take xs.length ++ List.replicate m (Value.int k 0) ++ cur.toList.drop (xs.length + m)).toArray, ?_, ?_, ⟨rfl, rfl, rfl, by simp [World.setRow], fun k _ hk => setRow_other W g k _ (fun e => hk (by simp [Value.ownBlock, e]))⟩⟩
      · by_cases hm : m = 0
        · subst hm
          have hself : W.setRow g (cur.toList.take xs.length ++ cur.toList.drop xs.length).toArray = W := by rw [List.take_append_drop, Array.toArray_toList, setRow_self W g cur e (0, 0) hg]
          simp [Builtin.append_, run_underlying ht, run_underlying hu, sizeOf, typeInfo, hi, hz1, hz2, asInt, asIntOf, hw, hw0, Builtin.lenOf, hnc, storeCells]
          exact (setRow_self W g cur e (0, 0) hg).symm
        · simp [Builtin.append_, run_underlying ht, run_underlying hu, sizeOf, typeInfo, zeroValue, hi, hz0, hz1, hz2, asInt, asIntOf, hw, h1, h2, hm, Builtin.lenOf, hroom, hcz, hzl, hst, hadd]
          rw [hz1] at hadd
          rw [Nat.mul_one] at hadd
          simp [hadd, hst]
      · refine Kd.R_of_own (h1 := fun _ => rfl) ⟨by rw [encs_length, Nat.mul_one], .inr ⟨g, cap, _, by rw [List.length_append, List.length_replicate], hbg, setRow_heap W g cur _ e _ hg, by rw [List.length_append, List.length_replicate]; exact hroom, hcm, ?_, ?_⟩⟩ (fun q hq => hok q (by simpa [Value.ownBlock] using hq))
        · simp; omega
        · rw [List.toList_toArray, henc, ← htake, Nat.mul_one]
          exact List.take_left' (by simp; omega)
    · have hn : ¬ (xs.length + m ≤ cap) := hroom
      have hm : m ≠ 0 := by omega
      have h63' : ¬ (9223372036854775807 < ((xs.length : Int) + (m : Int))) := by omega
      have h48' : ¬ (281474976710656 < Builtin.nextslicecap (xs.length + m) cap * bytes) := by have := growslice_fits (need := xs.length + m) (old := cap) (bytes := bytes) (by omega) hl; omega
      have holds : ∀ j u, (encs (Value.int k) xs)[j]? = some u → W.cell? ((⟨g, 0, none⟩ : Addr).add j) = some u := hown.cells (g := g) rfl
      have hfo := run_firstCells_some (P := P) W.drew 1 xs.length ⟨g, 0, none⟩ xs.length cap (encs (Value.int k) xs) (by rw [encs_length, Nat.mul_one]) (by simpa using holds)
      have hge := grownCap_ge W (xs.length + m) cap e
      have hle := grownCap_le_maxLen W (xs.length + m) cap e (by simp only [maxLen]; omega)
      refine ⟨.slice (some ⟨W.heap.size, 0, none⟩) (xs.length + m) (grownCap W (xs.length + m) cap e), W.drew.alloc (.cells ((encs (Value.int k) xs).toArray ++ (List.replicate m (Value.int k 0)).toArray ++ Builtin.zeroCells #[.int k 0] (grownCap W (xs.length + m) cap e - (xs.length + m))) e), ?_, ?_, ⟨rfl, rfl, rfl, by simp, fun k hk _ => heap_alloc_old W.drew _ k hk⟩⟩
      · simp [Builtin.append_, run_underlying ht, run_underlying hu, sizeOf, typeInfo, zeroValue, hi, hz0, hz1, hz2, asInt, asIntOf, hw, h1, h2, hm, hn, h63', h48', Builtin.lenOf, Question.forced, hfo, newRow, grownCap, hcz, hze]
      · refine Kd.R_of_own (h1 := fun _ => rfl) ⟨by rw [encs_length, Nat.mul_one], .inr ⟨W.heap.size, _, _, by rw [List.length_append, List.length_replicate], hbase, heap_alloc_new W.drew _, by rw [List.length_append, List.length_replicate]; exact hge, hle, ?_, ?_⟩⟩ (fun q hq => by simp [Value.ownBlock] at hq; subst hq; exact hfresh _ (Nat.le_refl _))
        · simp [hze, encs_length]; omega
        · rw [henc]; simp [hze, encs_length]
          rw [← List.replicate_append_replicate, ← List.append_assoc]
          exact List.take_left' (by simp [encs_length])
theorem append_step {ops : Array Oper} {o : Oper} {a : Act} {Q : Exit → Act → World → Prop} {Kc : Act → World → Prop} {W w1 : World} {v1 : Value} (hw : Region.wanted o (yielded ops a.tmps) = true) (s x : Operand) (ts : Array TypeId)
    (ho : o.op = .call { callee := .builtin .append, args := #[s, x], argTypes := ts }) (u y : Value) (hs : a.eval s = u) (hx : a.eval x = y) (hrun : (Builtin.append_ ts o.type #[u, y]).run P W = .ok v1 w1) (h : Kc (a.put o.dst v1) w1) :
    if Region.wanted o (yielded ops a.tmps) = true then Oper.wp P o a W Kc Q else Kc (a.put o.dst undef) W := by
  rw [if_pos hw]
  unfold Oper.wp execOp
  simp only [ho, resolve, invoke, builtin, Sem.run_bind, Sem.run_pure, Result.andThen_ok, List.map_toArray, List.map_cons, List.map_nil, hs, hx, hrun]
  exact h
end
end Go.Proofs.Ytlkijnnoalfblaa.Ap

namespace Go.Proofs.Ytlkijnnoalfblaa.Dk
open Go Go.RowKit Go.Shelf Go.Proofs Go.Proofs.Ytlkijnnoalfblaa.Sp Go.Proofs.Ytlkijnnoalfblaa.Ap Go.Proofs.Ytlkijnnoalfblaa.XFb Go.Proofs.YtlkijnnoalfblaaW.PrintWords Go.Proofs.YtlkijnnoalfblaaW.PrintLast Go.Proofs.YtlkijnnoalfblaaW.PrintMore
set_option linter.unusedVariables false
set_option linter.unusedSimpArgs false
abbrev DoT := Int × Int × Int × List Int × List Int
def kDo : Kd DoT := Kd.pair (Kd.int .i64) (Kd.pair (Kd.int .i64) (Kd.pair (Kd.int .i64) (Kd.pair (Kd.slice 5 (Kd.int .u8)) (Kd.slice 3 (Kd.int .i64)))))
def zDo : DoT := (0, 0, 0, [], [])
theorem at_Do {w : World} {A : Option Addr} {n : Nat} {xs : List DoT} (h : Kd.C kDo w A n xs) (i : Nat) (h1 : i < n) : ∃ ad A3 c3 A4 c4, A = some ad ∧ w.cell? (ad.add (i * 5)) = some (.int .i64 (xs.getD i zDo).1) ∧ w.cell? ⟨(ad.add (i * 5)).block, (ad.add (i * 5)).off + 1, none⟩ = some (.int .i64 (xs.getD i zDo).2.1) ∧
    w.cell? ⟨(ad.add (i * 5)).block, (ad.add (i * 5)).off + 2, none⟩ = some (.int .i64 (xs.getD i zDo).2.2.1) ∧ w.cell? ⟨(ad.add (i * 5)).block, (ad.add (i * 5)).off + 3, none⟩ = some (.slice A3 (xs.getD i zDo).2.2.2.1.length c3) ∧ w.cell? ⟨(ad.add (i * 5)).block, (ad.add (i * 5)).off + 4, none⟩ = some (.slice A4 (xs.getD i zDo).2.2.2.2.length c4) ∧
    (xs.getD i zDo).2.2.2.1.length ≤ c3 ∧ (Kd.int .u8).C w A3 (xs.getD i zDo).2.2.2.1.length (xs.getD i zDo).2.2.2.1 ∧ (xs.getD i zDo).2.2.2.2.length ≤ c4 ∧ (Kd.int .i64).C w A4 (xs.getD i zDo).2.2.2.2.length (xs.getD i zDo).2.2.2.2 := by
  obtain ⟨ad, c, e, _, hK, hc0⟩ := Kd.C_get h zDo (i : Int) (by omega) (by omega)
  rw [Int.toNat_natCast] at hK hc0
  have hc : ∀ j u, c[j]? = some u → w.cell? (ad.add (i * 5 + j)) = some u := hc0
  obtain ⟨_, _, rfl, rfl, ⟨_, _, rfl, rfl, ⟨_, _, rfl, rfl, ⟨_, _, rfl, ⟨A3, c3, rfl, l3, g3⟩, ⟨A4, c4, rfl, l4, g4⟩⟩⟩⟩⟩ := hK
  exact ⟨ad, A3, c3, A4, c4, e, hc 0 _ rfl, by rw [← add_field _ _ 1 (by omega)]; exact hc 1 _ rfl, by rw [← add_field _ _ 2 (by omega)]; exact hc 2 _ rfl, by rw [← add_field _ _ 3 (by omega)]; exact hc 3 _ rfl, by rw [← add_field _ _ 4 (by omega)]; exact hc 4 _ rfl, l3, g3, l4, g4⟩
theorem C_pre {α : Type} {d : Kd α} {W : World} {A : Option Addr} {n : Nat} {xs : List α} (h : Kd.C d W A n xs) (k : Nat) (hk : k ≤ xs.length) : Kd.C d W A k (xs.take k) :=
  ⟨by rw [List.length_take]; omega, by have h1 := h.1; have h2 := h.2.1; omega, fun h0 => by
    obtain ⟨ad, e, hc⟩ := h.2.2 (by have h1 := h.1; omega)
    refine ⟨ad, e, fun j p hj => hc j p ?_⟩
    rw [List.getElem?_take] at hj
    split at hj
    · exact hj
    · cases hj⟩
theorem u64_w (n : Int) : IntKind.u64.wrap n = n % 18446744073709551616 := by
  first | rfl | simp [IntKind.wrap]
theorem mod8 (n : Int) : wrap64 (1 + wrap64 ((IntKind.u64.wrap n).tmod 8)) = ((1 + (n % 8).toNat : Nat) : Int) := by
  rw [u64_w, Int.tmod_eq_emod_of_nonneg (by omega)]
  have h : n % 18446744073709551616 % 8 = n % 8 := by omega
  rw [h]
  unfold wrap64
  omega
theorem modN (n : Int) (k : Nat) (h1 : 1 ≤ k) (h2 : k ≤ 2048) : ∃ b : Int, wrap64 ((IntKind.u64.wrap n).tmod (IntKind.u64.wrap (k : Int))) = b ∧ 0 ≤ b ∧ b < k := by
  rw [u64_w, u64_w, Int.tmod_eq_emod_of_nonneg (by omega), show (k : Int) % 18446744073709551616 = (k : Int) by omega]
  have h3 := Int.emod_nonneg (n % 18446744073709551616) (show (k : Int) ≠ 0 by omega)
  have h4 := Int.emod_lt_of_pos (n % 18446744073709551616) (show (0 : Int) < k by omega)
  generalize n % 18446744073709551616 % (k : Int) = z at *
  refine ⟨z, IntWalk.wrap64_in _ (by omega), h3, h4⟩
/-- A write into a block that is there, of 128 bytes: it is in the queue then, or nothing has turned. -/
theorem write_any {W : World} {base D m : Nat} {S : Nat → Prop} {bl : List (List Int)} {q : List S49} {mo : Obj} {last : Int} (h : IsDk W base D m S bl q mo last) (b : Int) (A : Option Addr) (c : Nat) (x : List Int) (hb : 0 ≤ b ∧ b < bl.length) (hx128 : x.length = 128) (hc : 128 ≤ c) (hC : ∀ W', Kept S W W' → Kd.C (Kd.int .u8) W' A x.length x) (hlast : last + 1 < 1000000000000000000) :
    Calls Try.prog 22 #[.pointer (some ⟨D, 0, none⟩), .int .i64 b, .slice A 128 c] W fun e W' => ∃ r0 r1 S' q' last', e = .returned (.tuple #[.int .i64 r0, .int .i64 r1]) ∧ IsDk W' base D m S' bl q' mo last' ∧ Kept S W W' ∧ ((q' = q ∧ last' = last) ∨ (q' = q ++ [⟨last + 1, b, x⟩] ∧ last' = last + 1)) ∧ 0 < q'.length := by
  by_cases he : wrE bl q b 128 = 0
  · refine (write_full h b A c x hx128 hc hC he hlast).mono ?_
    rintro e W' ⟨rfl, hI, hK⟩
    exact ⟨_, _, _, _, _, rfl, hI, hK, .inr ⟨rfl, rfl⟩, by simp⟩
  · refine (write_no h b A 128 c he).mono ?_
    rintro e W' ⟨rfl, hB⟩
    refine ⟨_, _, _, _, _, rfl, h.below hB, Kept.of_below hB, .inl ⟨rfl, rfl⟩, ?_⟩
    cases q with
    | nil =>
      exfalso
      apply he
      unfold wrE
      rw [if_neg (fun hh => hh hb), if_neg (by decide), if_neg (by show ¬ 0 ≤ (-1 : Int); decide), if_neg (by decide)]
    | cons a r => simp
attribute [local go_sem] max2_int min2_int max_two min_two max_three min_three max_four min_four
end Go.Proofs.Ytlkijnnoalfblaa.Dk

