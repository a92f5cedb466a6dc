/- Written by a program of this session. slices.Chunk over a row of bytes: the iterator's contract. -/
import Derived.Test.YtalmfdlnmhhbbaaRg
import Derived.Test.YtalmfdlnmhhbbaaProg
namespace Go.Proofs.Ytalmfdlnmhhbbaa.Ck
open Go Go.RowKit Go.Shelf Go.Proofs Go.Proofs.Ytalmfdlnmhhbbaa.Rf
attribute [local go_sem] Oper.semAt_some
set_option linter.unusedVariables false
set_option linter.unusedSimpArgs false

set_option maxRecDepth 100000 in
set_option maxHeartbeats 2000000 in
theorem chunk_in (A0 : Option Addr) (len c0 : Nat) (nn : Int) (h1 : 1 ≤ nn) (w : World) (n : Nat) :
    CallsIn Fence.wide n Try.prog 12 #[.slice A0 len c0, .int .i64 nn] w fun e w' =>
      e = .returned (.func (.func 16) #[] #[.pointer (some ⟨w.heap.size, 0, none⟩), .pointer (some ⟨w.heap.size + 1, 0, none⟩)]) ∧
      w' = (w.alloc (.cells #[.slice A0 len c0] 22)).alloc (.cells #[.int .i64 nn] 3) := by
  have t1 : decide (nn < 1) = false := decide_eq_false (by omega)
  refine callsIn_of_wp Try.func12 rfl trivial ?_ rfl
  simp only [Try.ntmps12, List.size_toArray, List.length_cons, List.length_nil, Nat.reduceAdd, Nat.reduceSub, Array.replicate_succ, Array.replicate_zero, List.push_toArray, List.append_toArray, List.nil_append, List.cons_append]
  gi_wp2
  go_ret
  exact ⟨rfl, rfl⟩

/-- The j-th piece of `len` bytes from `ad` on, of `m` bytes each. -/
def piece (ad : Addr) (len m j : Nat) : Value := .slice (some (ad.add (j * m))) (min m (len - j * m)) (min m (len - j * m))

theorem cell_of_heap {W : World} {b : Nat} {v : Value} {T : TypeId} (h : W.heap[b]? = some (.cells #[v] T (0, 0))) : W.cell? ⟨b, 0, none⟩ = some v := by simp [World.cell?, h]

theorem grownBy_drewN' (W : World) (q : Nat) : W.grownBy (W.drewN q) none := ⟨rfl, rfl, rfl, Nat.le_refl _, fun _ _ _ => rfl⟩
set_option maxRecDepth 100000 in
set_option maxHeartbeats 2000000 in
theorem chunk_stops (w : World) (A0 : Option Addr) (len c0 m cnt : Nat) (hm : 1 ≤ m) (hmb : m ≤ 1000000000000) (hlb : len ≤ 1000000000000000) (hc0 : len ≤ c0) (hc1 : cnt * m < len + m) (hc2 : len ≤ cnt * m) (ad : Addr) (hA : 0 < len → A0 = some ad)
    (Bs Bn : Nat) (hBs : Bs < w.heap.size) (hcs : w.heap[Bs]? = some (.cells #[.slice A0 len c0] 22 (0, 0)))
    (hBn : Bn < w.heap.size) (hcn : w.heap[Bn]? = some (.cells #[.int .i64 m] 3 (0, 0)))
    (K : Nat → Prop) (hKn : K Bn) (hKs : K Bs) (n : Nat) :
    Stops Fence.wide n Try.prog 16 #[.pointer (some ⟨Bs, 0, none⟩), .pointer (some ⟨Bn, 0, none⟩)]
      (fun j : Nat => #[piece ad len m j]) K (fun _ => False) (fun pre j => pre = List.range j ∧ j < cnt) (fun ys => ys = List.range cnt) (fun ys => ∃ k, 1 ≤ k ∧ k ≤ cnt ∧ ys = List.range k) (cnt + 1) 0 w := by
  intro l J Jx W hS hW hJ hJx hY h0
  refine callsIn_of_wp Try.func16 rfl trivial ?_ rfl
  simp only [Try.ntmps16, List.size_toArray, List.length_cons, List.length_nil, Nat.reduceAdd, Nat.reduceSub, Array.replicate_succ, Array.replicate_zero, List.push_toArray, List.append_toArray, List.nil_append, List.cons_append]
  gi_wp2
  gi_loopw [4] (fun v4 wr => ∃ j : Nat, v4 = .int .i64 ((j * m : Nat) : Int) ∧ j ≤ cnt ∧ J (List.range j) wr ∧ W.heap.size ≤ wr.heap.size ∧ wr.heap[Bn]? = some (.cells #[.int .i64 m] 3 (0, 0)) ∧ wr.heap[Bs]? = some (.cells #[.slice A0 len c0] 22 (0, 0)))
    (fun v4 _ => cnt * m + m - (intOf v4).toNat)
  case atStart =>
    exact ⟨0, by simp, Nat.zero_le _, h0, Nat.le_refl _, (hW.block _ hBn).trans hcn, (hW.block _ hBs).trans hcs⟩
  case round =>
    obtain ⟨j, rfl, hj, hJj, hsz, hn, hs⟩ := hrel
    have cN : wr.cell? ⟨Bn, 0, none⟩ = some (.int .i64 m) := cell_of_heap hn
    have cS : wr.cell? ⟨Bs, 0, none⟩ = some (.slice A0 len c0) := cell_of_heap hs
    by_cases hlt : j * m < len
    · obtain rfl := hA (by omega)
      have hjc : j < cnt := by
        apply Decidable.byContradiction; intro hh
        have : cnt * m ≤ j * m := Nat.mul_le_mul_right m (by omega)
        omega
      have hj1 : (j + 1) * m = j * m + m := by rw [Nat.add_mul, Nat.one_mul]
      generalize hi : j * m = i at *
      have t1 : decide ((i : Int) < (len : Int)) = true := decide_eq_true (by omega)
      gi_wp2
      refine wpIn_wide.2 ?_
      go_quiet (fail)
      have hg := grownBy_drewN' wr nq
      obtain ⟨fn, tmps, assign, body, hy, hR⟩ := hY (List.range j) j (wr.drewN nq) ⟨rfl, hjc⟩ (hJ _ _ _ _ hJj hsz hg (fun r e => by cases e)) (by simp; omega) (Nat.le_trans hsz hg.size)
      dsimp only [piece] at hy
      rw [hi] at hy
      have e1 : (if len - i < m then ((len - i : Nat) : Int) else (m : Int)) = ((min m (len - i) : Nat) : Int) := by split <;> omega
      simp only [e1]
      have he1 : min m (len - i) ≤ len - i := by omega
      have he2 : 1 ≤ min m (len - i) := by omega
      generalize hE : min m (len - i) = E at *
      have cS1 : (wr.drewN nq).cell? ⟨Bs, 0, none⟩ = some (.slice (some ad) len c0) := cS
      have e2 : IntKind.i64.wrap ((i : Int) + (E : Int)) = ((i + E : Nat) : Int) := by rw [IntWalk.i64_left]; exact (IntWalk.wrap64_in _ (by omega)).trans (by omega)
      gi_wp2
      refine ⟨(fun h => by simp [Fence.wide] at h), hR.mono ?_⟩
      rintro e W3 (⟨rfl, hJ3, hk3⟩ | ⟨rfl, hJ3⟩)
      · have cN3 : W3.cell? ⟨Bn, 0, none⟩ = some (.int .i64 m) := cell_of_heap ((hk3.2 _ hKn).trans hn)
        have e3 : wrap64 ((i : Int) + (m : Int)) = ((i + m : Nat) : Int) := (IntWalk.wrap64_in _ (by omega)).trans (by omega)
        clear hc1 hc2 hlt he1 he2 hE e2 e1
        gi_wp2
        have hmm : i + m ≤ cnt * m := by
          have := Nat.mul_le_mul_right m (show j + 1 ≤ cnt from hjc)
          rwa [hj1] at this
        refine ⟨⟨j + 1, ?_, hjc, ?_, ?_, (hk3.2 _ hKn).trans hn, (hk3.2 _ hKs).trans hs⟩, ?_⟩
        · rw [hj1, e3]
        · rw [List.range_succ]; exact hJ3
        · exact Nat.le_trans hsz hk3.size
        · rw [e3]
          clear e3
          show cnt * m + m - ((i + m : Nat) : Int).toNat < cnt * m + m - ((i : Nat) : Int).toNat
          rw [Int.toNat_natCast, Int.toNat_natCast]
          omega
      · gi_wp2
        refine bodyPost_ret (results_none rfl _ _ _) rfl ?_
        exact ⟨⟨_, rfl⟩, .inr ⟨_, ⟨j + 1, by omega, hjc, rfl⟩, by rw [List.range_succ]; exact hJ3⟩⟩
    · have t1 : decide (((j * m : Nat) : Int) < (len : Int)) = false := decide_eq_false (by omega)
      have hjc : j = cnt := by
        apply Decidable.byContradiction; intro hh
        have := Nat.mul_le_mul_right m (show j + 1 ≤ cnt by omega)
        rw [Nat.add_mul] at this
        omega
      subst hjc
      gi_wp2
      go_end0
      exact ⟨⟨_, rfl⟩, .inl ⟨_, rfl, hJj⟩⟩
end Go.Proofs.Ytalmfdlnmhhbbaa.Ck
