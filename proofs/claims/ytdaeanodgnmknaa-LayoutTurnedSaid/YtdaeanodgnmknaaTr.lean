/- LayoutTurned's turn, operation by operation. -/
import Derived.Test.YtdaeanodgnmknaaTq
namespace Go.Proofs.Ytdaeanodgnmknaa.Ti
open Go.RowKit Go.Proofs.Ytdaeanodgnmknaa.Rd Go.Proofs.Ytdaeanodgnmknaa.XLayoutTurned Go.Proofs.YtdaeanodgnmknaaW.PrintWords Go.Proofs.YtdaeanodgnmknaaW.PrintLast Go.Proofs.YtdaeanodgnmknaaW.PrintMore
set_option linter.unusedVariables false
set_option linter.unusedSimpArgs false
theorem u64_wrap (x : Int) : IntKind.u64.wrap x = x % 18446744073709551616 := by simp [IntKind.wrap, IntKind.bits, IntKind.signed]
theorem u8_wrap (x : Int) : IntKind.u8.wrap x = x % 256 := by simp [IntKind.wrap, IntKind.bits, IntKind.signed]
theorem cv_u (k : Int) (W : World) : (Go.convert 3 64 (.int .i64 k)).run Try.prog W = .ok (.int .u64 (k % 18446744073709551616)) W := by
  rw [run_convert_int (P := Try.prog) W 3 64 .i64 k (by kernel_rfl) (by kernel_rfl), show Try.prog.intKind 64 = .u64 by kernel_rfl, u64_wrap]
theorem cv_n {n : Nat} (hn : n ≤ 1000) (W : World) : (Go.convert 3 64 (.int .i64 (n : Int))).run Try.prog W = .ok (.int .u64 (n : Int)) W := by
  rw [cv_u, Int.emod_eq_of_lt (by omega) (by omega)]
theorem cv_i {n : Nat} (hn : n ≤ 1000) (W : World) : (Go.convert 64 3 (.int .u64 (n : Int))).run Try.prog W = .ok (.int .i64 (n : Int)) W := by
  rw [run_convert_int (P := Try.prog) W 64 3 .u64 (n : Int) (by kernel_rfl) (by kernel_rfl), show Try.prog.intKind 3 = .i64 by kernel_rfl]
  rw [show IntKind.i64.wrap (n : Int) = (n : Int) by rw [IntKind.wrap_i64]; omega]
theorem cv_b {d : Int} (h0 : 0 ≤ d) (h1 : d ≤ 255) (W : World) : (Go.convert 64 5 (.int .u64 d)).run Try.prog W = .ok (.int .u8 d) W := by
  rw [run_convert_int (P := Try.prog) W 64 5 .u64 d (by kernel_rfl) (by kernel_rfl), show Try.prog.intKind 5 = .u8 by kernel_rfl, u8_wrap, Int.emod_eq_of_lt h0 (by omega)]
theorem rem_u {x y : Int} (h0 : 0 ≤ x) (h1 : x < 18446744073709551616) (hy : 0 < y) (W : World) : (Go.binOp .rem 64 (.int .u64 x) (.int .u64 y)).run Try.prog W = .ok (.int .u64 (x % y)) W := by
  have hu : Try.prog.underlying 64 = some (.int .u64) := by kernel_rfl
  have hy' : ¬ y = 0 := by omega
  have hm := Int.emod_nonneg x hy'
  have hl := Int.emod_lt_of_pos x hy
  have hm2 : x % y ≤ x := by
    have g1 := Int.mul_ediv_add_emod x y
    have g2 := Int.mul_nonneg (show 0 ≤ y by omega) (Int.ediv_nonneg h0 (show 0 ≤ y by omega))
    omega
  have : IntKind.u64.wrap (Int.tmod x y) = x % y := by
    rw [Int.tmod_eq_emod_of_nonneg h0, u64_wrap, Int.emod_eq_of_lt hm (by omega)]
  go_simp
  exact Int.tmod_eq_emod_of_nonneg h0
theorem add_u {z : Int} (h0 : 0 ≤ z) (h1 : z ≤ 300) (W : World) : (Go.binOp .add 64 (.int .u64 1) (.int .u64 z)).run Try.prog W = .ok (.int .u64 (1 + z)) W := by
  have hu : Try.prog.underlying 64 = some (.int .u64) := by kernel_rfl
  have : IntKind.u64.wrap (1 + z) = 1 + z := by rw [u64_wrap, Int.emod_eq_of_lt (by omega) (by omega)]
  go_simp
theorem xor_b (x y : Int) (W : World) : (Go.binOp .xor 5 (.int .u8 x) (.int .u8 y)).run Try.prog W = .ok (.int .u8 (Go.bits .xor .u8 x y)) W := by
  have hu : Try.prog.underlying 5 = some (.int .u8) := by kernel_rfl
  first | (go_simp; done) | (go_simp; rfl) | kernel_rfl
theorem cv_yield {P : Program} {oi : Oper} {a : Act} {W : World} {t t' : TypeId} {x : Operand} {v1 v : Value} (ho : oi.op = .convert t t' x) (hx : a.eval x = v1) (h : (Go.convert t t' v1).run P W = .ok v W) : (execOp a.eval oi).run P W = .ok (.value v) W := by
  unfold execOp
  simp only [ho, hx, Sem.run_bind, Sem.run_pure, Result.andThen_ok, h]
/-- Bytes of a row of the call's own, one of them turned. -/
theorem turn_C {W : World} {g cap : Nat} {cur : Array Value} {q : List Int} (h : W.heap[g]? = some (.cells cur 5 (0, 0))) (hc : q.length ≤ cap) (hm : cap ≤ maxLen) (hs : cur.size = cap) (ht : cur.toList.take q.length = q.map (Value.int .u8)) (i : Nat) (v : Int) (hi : i < q.length) :
    Kd.C (Kd.int .u8) (W.setCell ⟨g, i, none⟩ (.int .u8 v)) (some ⟨g, 0, none⟩) (q.set i v).length (q.set i v) := by
  have hb := blk_set h i (.int .u8 v)
  refine Gw.arr_C hb 0 (q.set i v) (by rw [List.length_set]; omega) (fun j hj => ?_)
  rw [List.length_set] at hj
  rw [Nat.zero_add]
  have hcur : cur[j]? = some (.int .u8 (q.getD j 0)) := by
    have h1 : (cur.toList.take q.length)[j]? = some (.int .u8 (q.getD j 0)) := by
      rw [ht, List.getElem?_map, List.getElem?_eq_getElem hj]
      simp [List.getD_eq_getElem?_getD, hj]
    rw [List.getElem?_take_of_lt hj] at h1
    simpa using h1
  have hjs : j < cur.size := by omega
  by_cases e : i = j
  · subst e
    rw [Array.getElem?_setIfInBounds_self_of_lt hjs]
    simp [List.getD_eq_getElem?_getD, hj]
  · rw [Array.getElem?_setIfInBounds_ne e, hcur]
    simp [List.getD_eq_getElem?_getD, List.getElem?_set_ne e]
theorem row_cell {W : World} {g : Nat} {cur : Array Value} {q : List Int} (h : W.heap[g]? = some (.cells cur 5 (0, 0))) (ht : cur.toList.take q.length = q.map (Value.int .u8)) (i : Nat) (hi : i < q.length) : W.cell? ⟨g, i, none⟩ = some (.int .u8 (rd q (i : Nat))) := by
  rw [blk_cell h i]
  have h1 : (cur.toList.take q.length)[i]? = some (.int .u8 (rd q (i : Nat))) := by
    rw [ht, List.getElem?_map, List.getElem?_eq_getElem hi, rd_get hi]
    rfl
  rw [List.getElem?_take_of_lt hi] at h1
  simpa using h1
end Go.Proofs.Ytdaeanodgnmknaa.Ti
