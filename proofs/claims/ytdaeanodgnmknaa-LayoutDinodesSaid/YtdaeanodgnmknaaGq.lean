/- A group's header held against itself. -/
import Derived.Test.YtdaeanodgnmknaaGr
namespace Go.Proofs.Ytdaeanodgnmknaa.Gw
open Go.RowKit Go.Proofs.Ytdaeanodgnmknaa.Rd Go.Proofs.YtdaeanodgnmknaaW.PrintWords Go.Proofs.YtdaeanodgnmknaaW.PrintLast Go.Proofs.YtdaeanodgnmknaaW.PrintMore
set_option linter.unusedVariables false
set_option linter.unusedSimpArgs false
theorem items_refl {P : Program} {W : World} {d e : Nat} {k : IntKind} (he : P.underlying e = some (.int k)) (xs : Array Value) : ∀ (is : List Nat), (∀ i ∈ is, ∃ x, xs[i]? = some (.int k x)) → (Op.eqItems (d + 1) e 1 xs xs is).run P W = .ok true W
  | [], _ => by simp [Op.eqItems]
  | i :: is, h => by
    obtain ⟨x, hx⟩ := h i (by simp)
    have hp : (part e xs (i * 1)).run P W = .ok (.int k x) W := by
      simp [part, isAgg, run_underlying he, hx]
    rw [Op.eqItems]
    simp only [Sem.run_bind, hp, Result.andThen_ok, run_equalIn_int W d e k k x x he, beq_self_eq_true, Bool.not_true, if_false, Bool.false_eq_true]
    exact items_refl he xs is (fun j hj => h j (List.mem_cons_of_mem _ hj))
theorem arr_refl {P : Program} {W : World} {d t e n : Nat} {k : IntKind} {i : TypeInfo} (hu : P.underlying t = some (.array n e)) (he : P.underlying e = some (.int k)) (hi : P.info? e = some i) (hs : P.cellsOf e = 1) (xs : Array Value) (h : ∀ j, j < n → ∃ x, xs[j]? = some (.int k x)) :
    (Op.equalIn (d + 2) t (.agg xs) (.agg xs)).run P W = .ok true W := by
  rw [run_equalIn_array W (d + 1) xs xs hu hi, hs]
  exact items_refl he xs _ (fun j hj => h j (by simpa using hj))
theorem grp_cell (n : Int) {is bs : List Int} (h1 : is.length = 8) (h2 : bs.length = 32) (i : Nat) (h0 : 1 ≤ i) (hi : i < 41) : ∃ x, (grp n is bs)[i]? = some (.int .u8 x) := by
  obtain ⟨j, rfl⟩ : ∃ j, i = j + 1 := ⟨i - 1, by omega⟩
  simp only [grp, List.getElem?_toArray, List.getElem?_cons_succ]
  rw [← List.map_append, List.getElem?_map, List.getElem?_eq_getElem (by rw [List.length_append, h1, h2]; omega)]
  exact ⟨_, rfl⟩
theorem grp_equal (W : World) (n : Int) {is bs : List Int} (h1 : is.length = 8) (h2 : bs.length = 32) : (Op.equalIn 10000 25 (.agg (grp n is bs)) (.agg (grp n is bs))).run Try.prog W = .ok true W := by
  have hsz : (grp n is bs).size = 41 := by rw [grp_size, h1, h2]
  obtain ⟨i0, hi0, _⟩ := info_parts infou8
  have p0 : (part 3 (grp n is bs) 0).run Try.prog W = .ok (.int .i64 n) W := by kernel_rfl
  have p1 : (part 22 (grp n is bs) 1).run Try.prog W = .ok (.agg ((grp n is bs).extract 1 9)) W := by kernel_rfl
  have p2 : (part 23 (grp n is bs) 9).run Try.prog W = .ok (.agg ((grp n is bs).extract 9 41)) W := by kernel_rfl
  refine eqA_of (d := 9999) Try.underlying25 (by kernel_rfl) (r := true) ?_
  refine eqf_cons (r := true) (s := true) (by rfl) p0 p0 ?_ (eqf_cons (r := true) (s := true) (by rfl) p1 p1 ?_ (eqf_last (r := true) (by rfl) p2 p2 ?_))
  · rw [run_equalIn_int W 9998 3 .i64 .i64 n n Try.underlying3, beq_self_eq_true]
  · refine arr_refl (d := 9997) (n := 8) Try.underlying22 Try.underlying5 hi0 (by kernel_rfl) _ (fun j hj => ?_)
    obtain ⟨x, hx⟩ := grp_cell n h1 h2 (1 + j) (by omega) (by omega)
    exact ⟨x, by rw [Array.getElem?_extract, if_pos (by omega)]; exact hx⟩
  · refine arr_refl (d := 9997) (n := 32) Try.underlying23 Try.underlying5 hi0 (by kernel_rfl) _ (fun j hj => ?_)
    obtain ⟨x, hx⟩ := grp_cell n h1 h2 (9 + j) (by omega) (by omega)
    exact ⟨x, by rw [Array.getElem?_extract, if_pos (by omega)]; exact hx⟩
theorem grp_eql (n : Int) {is bs : List Int} (h1 : is.length = 8) (h2 : bs.length = 32) (W : World) : (binOp .eql 25 (.agg (grp n is bs)) (.agg (grp n is bs))).run Try.prog W = .ok (.bool true) W := by
  rw [run_eql_struct, grp_equal W n h1 h2]
  rfl
theorem grp_neq (n : Int) {is bs : List Int} (h1 : is.length = 8) (h2 : bs.length = 32) (W : World) : (binOp .neq 25 (.agg (grp n is bs)) (.agg (grp n is bs))).run Try.prog W = .ok (.bool false) W := by
  rw [run_neq_struct, grp_equal W n h1 h2]
  rfl
theorem eql_yield {P : Program} {oi : Oper} {a : Act} {W : World} {b : BinOp} {t t' : TypeId} {x y : Operand} {v1 v2 v : Value} (ho : oi.op = .binOp b t x y t') (hx : a.eval x = v1) (hy : a.eval y = v2) (hg : (eqGuard b t x y v1 v2).run P W = .ok () W) (h : (Go.binOp b t v1 v2).run P W = .ok v W) : (execOp a.eval oi).run P W = .ok (.value v) W := by
  unfold execOp
  simp only [ho, hx, hy, Sem.run_bind, Sem.run_pure, Result.andThen_ok, hg, h]
end Go.Proofs.Ytdaeanodgnmknaa.Gw
