/- Structs with arrays: whole blocks read and written, rows appended to a row that came in full and marked, a group's header as cells. -/
import Derived.Test.YtdaeanodgnmknaaRw
import Derived.Deep.MidRow
import Derived.Laws.CopyOwn
import Derived.Laws.Cover3
import Derived.ChangeKeysEq
import Derived.Test.YtdaeanodgnmknaaWEqStruct
namespace Go.Proofs.Ytdaeanodgnmknaa.Gw
open Go.RowKit Go.Proofs.Ytdaeanodgnmknaa.Rd Go.Proofs.YtdaeanodgnmknaaW.PrintWords Go.Proofs.YtdaeanodgnmknaaW.PrintLast Go.Proofs.YtdaeanodgnmknaaW.PrintMore
set_option linter.unusedVariables false
set_option linter.unusedSimpArgs false

/-! ### bytes in the midst of a block -/
theorem arr_C {W : World} {g t : Nat} {cs : Array Value} (h : W.heap[g]? = some (.cells cs t (0, 0))) (o : Nat) (xs : List Int) (hm : xs.length ≤ maxLen) (hx : ∀ j, j < xs.length → cs[o + j]? = some (.int .u8 (xs.getD j 0))) : Kd.C (Kd.int .u8) W (some ⟨g, o, none⟩) xs.length xs :=
  Kd.C_of_reads (d := (0 : Int)) (enc := Value.int .u8) (h1 := fun _ => rfl) ⟨rfl, by simpa [maxLen] using hm, fun _ => ⟨_, rfl, fun j hj => by
    rw [Addr.add_mid, blk_cell h (o + j)]
    exact hx j hj⟩⟩
section
variable {P : Program} {ops : Array Oper} {rest : List Oper} {op : Oper} {a : Act} {Q : Exit → Act → World → Prop} {W : World}
/-- A whole block is written. -/
theorem store_event (hgd : op.guard = none) (ty : TypeId) (x y : Operand) (ho : op.op = .store ty x y) (g : Nat) (cs vs : Array Value) (t : TypeId) (hx : a.eval x = .pointer (some ⟨g, 0, none⟩)) (hy : a.eval y = .agg vs)
    (hb : W.heap[g]? = some (.cells cs t (0, 0))) (hsz : cs.size = vs.size) (hi : (P.info? ty).map (·.size) = some vs.size) (h1 : vs.all (·.oneCell') = true)
    (h : ∀ w1, w1.heap[g]? = some (.cells vs t (0, 0)) → (∀ b, b ≠ g → w1.heap[b]? = W.heap[b]?) → (∀ B w0, B ≤ g → Below B w0 W → Below B w0 w1) → wpList P ops Q rest (a.put op.dst undef) w1) : wpList P ops Q (op :: rest) a W :=
  wpList_store_row hgd ty x y ho g vs hx hy t cs hb hi hsz h1 (h _ (setRow_heap W g cs vs t (0, 0) hb) (fun b hne => setRow_other W g b vs hne) (fun B w0 hB hbw => below_setRow hbw hB vs))
/-- A whole block is read. -/
theorem load_event (hgd : op.guard = none) (ty : TypeId) (x : Operand) (ho : op.op = .load ty x) (g : Nat) (cs : Array Value) (t : TypeId) (d : TypeDesc) (hx : a.eval x = .pointer (some ⟨g, 0, none⟩))
    (hb : W.heap[g]? = some (.cells cs t (0, 0))) (hu : P.underlying ty = some d) (hd : (match d with | .struct _ | .array _ _ => true | _ => false) = true) (hi : (P.info? ty).map (·.size) = some cs.size)
    (h : wpList P ops Q rest (a.put op.dst (.agg cs)) W) : wpList P ops Q (op :: rest) a W := by
  refine wpList_plain hgd fun K hK => ?_
  unfold Oper.wp execOp
  simp only [ho, hx, Instr.loadAt, Instr.sureAddr, Sem.run_bind, Sem.run_pure, Result.andThen_ok, run_loadVar_row W g t ty cs (0, 0) d hb hu hd hi]
  exact hK _ _ h
/-- An array is read, wherever its cells lie. -/
theorem loadrow_run (W : World) (ad : Addr) (ty : TypeId) (cs : List Value) {d : TypeDesc} (hc : ∀ j v, cs[j]? = some v → W.cell? (ad.add j) = some v) (hu : P.underlying ty = some d) (hd : d.isRow = true) (hi : (P.info? ty).map (·.size) = some cs.length) :
    (Instr.loadAt ty (.pointer (some ad))).run P W = .ok (.agg cs.toArray) W := by
  have hl : (loadCells ad cs.length).run P W = .ok cs.toArray W := run_loadCells_list (P := P) W ad cs hc
  have hrun : (loadVar ty ad).run P W = .ok (.agg cs.toArray) W := by
    cases hq : P.info? ty with
    | none => simp [hq] at hi
    | some i =>
      have hs : i.size = cs.length := by simpa [hq] using hi
      have hagg : (isAgg ty).run P W = .ok true W := by
        unfold isAgg
        rw [Sem.run_bind, run_underlying hu W]
        cases d <;> simp_all
      simp [loadVar, Sem.run_bind, hagg, sizeOf, typeInfo, hq, hs, hl]
  simp only [Instr.loadAt, Instr.sureAddr, Sem.run_bind, Sem.run_pure, Result.andThen_ok, hrun]
/-- A row behind one that came in full and marked. -/
theorem came_append_row {w0 : World} {e : TypeId} (base : Nat) (ok : Nat → Prop) (hgd : op.guard = none) (s x : Operand) (t : TypeId) (bytes : Nat)
    (ho : op.op = .call { callee := .builtin .append, args := #[s, x], argTypes := #[t, t] })
    (ht : P.underlying t = some (.slice e)) (hinfo : (P.info? e).map (fun i => (i.zero, i.size, i.bytes)) = some (some (.int .u8 0), 1, bytes)) (hb0 : 0 < bytes)
    (v : Value) (xs ys : List Int) (A : Option Addr) (m c : Nat) (hs : a.eval s = v) (hx : a.eval x = .slice A m c) (hm : 0 < m) (HO : Rw.Came e W base ok v xs) (HR : Kd.C (Kd.int .u8) W A m ys) (HB : Below base w0 W) (hbase : base ≤ W.heap.size) (hl : (xs.length + m) * bytes ≤ 140737488355328)
    (h : ∀ v1 w1, Kd.R (Kd.int .u8) e w1 base (fun _ => True) v1 (xs ++ ys) → Below W.heap.size W w1 → Below base w0 w1 → wpList P ops Q rest (a.put op.dst v1) w1) : wpList P ops Q (op :: rest) a W := by
  obtain ⟨g, h1, h2, h3, h4, h5, h6⟩ := HO
  obtain ⟨i, hi, hi2⟩ := Option.map_eq_some_iff.1 hinfo
  simp only [Prod.mk.injEq] at hi2
  obtain ⟨r1, r2, r3⟩ := Kd.reads_of_C (d := (0 : Int)) HR
  obtain ⟨ad, rfl, hcell⟩ := r3 hm
  have hle : xs.length + m ≤ 140737488355328 := Nat.le_trans (Nat.le_mul_of_pos_right _ hb0) hl
  refine wpList_append_grows W hgd s x t ho e i (.int .u8 0) 1 bytes ht hi hi2.1 hi2.2.1 hi2.2.2 rfl (by omega) (some ⟨g, 0, none⟩) xs.length xs.length (xs.map (Value.int .u8)) (hs.trans h1) (fun e => by cases e) (by simp) ?_ ad m c (ys.map (Value.int .u8)) hx (by simp [r1]) ?_ ?_ (by omega) (by simp only [maxLen]; omega) hl ?_
  · intro b hb j u hj
    obtain rfl := Option.some.inj hb
    rw [add_plain, cell_of_row _ g j _ e _ h6]
    simpa using hj
  · intro j u hj
    rw [List.getElem?_map, Option.map_eq_some_iff] at hj
    obtain ⟨y, hy, rfl⟩ := hj
    have hjl : j < ys.length := (List.getElem?_eq_some_iff.1 hy).1
    rw [hcell j (by omega), List.getD_eq_getElem?_getD, hy]
    rfl
  · intro u hu
    obtain ⟨y, _, rfl⟩ := List.mem_map.1 hu
    rfl
  · intro v' w' hown hg
    have hWW : Below W.heap.size W w' := ⟨hg.os, hg.tape, hg.output, hg.size, fun i hi => hg.block i hi (by simp)⟩
    refine h v' w' (Kd.R_of_own ?_ (fun _ _ => trivial)) hWW (below_then HB hbase hWW)
    have hl2 : (xs ++ ys).length = xs.length + m := by simp [r1]
    have hxs : encs (Value.int .u8) (xs ++ ys) = xs.map (Value.int .u8) ++ ys.map (Value.int .u8) := by simp [encs]
    rw [hl2, hxs]
    exact own_less hown hbase
end

section
variable {P : Program} {oi : Oper} {a : Act} {W : World}
theorem load_yield {ty : TypeId} {x : Operand} {ad : Addr} {v : Value} (ho : oi.op = .load ty x) (hx : a.eval x = .pointer (some ad)) (h : (Instr.loadAt ty (.pointer (some ad))).run P W = .ok v W) : (execOp a.eval oi).run P W = .ok (.value v) W := by
  unfold execOp
  simp only [ho, hx, Sem.run_bind, Sem.run_pure, Result.andThen_ok, h]
theorem build_yield {t : TypeId} {parts : Array (Nat × Operand)} {ps : Array (Nat × Value)} {v : Value} (ho : oi.op = .build t parts) (h : (Instr.build t ps).run P W = .ok v W) (hp : (parts.map fun (i, x) => (i, a.eval x)) = ps) : (execOp a.eval oi).run P W = .ok (.value v) W := by
  unfold execOp
  simp only [ho, hp, Sem.run_bind, Sem.run_pure, Result.andThen_ok, h]
end
/-! ### the same at a step of a region that draws its order -/
section
variable {P : Program} {ops : Array Oper} {oi : Oper} {a : Act} {Q : Exit → Act → World → Prop} {W : World} {K : Act → World → Prop}
theorem box_step {N : Option Tmp} {cs : Array Value} {t : TypeId} (hw : Region.wanted oi (yielded ops a.tmps) = true) (hN : oi.dst = N)
    (hrun : (execOp a.eval oi).run P W = .ok (.value (.pointer (some ⟨W.heap.size, 0, none⟩))) (W.alloc (.cells cs t (0, 0))))
    (h : ∀ g, g = W.heap.size → ∀ w1, w1.heap[g]? = some (.cells cs t (0, 0)) → Below W.heap.size W w1 → K (a.put N (.pointer (some ⟨g, 0, none⟩))) w1) : if Region.wanted oi (yielded ops a.tmps) = true then Oper.wp P oi a W K Q else K (a.put N undef) W :=
  value_ hw hN hrun (h _ rfl _ (blk_new W _) (below_alloc (Below.refl _ _) _))
theorem store_step (hw : Region.wanted oi (yielded ops a.tmps) = true) (hN : oi.dst = none) (ty : TypeId) (x y : Operand) (ho : oi.op = .store ty x y) (g : Nat) (cs vs : Array Value) (t : TypeId) (hx : a.eval x = .pointer (some ⟨g, 0, none⟩)) (hy : a.eval y = .agg vs)
    (hb : W.heap[g]? = some (.cells cs t (0, 0))) (hsz : cs.size = vs.size) (hi : (P.info? ty).map (·.size) = some vs.size) (h1 : vs.all (·.oneCell') = true)
    (h : ∀ w1, w1.heap[g]? = some (.cells vs t (0, 0)) → (∀ b, b ≠ g → w1.heap[b]? = W.heap[b]?) → (∀ B w0, B ≤ g → Below B w0 W → Below B w0 w1) → K a w1) : if Region.wanted oi (yielded ops a.tmps) = true then Oper.wp P oi a W K Q else K (a.put none undef) W := by
  rw [if_pos hw]
  refine wp_store_row ty x y ho g vs hx hy t cs hb hi hsz h1 ?_
  rw [hN]
  exact h _ (setRow_heap W g cs vs t (0, 0) hb) (fun b hne => setRow_other W g b vs hne) (fun B w0 hB hbw => below_setRow hbw hB vs)
end

/-! ### a group's header -/
def grp (n : Int) (is bs : List Int) : Array Value := (Value.int .i64 n :: (is.map (Value.int .u8) ++ bs.map (Value.int .u8))).toArray
theorem grp_size (n : Int) (is bs : List Int) : (grp n is bs).size = 1 + is.length + bs.length := by simp [grp]; omega
theorem grp_one (n : Int) (is bs : List Int) : (grp n is bs).all (·.oneCell') = true := by
  rw [Array.all_eq_true_iff_forall_mem]
  intro x hx
  simp only [grp, List.mem_toArray, List.mem_cons, List.mem_append, List.mem_map] at hx
  rcases hx with rfl | ⟨_, _, rfl⟩ | ⟨_, _, rfl⟩ <;> rfl
theorem grp_info (n : Int) {is bs : List Int} (h1 : is.length = 8) (h2 : bs.length = 32) : (Try.prog.info? 25).map (·.size) = some (grp n is bs).size := by
  rw [grp_size, h1, h2]; kernel_rfl
theorem grp_C1 {W : World} {g t : Nat} {n : Int} {is bs : List Int} (h : W.heap[g]? = some (.cells (grp n is bs) t (0, 0))) (h1 : is.length = 8) : Kd.C (Kd.int .u8) W (some ⟨g, 1, none⟩) is.length is :=
  arr_C h 1 is (by simp only [maxLen]; omega) (fun j hj => by
    simp only [grp, List.getElem?_toArray]
    rw [Nat.add_comm, List.getElem?_cons_succ, List.getElem?_append_left (by simpa using hj)]
    simp [List.getD_eq_getElem?_getD, hj])
theorem grp_C2 {W : World} {g t : Nat} {n : Int} {is bs : List Int} (h : W.heap[g]? = some (.cells (grp n is bs) t (0, 0))) (h1 : is.length = 8) (h2 : bs.length = 32) : Kd.C (Kd.int .u8) W (some ⟨g, 9, none⟩) bs.length bs :=
  arr_C h 9 bs (by simp only [maxLen]; omega) (fun j hj => by
    simp only [grp, List.getElem?_toArray]
    rw [show 9 + j = 8 + j + 1 by omega, List.getElem?_cons_succ, List.getElem?_append_right (by simp [h1])]
    simp [List.getD_eq_getElem?_getD, hj, h1])
theorem len8 {l : List Int} (h : l.length = 8) : ∃ a b c d e f g i, l = [a, b, c, d, e, f, g, i] := by
  match l, h with
  | [a, b, c, d, e, f, g, i], _ => exact ⟨a, b, c, d, e, f, g, i, rfl⟩
theorem cons_of {n : Nat} {l : List Int} (h : l.length = n + 1) : ∃ a r, l = a :: r ∧ r.length = n := by
  cases l with
  | nil => cases h
  | cons a r => exact ⟨a, r, rfl, by simpa using h⟩
theorem split8 {n : Nat} {l : List Int} (h0 : l.length = n + 8) : ∃ a b c d e f g i r, l = a :: b :: c :: d :: e :: f :: g :: i :: r ∧ r.length = n := by
  obtain ⟨a, r1, rfl, h1⟩ := cons_of (n := n + 7) h0
  obtain ⟨b, r2, rfl, h2⟩ := cons_of (n := n + 6) h1
  obtain ⟨c, r3, rfl, h3⟩ := cons_of (n := n + 5) h2
  obtain ⟨d, r4, rfl, h4⟩ := cons_of (n := n + 4) h3
  obtain ⟨e, r5, rfl, h5⟩ := cons_of (n := n + 3) h4
  obtain ⟨f, r6, rfl, h6⟩ := cons_of (n := n + 2) h5
  obtain ⟨g, r7, rfl, h7⟩ := cons_of (n := n + 1) h6
  obtain ⟨i, r8, rfl, h8⟩ := cons_of (n := n + 0) h7
  exact ⟨a, b, c, d, e, f, g, i, r8, rfl, h8⟩
def arrV (l : List Int) : Array Value := (l.map (Value.int .u8)).toArray
theorem grp_built (n : Int) {is bs : List Int} (h1 : is.length = 8) (h2 : bs.length = 32) : Try.prog.built 25 [(0, .int .i64 n), (1, .agg (arrV is)), (2, .agg (arrV bs))] = some (grp n is bs) := by
  obtain ⟨a0, a1, a2, a3, a4, a5, a6, a7, rfl⟩ := len8 h1
  obtain ⟨b0, b1, b2, b3, b4, b5, b6, b7, r1, rfl, g1⟩ := split8 (n := 24) h2
  obtain ⟨c0, c1, c2, c3, c4, c5, c6, c7, r2, rfl, g2⟩ := split8 (n := 16) g1
  obtain ⟨d0, d1, d2, d3, d4, d5, d6, d7, r3, rfl, g3⟩ := split8 (n := 8) g2
  obtain ⟨e0, e1, e2, e3, e4, e5, e6, e7, rfl⟩ := len8 g3
  kernel_rfl
end Go.Proofs.Ytdaeanodgnmknaa.Gw
