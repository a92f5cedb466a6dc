/- Written by a program of this session. A set of patches that no call made: what its methods answer. -/
import Derived.RangeFuncNested
import Derived.Shelf.Abstract
import Derived.Shelf.RegionOpen
import Derived.WalkKit
import Derived.OwnWalkIn
import Derived.TacticsInMore
import Derived.LoopNIn
import Derived.LoopIn
import Derived.Maps.AppendAt
import Derived.RangeFuncBox
import Derived.Test.YtijgfcpffjjlfaaXPnx
namespace Go.Proofs.Ytijgfcpffjjlfaa.Nb
open Go Go.RowKit Go.Shelf Go.Proofs Go.Proofs.YtijgfcpffjjlfaaW.PrintWords Go.Proofs.YtijgfcpffjjlfaaW.PrintLast Go.Proofs.YtijgfcpffjjlfaaW.PrintMore
set_option linter.unusedVariables false
set_option linter.unusedSimpArgs false

theorem cell_of {W : World} {b i : Nat} {cs : Array Value} {t : TypeId} {v : Value} (h : W.heap[b]? = some (.cells cs t (0, 0))) (hv : cs[i]? = some v) : W.cell? ⟨b, i, none⟩ = some v := by simp [World.cell?, h, hv]

/-- p is nil, or a struct of noughts. -/
def Nb (W : World) (p : Option Addr) : Prop := p = none ∨ ∃ g, p = some ⟨g, 0, none⟩ ∧ W.heap[g]? = some (.cells #[.int .i64 0, .map none, .map none, .bool false] 55 (0, 0))
theorem Nb.below {W W' : World} {p : Option Addr} (h : Nb W p) (hb : Below W.heap.size W W') : Nb W' p := by
  rcases h with h | ⟨g, h1, h2⟩
  · exact .inl h
  · exact .inr ⟨g, h1, (hb.block g (Array.getElem?_eq_some_iff.1 h2).1).trans h2⟩
theorem Nb.alloc {W : World} {p : Option Addr} (h : Nb W p) (o : Obj) : Nb (W.alloc o) p := h.below ((Below.refl _ W).alloc (Nat.le_refl _) _)

set_option maxRecDepth 100000 in
set_option maxHeartbeats 2000000 in
theorem own_nb (W : World) (p : Option Addr) (h : Nb W p) :
    Calls Try.prog 39 #[.pointer p] W fun e w' => e = .returned (.bool false) ∧ w' = W := by
  refine (callsIn_wide (n := 1)).1 ?_
  refine callsIn_of_wp Try.func39 rfl trivial ?_ rfl
  simp only [Try.ntmps39, List.size_toArray, List.length_cons, List.length_nil, Nat.reduceAdd, Nat.reduceSub, Array.replicate_succ, Array.replicate_zero, List.push_toArray, List.append_toArray, List.nil_append, List.cons_append]
  rcases h with rfl | ⟨g, rfl, hg⟩
  · gi_wp2
    go_ret
    exact ⟨rfl, rfl⟩
  · have c3 : W.cell? ⟨g, 3, none⟩ = some (.bool false) := by simp [World.cell?, hg]
    gi_wp2
    go_ret
    exact ⟨rfl, rfl⟩

set_option maxRecDepth 100000 in
set_option maxHeartbeats 2000000 in
theorem last_nb (W : World) (p : Option Addr) (h : Nb W p) :
    Calls Try.prog 11 #[.pointer p] W fun e w' => e = .returned (.int .i64 0) ∧ w' = W := by
  refine (callsIn_wide (n := 1)).1 ?_
  refine callsIn_of_wp Try.func11 rfl trivial ?_ rfl
  simp only [Try.ntmps11, List.size_toArray, List.length_cons, List.length_nil, Nat.reduceAdd, Nat.reduceSub, Array.replicate_succ, Array.replicate_zero, List.push_toArray, List.append_toArray, List.nil_append, List.cons_append]
  gi_wp2_with (first | (refine ⟨trivial, ?_⟩; gi_at_call 39; refine (callsIn_wide.2 (own_nb _ _ h)).mono ?_; rintro e w' ⟨rfl, hw⟩; rw [hw]; clear hw))
  go_ret
  exact ⟨rfl, rfl⟩

set_option maxRecDepth 100000 in
set_option maxHeartbeats 2000000 in
theorem isdone_nb (W : World) (p : Option Addr) (n : Int) (h : Nb W p) :
    Calls Try.prog 20 #[.pointer p, .int .i64 n] W fun e w' => e = .returned (.bool false) ∧ w' = W := by
  refine (callsIn_wide (n := 1)).1 ?_
  refine callsIn_of_wp Try.func20 rfl trivial ?_ rfl
  simp only [Try.ntmps20, List.size_toArray, List.length_cons, List.length_nil, Nat.reduceAdd, Nat.reduceSub, Array.replicate_succ, Array.replicate_zero, List.push_toArray, List.append_toArray, List.nil_append, List.cons_append]
  gi_wp2_with (first | (refine ⟨trivial, ?_⟩; gi_at_call 39; refine (callsIn_wide.2 (own_nb _ _ h)).mono ?_; rintro e w' ⟨rfl, hw⟩; rw [hw]; clear hw))
  go_ret
  exact ⟨rfl, rfl⟩

set_option maxRecDepth 100000 in
set_option maxHeartbeats 2000000 in
theorem undo_nb (W : World) (p : Option Addr) (n : Int) (h : Nb W p) :
    Calls Try.prog 13 #[.pointer p, .int .i64 n] W fun e w' => e = .returned (.int .i64 2) ∧ w' = W := by
  refine (callsIn_wide (n := 1)).1 ?_
  refine callsIn_of_wp Try.func13 rfl trivial ?_ rfl
  simp only [Try.ntmps13, List.size_toArray, List.length_cons, List.length_nil, Nat.reduceAdd, Nat.reduceSub, Array.replicate_succ, Array.replicate_zero, List.push_toArray, List.append_toArray, List.nil_append, List.cons_append]
  gi_wp2_with (first | (refine ⟨trivial, ?_⟩; gi_at_call 39; refine (callsIn_wide.2 (own_nb _ _ h)).mono ?_; rintro e w' ⟨rfl, hw⟩; rw [hw]; clear hw))
  go_ret
  exact ⟨rfl, rfl⟩

set_option maxRecDepth 100000 in
set_option maxHeartbeats 2000000 in
theorem blocks_nb (W : World) (p : Option Addr) (h : Nb W p) :
    Calls Try.prog 15 #[.pointer p] W fun e w' => e = .returned (.slice none 0 0) ∧ w' = W := by
  refine (callsIn_wide (n := 1)).1 ?_
  refine callsIn_of_wp Try.func15 rfl trivial ?_ rfl
  simp only [Try.ntmps15, List.size_toArray, List.length_cons, List.length_nil, Nat.reduceAdd, Nat.reduceSub, Array.replicate_succ, Array.replicate_zero, List.push_toArray, List.append_toArray, List.nil_append, List.cons_append]
  gi_wp2_with (first | (refine ⟨trivial, ?_⟩; gi_at_call 39; refine (callsIn_wide.2 (own_nb _ _ h)).mono ?_; rintro e w' ⟨rfl, hw⟩; rw [hw]; clear hw))
  go_ret
  exact ⟨rfl, rfl⟩

set_option maxRecDepth 100000 in
set_option maxHeartbeats 2000000 in
theorem closure_nb (W : World) (p : Option Addr) (s : Value) (h : Nb W p) :
    Calls Try.prog 24 #[.pointer p, s] W fun e w' => e = .returned (.slice none 0 0) ∧ w' = W := by
  refine (callsIn_wide (n := 1)).1 ?_
  refine callsIn_of_wp Try.func24 rfl trivial ?_ rfl
  simp only [Try.ntmps24, List.size_toArray, List.length_cons, List.length_nil, Nat.reduceAdd, Nat.reduceSub, Array.replicate_succ, Array.replicate_zero, List.push_toArray, List.append_toArray, List.nil_append, List.cons_append]
  gi_wp2_with (first | (refine ⟨trivial, ?_⟩; gi_at_call 39; refine (callsIn_wide.2 (own_nb _ _ h)).mono ?_; rintro e w' ⟨rfl, hw⟩; rw [hw]; clear hw))
  go_ret
  exact ⟨rfl, rfl⟩

set_option maxRecDepth 100000 in
set_option maxHeartbeats 2000000 in
theorem now_nb (W : World) (p : Option Addr) (b : Int) (s : Value) (h : Nb W p) :
    Calls Try.prog 26 #[.pointer p, .int .i64 b, s] W fun e w' => e = .returned (.tuple #[.slice none 0 0, .int .i64 2]) ∧ w' = W := by
  refine (callsIn_wide (n := 1)).1 ?_
  refine callsIn_of_wp Try.func26 rfl trivial ?_ rfl
  simp only [Try.ntmps26, List.size_toArray, List.length_cons, List.length_nil, Nat.reduceAdd, Nat.reduceSub, Array.replicate_succ, Array.replicate_zero, List.push_toArray, List.append_toArray, List.nil_append, List.cons_append]
  gi_wp2_with (first | (refine ⟨trivial, ?_⟩; gi_at_call 39; refine (callsIn_wide.2 (own_nb _ _ h)).mono ?_; rintro e w' ⟨rfl, hw⟩; rw [hw]; clear hw))
  refine bodyPost_ret (results_tmp2 rfl _ _ _) rfl ?_
  exact ⟨rfl, rfl⟩

set_option maxRecDepth 100000 in
set_option maxHeartbeats 2000000 in
theorem plan_nb (W : World) (p : Option Addr) (b : Int) (s : Value) (h : Nb W p) :
    Calls Try.prog 16 #[.pointer p, .int .i64 b, s] W fun e w' => e = .returned (.tuple #[.slice none 0 0, .slice none 0 0, .int .i64 2]) ∧ w' = W := by
  refine (callsIn_wide (n := 1)).1 ?_
  refine callsIn_of_wp Try.func16 rfl trivial ?_ rfl
  simp only [Try.ntmps16, List.size_toArray, List.length_cons, List.length_nil, Nat.reduceAdd, Nat.reduceSub, Array.replicate_succ, Array.replicate_zero, List.push_toArray, List.append_toArray, List.nil_append, List.cons_append]
  gi_wp2_with (first | (refine ⟨trivial, ?_⟩; gi_at_call 39; refine (callsIn_wide.2 (own_nb _ _ h)).mono ?_; rintro e w' ⟨rfl, hw⟩; rw [hw]; clear hw))
  refine bodyPost_ret (results_tmp3 rfl _ _ _) rfl ?_
  exact ⟨rfl, rfl⟩

set_option maxRecDepth 100000 in
set_option maxHeartbeats 2000000 in
theorem done_nb (W : World) (p : Option Addr) (s : Value) (h : Nb W p) :
    Calls Try.prog 23 #[.pointer p, s] W fun e w' => e = .returned (.int .i64 2) ∧ w' = W.alloc (.cells #[.pointer p] 23) := by
  refine (callsIn_wide (n := 1)).1 ?_
  refine callsIn_of_wp Try.func23 rfl trivial ?_ rfl
  simp only [Try.ntmps23, List.size_toArray, List.length_cons, List.length_nil, Nat.reduceAdd, Nat.reduceSub, Array.replicate_succ, Array.replicate_zero, List.push_toArray, List.append_toArray, List.nil_append, List.cons_append]
  gi_wp2_with (first | (refine ⟨trivial, ?_⟩; gi_at_call 39; refine (callsIn_wide.2 (own_nb _ _ (Nb.alloc h _))).mono ?_; rintro e w' ⟨rfl, hw⟩; rw [hw]; clear hw))
  go_ret
  exact ⟨rfl, rfl⟩

set_option maxRecDepth 100000 in
set_option maxHeartbeats 2000000 in
theorem of_nb (W : World) (p : Option Addr) (b : Int) (h : Nb W p) :
    Calls Try.prog 18 #[.pointer p, .int .i64 b] W fun e w' => e = .returned (.slice none 0 0) ∧ w' = (W.alloc (.cells #[.pointer p] 23)).alloc (.cells #[.int .i64 b] 3) := by
  refine (callsIn_wide (n := 1)).1 ?_
  refine callsIn_of_wp Try.func18 rfl trivial ?_ rfl
  simp only [Try.ntmps18, List.size_toArray, List.length_cons, List.length_nil, Nat.reduceAdd, Nat.reduceSub, Array.replicate_succ, Array.replicate_zero, List.push_toArray, List.append_toArray, List.nil_append, List.cons_append]
  gi_wp2_with (first | (refine ⟨trivial, ?_⟩; gi_at_call 39; refine (callsIn_wide.2 (own_nb _ _ (Nb.alloc (Nb.alloc h _) _))).mono ?_; rintro e w' ⟨rfl, hw⟩; rw [hw]; clear hw))
  go_ret
  exact ⟨rfl, rfl⟩

set_option maxRecDepth 100000 in
set_option maxHeartbeats 2000000 in
theorem add_nb (W : World) (p : Option Addr) (b o : Int) (s t : Value) (h : Nb W p) :
    Calls Try.prog 12 #[.pointer p, .int .i64 b, .int .i64 o, s, t] W fun e w' => e = .returned (.tuple #[.int .i64 0, .int .i64 2]) ∧ w' = W.alloc (.cells #[.pointer p] 23) := by
  refine (callsIn_wide (n := 1)).1 ?_
  refine callsIn_of_wp Try.func12 rfl trivial ?_ rfl
  simp only [Try.ntmps12, List.size_toArray, List.length_cons, List.length_nil, Nat.reduceAdd, Nat.reduceSub, Array.replicate_succ, Array.replicate_zero, List.push_toArray, List.append_toArray, List.nil_append, List.cons_append]
  gi_wp2_with (first | (refine ⟨trivial, ?_⟩; gi_at_call 39; refine (callsIn_wide.2 (own_nb _ _ (Nb.alloc h _))).mono ?_; rintro e w' ⟨rfl, hw⟩; rw [hw]; clear hw))
  refine bodyPost_ret (results_tmp2 rfl _ _ _) rfl ?_
  exact ⟨rfl, rfl⟩

set_option maxRecDepth 100000 in
set_option maxHeartbeats 2000000 in
theorem get_nb (W : World) (p : Option Addr) (b : Int) (h : Nb W p) :
    Calls Try.prog 21 #[.pointer p, .int .i64 b] W fun e w' => e = .returned (.tuple #[.agg #[.int .i64 0, .int .i64 0, .int .i64 0, .slice none 0 0, .slice none 0 0], .int .i64 2]) ∧ w' = W.alloc (.cells #[.int .i64 0, .int .i64 0, .int .i64 0, .slice none 0 0, .slice none 0 0] 44) := by
  refine (callsIn_wide (n := 1)).1 ?_
  refine callsIn_of_wp Try.func21 rfl trivial ?_ rfl
  simp only [Try.ntmps21, List.size_toArray, List.length_cons, List.length_nil, Nat.reduceAdd, Nat.reduceSub, Array.replicate_succ, Array.replicate_zero, List.push_toArray, List.append_toArray, List.nil_append, List.cons_append]
  gi_wp2_with (first | (refine ⟨trivial, ?_⟩; gi_at_call 39; refine (callsIn_wide.2 (own_nb _ _ (Nb.alloc h _))).mono ?_; rintro e w' ⟨rfl, hw⟩; rw [hw]; clear hw))
  have hn := World.alloc_heap_new W (.cells #[.int .i64 0, .int .i64 0, .int .i64 0, .slice none 0 0, .slice none 0 0] 44)
  have e0 : (W.alloc (.cells #[.int .i64 0, .int .i64 0, .int .i64 0, .slice none 0 0, .slice none 0 0] 44)).cell? ⟨W.heap.size, 0, none⟩ = some (.int .i64 0) := cell_of hn rfl
  have e1 : (W.alloc (.cells #[.int .i64 0, .int .i64 0, .int .i64 0, .slice none 0 0, .slice none 0 0] 44)).cell? ⟨W.heap.size, 1, none⟩ = some (.int .i64 0) := cell_of hn rfl
  have e2 : (W.alloc (.cells #[.int .i64 0, .int .i64 0, .int .i64 0, .slice none 0 0, .slice none 0 0] 44)).cell? ⟨W.heap.size, 2, none⟩ = some (.int .i64 0) := cell_of hn rfl
  have e3 : (W.alloc (.cells #[.int .i64 0, .int .i64 0, .int .i64 0, .slice none 0 0, .slice none 0 0] 44)).cell? ⟨W.heap.size, 3, none⟩ = some (.slice none 0 0) := cell_of hn rfl
  have e4 : (W.alloc (.cells #[.int .i64 0, .int .i64 0, .int .i64 0, .slice none 0 0, .slice none 0 0] 44)).cell? ⟨W.heap.size, 4, none⟩ = some (.slice none 0 0) := cell_of hn rfl
  refine bodyPost_ret (v := .tuple #[.agg #[.int .i64 0, .int .i64 0, .int .i64 0, .slice none 0 0, .slice none 0 0], .int .i64 2]) ?_ rfl ?_
  · simp [results, Try.f21, go_sem, e0, e1, e2, e3, e4]
  exact ⟨rfl, rfl⟩

end Go.Proofs.Ytijgfcpffjjlfaa.Nb
