/- Written by a program of this session. A disk that no call made: what its methods answer. -/
import Derived.RangeFuncNested
import Derived.Shelf.Abstract
import Derived.Shelf.RegionOpen
import Derived.WalkKit
import Derived.OwnWalkIn
import Derived.TacticsInMore
import Derived.LoopNIn
import Derived.LoopIn
import Derived.Test.YtlkijnnoalfblaaGreatProg
import Derived.Test.YtlkijnnoalfblaaGreatWMore
namespace Go.Proofs.YtlkijnnoalfblaaGreat.Nb
open Go Go.RowKit Go.Shelf Go.Proofs Go.Proofs.YtlkijnnoalfblaaGreatW.PrintWords Go.Proofs.YtlkijnnoalfblaaGreatW.PrintLast Go.Proofs.YtlkijnnoalfblaaGreatW.PrintMore
set_option linter.unusedVariables false
set_option linter.unusedSimpArgs false

/-- p is nil, or a struct of noughts. -/
def Nb (W : World) (p : Option Addr) : Prop := p = none ∨ ∃ g, p = some ⟨g, 0, none⟩ ∧ W.heap[g]? = some (.cells #[.slice none 0 0, .slice none 0 0, .map none, .int .i64 0] 28 (0, 0))
theorem Nb.below {W W' : World} {p : Option Addr} (h : Nb W p) (hb : Below W.heap.size W W') : Nb W' p := by
  rcases h with h | ⟨g, h1, h2⟩
  · exact .inl h
  · exact .inr ⟨g, h1, (hb.block g (Array.getElem?_eq_some_iff.1 h2).1).trans h2⟩
theorem Nb.alloc {W : World} {p : Option Addr} (h : Nb W p) (o : Obj) : Nb (W.alloc o) p := h.below ((Below.refl _ W).alloc (Nat.le_refl _) _)

set_option maxRecDepth 100000 in
set_option maxHeartbeats 1000000 in
theorem made_nb (W : World) (p : Option Addr)  (h : Nb W p) :
    Calls Tryz.prog 55 #[.pointer p] W fun e w' => e = .returned (.bool false) ∧ w' = W := by
  refine (callsIn_wide (n := 1)).1 ?_
  refine callsIn_of_wp Tryz.func55 rfl trivial ?_ rfl
  simp only [Tryz.ntmps55, List.size_toArray, List.length_cons, List.length_nil, Nat.reduceAdd, Nat.reduceSub, Array.replicate_succ, Array.replicate_zero, List.push_toArray, List.append_toArray, List.nil_append, List.cons_append]
  rcases h with rfl | ⟨g, rfl, hg⟩
  · gi_wp2
    go_ret
    exact ⟨rfl, rfl⟩
  · have c0 : W.cell? ⟨g, 0, none⟩ = some (.slice none 0 0) := by simp [World.cell?, hg]
    gi_wp2
    go_ret
    exact ⟨rfl, rfl⟩

set_option maxRecDepth 100000 in
set_option maxHeartbeats 1000000 in
theorem blocks_nb (W : World) (p : Option Addr)  (h : Nb W p) :
    Calls Tryz.prog 28 #[.pointer p] W fun e w' => e = .returned (.int .i64 0) ∧ w' = W := by
  refine (callsIn_wide (n := 1)).1 ?_
  refine callsIn_of_wp Tryz.func28 rfl trivial ?_ rfl
  simp only [Tryz.ntmps28, List.size_toArray, List.length_cons, List.length_nil, Nat.reduceAdd, Nat.reduceSub, Array.replicate_succ, Array.replicate_zero, List.push_toArray, List.append_toArray, List.nil_append, List.cons_append]
  rcases h with rfl | ⟨g, rfl, hg⟩
  · gi_wp2
    go_ret
    exact ⟨rfl, rfl⟩
  · have c0 : W.cell? ⟨g, 0, none⟩ = some (.slice none 0 0) := by simp [World.cell?, hg]
    gi_wp2
    go_ret
    exact ⟨rfl, rfl⟩

set_option maxRecDepth 100000 in
set_option maxHeartbeats 1000000 in
theorem sent0 (W : World) : Calls Tryz.prog 52 #[.slice none 0 0] W fun e w' => e = .returned (.slice none 0 0) ∧ w' = W := by
  refine (callsIn_wide (n := 1)).1 ?_
  refine callsIn_of_wp Tryz.func52 rfl trivial ?_ rfl
  simp only [Tryz.ntmps52, List.size_toArray, List.length_cons, List.length_nil, Nat.reduceAdd, Nat.reduceSub, Array.replicate_succ, Array.replicate_zero, List.push_toArray, List.append_toArray, List.nil_append, List.cons_append]
  gi_wp2
  gi_loopw [3, 8] (fun v3 v8 w' => v3 = .slice none 0 0 ∧ v8 = .int .i64 0 ∧ w' = W) (fun _ _ _ => 0)
  case atStart => exact ⟨rfl, rfl, rfl⟩
  case round =>
    obtain ⟨rfl, rfl, rfl⟩ := hrel
    gi_wp2
    go_ret
    exact ⟨rfl, rfl⟩

end Go.Proofs.YtlkijnnoalfblaaGreat.Nb
