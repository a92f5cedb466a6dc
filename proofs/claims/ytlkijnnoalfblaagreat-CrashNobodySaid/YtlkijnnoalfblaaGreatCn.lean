/- Written by a program of this session. What a crash leaves of a disk that no call made. -/
import Derived.Test.YtlkijnnoalfblaaGreatNw
import Derived.Maps.AppendAt
import Derived.RangeFuncBox
namespace Go.Proofs.YtlkijnnoalfblaaGreat.Nb
open Go Go.RowKit Go.Shelf Go.Proofs Go.Proofs.YtlkijnnoalfblaaGreatW.PrintWords Go.Proofs.YtlkijnnoalfblaaGreatW.PrintLast Go.Proofs.YtlkijnnoalfblaaGreatW.PrintMore
set_option linter.unusedVariables false
set_option linter.unusedSimpArgs false

/-- p is nil, or a disk with nothing in its queue. -/
def Q0 (W : World) (p : Option Addr) : Prop := p = none ∨ ∃ g v m l, p = some ⟨g, 0, none⟩ ∧ W.heap[g]? = some (.cells #[v, .slice none 0 0, m, l] 28 (0, 0))
theorem Nb.q0 {W : World} {p : Option Addr} (h : Nb W p) : Q0 W p := by
  rcases h with h | ⟨g, h1, h2⟩
  · exact .inl h
  · exact .inr ⟨g, _, _, _, h1, h2⟩
set_option maxRecDepth 100000 in
set_option maxHeartbeats 2000000 in
theorem queue_q0 (W : World) (p : Option Addr) (h : Q0 W p) :
    Calls Tryz.prog 25 #[.pointer p] W fun e w' => e = .returned (.slice none 0 0) ∧ w' = W := by
  refine (callsIn_wide (n := 1)).1 ?_
  refine callsIn_of_wp Tryz.func25 rfl trivial ?_ rfl
  simp only [Tryz.ntmps25, List.size_toArray, List.length_cons, List.length_nil, Nat.reduceAdd, Nat.reduceSub, Array.replicate_succ, Array.replicate_zero, List.push_toArray, List.append_toArray, List.nil_append, List.cons_append]
  rcases h with rfl | ⟨g, v, m, l, rfl, hg⟩
  · gi_wp2_with (first | (refine ⟨trivial, ?_⟩; gi_at_call 52; refine (callsIn_wide.2 (sent0 _)).mono ?_; rintro e w' ⟨rfl, hw⟩; rw [hw]; clear hw))
    go_ret
    exact ⟨rfl, rfl⟩
  · have c1 : W.cell? ⟨g, 1, none⟩ = some (.slice none 0 0) := by simp [World.cell?, hg]
    gi_wp2_with (first | (refine ⟨trivial, ?_⟩; gi_at_call 52; refine (callsIn_wide.2 (sent0 _)).mono ?_; rintro e w' ⟨rfl, hw⟩; rw [hw]; clear hw))
    go_ret
    exact ⟨rfl, rfl⟩

set_option maxRecDepth 100000 in
set_option maxHeartbeats 2000000 in
theorem ids_q0 (W : World) (p : Option Addr) (h : Q0 W p) :
    Calls Tryz.prog 29 #[.pointer p] W fun e w' => e = .returned (.slice none 0 0) ∧ w' = W := by
  refine (callsIn_wide (n := 1)).1 ?_
  refine callsIn_of_wp Tryz.func29 rfl trivial ?_ rfl
  simp only [Tryz.ntmps29, List.size_toArray, List.length_cons, List.length_nil, Nat.reduceAdd, Nat.reduceSub, Array.replicate_succ, Array.replicate_zero, List.push_toArray, List.append_toArray, List.nil_append, List.cons_append]
  gi_wp2_with (first | (refine ⟨trivial, ?_⟩; gi_at_call 25; refine (callsIn_wide.2 (queue_q0 _ _ h)).mono ?_; rintro e w' ⟨rfl, hw⟩; rw [hw]; clear hw))
  gi_loopw [3, 9] (fun v3 v9 w' => v3 = .slice none 0 0 ∧ v9 = .int .i64 0 ∧ w' = W) (fun _ _ _ => 0)
  case atStart => exact ⟨rfl, rfl, rfl⟩
  case round =>
    obtain ⟨rfl, rfl, rfl⟩ := hrel
    gi_wp2
    go_ret
    exact ⟨rfl, rfl⟩

set_option maxRecDepth 100000 in
set_option maxHeartbeats 2000000 in
theorem keep0 (W : World) (f : Value) :
    Calls Tryz.prog 36 #[.slice none 0 0, f] W fun e w' => e = .returned (.slice none 0 0) ∧ w' = W := by
  refine (callsIn_wide (n := 1)).1 ?_
  refine callsIn_of_wp Tryz.func36 rfl trivial ?_ rfl
  simp only [Tryz.ntmps36, List.size_toArray, List.length_cons, List.length_nil, Nat.reduceAdd, Nat.reduceSub, Array.replicate_succ, Array.replicate_zero, List.push_toArray, List.append_toArray, List.nil_append, List.cons_append]
  gi_wp2
  gi_loopw [5, 10] (fun v5 v10 w' => v5 = .slice none 0 0 ∧ v10 = .int .i64 0 ∧ w' = W) (fun _ _ _ => 0)
  case atStart => exact ⟨rfl, rfl, rfl⟩
  case round =>
    obtain ⟨rfl, rfl, rfl⟩ := hrel
    gi_wp2
    go_ret
    exact ⟨rfl, rfl⟩

set_option maxRecDepth 100000 in
set_option maxHeartbeats 2000000 in
theorem of_nb (W : World) (p : Option Addr) (k : Int) (h : Nb W p) :
    Calls Tryz.prog 10 #[.pointer p, .int .u64 k] W fun e w' => e = .returned (.slice none 0 0) ∧ w' = W.alloc (.cells #[.int .u64 k] 22) := by
  refine (callsIn_wide (n := 1)).1 ?_
  refine callsIn_of_wp Tryz.func10 rfl trivial ?_ rfl
  simp only [Tryz.ntmps10, List.size_toArray, List.length_cons, List.length_nil, Nat.reduceAdd, Nat.reduceSub, Array.replicate_succ, Array.replicate_zero, List.push_toArray, List.append_toArray, List.nil_append, List.cons_append]
  gi_wp2_with (first | (refine ⟨trivial, ?_⟩; gi_at_call 29; refine (callsIn_wide.2 (ids_q0 _ _ (h.alloc _).q0)).mono ?_; rintro e w' ⟨rfl, hw⟩; rw [hw]; clear hw) | (refine ⟨trivial, ?_⟩; gi_at_call 36; refine (callsIn_wide.2 (keep0 _ _)).mono ?_; rintro e w' ⟨rfl, hw⟩; rw [hw]; clear hw))
  go_ret
  exact ⟨rfl, rfl⟩

set_option maxRecDepth 100000 in
set_option maxHeartbeats 2000000 in
theorem sets_nb (W : World) (p : Option Addr) (k : Int) (h : Nb W p) :
    Calls Tryz.prog 8 #[.pointer p, .int .i64 k] W fun e w' => e = .returned (.slice none 0 0) ∧ w' = W := by
  refine (callsIn_wide (n := 1)).1 ?_
  refine callsIn_of_wp Tryz.func8 rfl trivial ?_ rfl
  simp only [Tryz.ntmps8, List.size_toArray, List.length_cons, List.length_nil, Nat.reduceAdd, Nat.reduceSub, Array.replicate_succ, Array.replicate_zero, List.push_toArray, List.append_toArray, List.nil_append, List.cons_append]
  gi_wp2_with (first | (refine ⟨trivial, ?_⟩; gi_at_call 28; refine (callsIn_wide.2 (blocks_nb _ _ h)).mono ?_; rintro e w' ⟨rfl, hw⟩; rw [hw]; clear hw))
  go_ret
  exact ⟨rfl, rfl⟩

set_option maxRecDepth 100000 in
set_option maxHeartbeats 2000000 in
theorem images_nb (W : World) (p : Option Addr) (k : Int) (h : Nb W p) :
    Calls Tryz.prog 9 #[.pointer p, .int .i64 k] W fun e w' => e = .returned (.slice none 0 0) ∧ w' = W := by
  refine (callsIn_wide (n := 1)).1 ?_
  refine callsIn_of_wp Tryz.func9 rfl trivial ?_ rfl
  simp only [Tryz.ntmps9, List.size_toArray, List.length_cons, List.length_nil, Nat.reduceAdd, Nat.reduceSub, Array.replicate_succ, Array.replicate_zero, List.push_toArray, List.append_toArray, List.nil_append, List.cons_append]
  gi_wp2_with (first | (refine ⟨trivial, ?_⟩; gi_at_call 8; refine (callsIn_wide.2 (sets_nb _ _ k h)).mono ?_; rintro e w' ⟨rfl, hw⟩; rw [hw]; clear hw))
  gi_loopw [5, 14] (fun v5 v14 w' => v5 = .slice none 0 0 ∧ v14 = .int .i64 0 ∧ w' = W) (fun _ _ _ => 0)
  case atStart => exact ⟨rfl, rfl, rfl⟩
  case round =>
    obtain ⟨rfl, rfl, rfl⟩ := hrel
    gi_wp2
    go_ret
    exact ⟨rfl, rfl⟩

set_option maxRecDepth 100000 in
set_option maxHeartbeats 2000000 in
theorem worst_nb (W : World) (p : Option Addr) (k : Int) (h : Nb W p) :
    Calls Tryz.prog 7 #[.pointer p, .int .i64 k] W fun e w' => e = .returned (.tuple #[.int .i64 0, .int .i64 0]) ∧ w' = W := by
  refine (callsIn_wide (n := 1)).1 ?_
  refine callsIn_of_wp Tryz.func7 rfl trivial ?_ rfl
  simp only [Tryz.ntmps7, List.size_toArray, List.length_cons, List.length_nil, Nat.reduceAdd, Nat.reduceSub, Array.replicate_succ, Array.replicate_zero, List.push_toArray, List.append_toArray, List.nil_append, List.cons_append]
  gi_wp2_with (first | (refine ⟨trivial, ?_⟩; gi_at_call 8; refine (callsIn_wide.2 (sets_nb _ _ k h)).mono ?_; rintro e w' ⟨rfl, hw⟩; rw [hw]; clear hw))
  gi_loopw [15] (fun v15 w' => v15 = .int .i64 0 ∧ w' = W) (fun _ _ => 0)
  case atStart => exact ⟨rfl, rfl⟩
  case round =>
    obtain ⟨rfl, rfl⟩ := hrel
    gi_wp2
    refine bodyPost_ret (results_tmp2 rfl _ _ _) rfl ?_
    exact ⟨rfl, rfl⟩

set_option maxRecDepth 100000 in
set_option maxHeartbeats 2000000 in
theorem after_nb (W : World) (p : Option Addr) (s : Value) (h : Nb W p) :
    Calls Tryz.prog 6 #[.pointer p, s] W fun e w' => e = .returned (.tuple #[.pointer none, .int .i64 2]) ∧ w' = W := by
  refine (callsIn_wide (n := 1)).1 ?_
  refine callsIn_of_wp Tryz.func6 rfl trivial ?_ rfl
  simp only [Tryz.ntmps6, List.size_toArray, List.length_cons, List.length_nil, Nat.reduceAdd, Nat.reduceSub, Array.replicate_succ, Array.replicate_zero, List.push_toArray, List.append_toArray, List.nil_append, List.cons_append]
  gi_wp2_with (first | (refine ⟨trivial, ?_⟩; gi_at_call 28; refine (callsIn_wide.2 (blocks_nb _ _ h)).mono ?_; rintro e w' ⟨rfl, hw⟩; rw [hw]; clear hw))
  refine bodyPost_ret (results_tmp2 rfl _ _ _) rfl ?_
  exact ⟨rfl, rfl⟩

set_option maxRecDepth 100000 in
set_option maxHeartbeats 2000000 in
theorem sets_05 (W : World) : Calls Tryz.prog 35 #[.int .i64 0, .int .i64 5] W fun e w' => e = .returned (.int .i64 1) ∧ w' = W := by
  refine (callsIn_wide (n := 1)).1 ?_
  refine callsIn_of_wp Tryz.func35 rfl trivial ?_ rfl
  simp only [Tryz.ntmps35, List.size_toArray, List.length_cons, List.length_nil, Nat.reduceAdd, Nat.reduceSub, Array.replicate_succ, Array.replicate_zero, List.push_toArray, List.append_toArray, List.nil_append, List.cons_append]
  gi_wp2
  go_ret
  exact ⟨rfl, rfl⟩

theorem infosi : (Tryz.prog.info? 39).map (fun i => (i.zero, i.size, i.bytes)) = some (some (.slice none 0 0), 1, 24) := by kernel_rfl

set_option maxRecDepth 100000 in
set_option maxHeartbeats 2000000 in
theorem sets_new (W : World) (g : Nat) (A : Option Addr) (n c : Nat) (m l : Value) (h : W.heap[g]? = some (.cells #[.slice A n c, .slice none 0 0, m, l] 28 (0, 0))) (hn : ((n : Int) == 0) = false) :
    Calls Tryz.prog 8 #[.pointer (some ⟨g, 0, none⟩), .int .i64 5] W fun e w' => ∃ B cp, e = .returned (.slice B 1 cp) ∧ Below W.heap.size W w' := by
  refine (callsIn_wide (n := 1)).1 ?_
  refine callsIn_of_wp Tryz.func8 rfl trivial ?_ rfl
  simp only [Tryz.ntmps8, List.size_toArray, List.length_cons, List.length_nil, Nat.reduceAdd, Nat.reduceSub, Array.replicate_succ, Array.replicate_zero, List.push_toArray, List.append_toArray, List.nil_append, List.cons_append]
  gi_wp2_with (first | (refine ⟨trivial, ?_⟩; gi_at_call 28; refine (callsIn_wide.2 (blocks_of _ _ _ _ _ _ _ _ h)).mono ?_; rintro e w' ⟨rfl, hw⟩; rw [hw]; clear hw) | (refine ⟨trivial, ?_⟩; gi_at_call 29; refine (callsIn_wide.2 (ids_q0 _ _ (.inr ⟨_, _, _, _, rfl, h⟩))).mono ?_; rintro e w' ⟨rfl, hw⟩; rw [hw]; clear hw) | (refine ⟨trivial, ?_⟩; gi_at_call 35; refine (callsIn_wide.2 (sets_05 _)).mono ?_; rintro e w' ⟨rfl, hw⟩; rw [hw]; clear hw))
  obtain ⟨i0, hi, hz0, hz1, hz2⟩ := info_parts infosi
  gi_loopw [6, 17] (fun v6 v17 w' => Below W.heap.size W w' ∧ ((v6 = .slice none 0 0 ∧ v17 = .int .i64 0) ∨ (∃ B cp, v6 = .slice B 1 cp ∧ v17 = .int .i64 1))) (fun _ v17 _ => 1 - (intOf v17).toNat)
  case atStart => exact ⟨Below.refl _ _, .inl ⟨rfl, rfl⟩⟩
  case round =>
    obtain ⟨hb, ⟨rfl, rfl⟩ | ⟨B, cp, rfl, rfl⟩⟩ := hrel
    · have hsz := hb.size
      gi_wp2_with (first | (refine ⟨trivial, ?_⟩; gi_at_call 36; refine (callsIn_wide.2 (keep0 _ _)).mono ?_; rintro e w' ⟨rfl, hw⟩; rw [hw]; clear hw) | (gi_at_builtin; refine wpListIn_append_own _ rfl _ _ 35 rfl W.heap.size 39 i0 (.slice none 0 0) 1 24 Tryz.underlying35 hi hz0 hz1 hz2 rfl (by decide) (.slice none 0 0) 0 [] rfl (World.ownsRow_nil _ _ _ _) ⟨wr.heap.size + 1, 0, none⟩ 1 1 [.slice none 0 0] rfl rfl ?cells (by simp [Value.oneCell']) (by simp [maxLen]) (by omega) (by simp; omega) ?_; (case cells => (have := cell_one_new (wr.alloc (.cells #[.int .i64 0] 3)) (.slice none 0 0) 39; rw [World.size_alloc] at this; exact this)); intro v' w1 hown' hgrow _; obtain ⟨g', cap', rfl⟩ := ownsRow_succ hown'))
      go_roundw
      case rel =>
        refine ⟨hb.trans ?_, .inr ⟨_, _, rfl, rfl⟩⟩
        exact ((below_alloc (below_alloc (Below.refl _ _) _) _).grown hgrow (by simp; omega) (fun k e => by simp [Value.ownBlock] at e)).mono hsz
      case measure => decide
    · gi_wp2
      go_ret
      exact ⟨_, _, rfl, hb⟩

def Std (w wr : World) : Prop := wr.heap[w.heap.size]? = some (.cells #[.slice none 0 0, .slice none 0 0, .map none, .int .i64 0] 28 (0, 0)) ∧
  wr.heap[w.heap.size + 1]? = some (.cells #[.pointer none, .pointer (some ⟨w.heap.size, 0, none⟩)] 23 (0, 0)) ∧ Below w.heap.size w wr
theorem Std.alloc {w wr : World} (h : Std w wr) (o : Obj) : Std w (wr.alloc o) :=
  ⟨(heap_alloc_old _ _ _ (Array.getElem?_eq_some_iff.1 h.1).1).trans h.1, (heap_alloc_old _ _ _ (Array.getElem?_eq_some_iff.1 h.2.1).1).trans h.2.1, below_alloc h.2.2 _⟩

set_option maxRecDepth 100000 in
set_option maxHeartbeats 2000000 in
theorem CrashNobody_walk (a b : Int) (w : World) (_ : (Lit.int .i64 a).wf = true) (_ : (Lit.int .u64 b).wf = true) :
    Calls Tryz.prog 3 #[.int .i64 a, .int .u64 b] w fun e w' => e = .returned (.bool true) ∧ Below w.heap.size w w' := by
  refine (callsIn_wide (n := 3)).1 ?_
  refine callsIn_of_wp Tryz.func3 rfl trivial ?_ rfl
  simp only [Tryz.ntmps3, List.size_toArray, List.length_cons, List.length_nil, Nat.reduceAdd, Nat.reduceSub, Array.replicate_succ, Array.replicate_zero, List.push_toArray, List.append_toArray, List.nil_append, List.cons_append]
  gi_wp2
  gi_loopw [17] (fun v17 wr => ∃ k : Nat, v17 = .int .i64 (k : Int) ∧ k ≤ 2 ∧ Std w wr) (fun v17 _ => 2 - (intOf v17).toNat)
  case atStart =>
    refine ⟨0, rfl, by decide, ?_, ?_, below_alloc (below_alloc (Below.refl _ _) _) _⟩
    · exact (heap_alloc_old _ _ _ (by simp)).trans (World.alloc_heap_new w _)
    · have := World.alloc_heap_new (w.alloc (.cells #[.slice none 0 0, .slice none 0 0, .map none, .int .i64 0] 28)) (.cells #[.pointer none, .pointer (some ⟨w.heap.size, 0, none⟩)] 23)
      rwa [World.size_alloc] at this
  case round =>
    obtain ⟨k, rfl, hk, hst⟩ := hrel
    have hz := hst.1
    have hrw := hst.2.1
    have hbr := hst.2.2
    have c0 : wr.cell? ⟨w.heap.size + 1, 0, none⟩ = some (.pointer none) := by simp [World.cell?, hrw]
    have c1 : wr.cell? ⟨w.heap.size + 1, 1, none⟩ = some (.pointer (some ⟨w.heap.size, 0, none⟩)) := by simp [World.cell?, hrw]
    by_cases hk2 : k < 2
    · rcases (show k = 0 ∨ k = 1 by omega) with rfl | rfl
      · have hN : Nb wr none := .inl rfl
        gi_wp2_with (first | (refine ⟨trivial, ?_⟩; gi_at_call 6; refine (callsIn_wide.2 (after_nb _ _ _ (by (with_reducible repeat (first | exact hN | refine Nb.alloc ?_ _))))).mono ?_; rintro e w' ⟨rfl, hw⟩; rw [hw]; clear hw) | (refine ⟨trivial, ?_⟩; gi_at_call 7; refine (callsIn_wide.2 (worst_nb _ _ a (by (with_reducible repeat (first | exact hN | refine Nb.alloc ?_ _))))).mono ?_; rintro e w' ⟨rfl, hw⟩; rw [hw]; clear hw) | (refine ⟨trivial, ?_⟩; gi_at_call 8; refine (callsIn_wide.2 (sets_nb _ _ a (by (with_reducible repeat (first | exact hN | refine Nb.alloc ?_ _))))).mono ?_; rintro e w' ⟨rfl, hw⟩; rw [hw]; clear hw) | (refine ⟨trivial, ?_⟩; gi_at_call 9; refine (callsIn_wide.2 (images_nb _ _ a (by (with_reducible repeat (first | exact hN | refine Nb.alloc ?_ _))))).mono ?_; rintro e w' ⟨rfl, hw⟩; rw [hw]; clear hw) | (refine ⟨trivial, ?_⟩; gi_at_call 10; refine (callsIn_wide.2 (of_nb _ _ b (by (with_reducible repeat (first | exact hN | refine Nb.alloc ?_ _))))).mono ?_; rintro e w' ⟨rfl, hw⟩; rw [hw]; clear hw))
        go_roundw
        case rel => exact ⟨1, rfl, by decide, by (with_reducible repeat (first | exact hst | refine Std.alloc ?_ _))⟩
        case measure => decide
      · have hN : Nb wr (some ⟨w.heap.size, 0, none⟩) := .inr ⟨_, rfl, hz⟩
        gi_wp2_with (first | (refine ⟨trivial, ?_⟩; gi_at_call 6; refine (callsIn_wide.2 (after_nb _ _ _ (by (with_reducible repeat (first | exact hN | refine Nb.alloc ?_ _))))).mono ?_; rintro e w' ⟨rfl, hw⟩; rw [hw]; clear hw) | (refine ⟨trivial, ?_⟩; gi_at_call 7; refine (callsIn_wide.2 (worst_nb _ _ a (by (with_reducible repeat (first | exact hN | refine Nb.alloc ?_ _))))).mono ?_; rintro e w' ⟨rfl, hw⟩; rw [hw]; clear hw) | (refine ⟨trivial, ?_⟩; gi_at_call 8; refine (callsIn_wide.2 (sets_nb _ _ a (by (with_reducible repeat (first | exact hN | refine Nb.alloc ?_ _))))).mono ?_; rintro e w' ⟨rfl, hw⟩; rw [hw]; clear hw) | (refine ⟨trivial, ?_⟩; gi_at_call 9; refine (callsIn_wide.2 (images_nb _ _ a (by (with_reducible repeat (first | exact hN | refine Nb.alloc ?_ _))))).mono ?_; rintro e w' ⟨rfl, hw⟩; rw [hw]; clear hw) | (refine ⟨trivial, ?_⟩; gi_at_call 10; refine (callsIn_wide.2 (of_nb _ _ b (by (with_reducible repeat (first | exact hN | refine Nb.alloc ?_ _))))).mono ?_; rintro e w' ⟨rfl, hw⟩; rw [hw]; clear hw))
        go_roundw
        case rel => exact ⟨2, rfl, by decide, by (with_reducible repeat (first | exact hst | refine Std.alloc ?_ _))⟩
        case measure => decide
    · obtain rfl : k = 2 := by omega
      gi_wp2_with (first | (refine ⟨trivial, ?_⟩; gi_at_call 11; refine (callsIn_wide.2 (New_ok 2 (by decide) (by decide) _)).mono ?_; rintro e w' ⟨v, rfl, hd, hr, hb⟩; obtain ⟨ad, c, rfl⟩ := Kd.R_slice1 hr (by simp)) | (refine ⟨trivial, ?_⟩; gi_at_call 8; refine (callsIn_wide.2 (sets_new _ _ _ _ _ _ _ hd (by rfl))).mono ?_; rintro e w2 ⟨B, cp, rfl, hb2⟩))
      go_ret
      exact ⟨rfl, hbr.trans ((hb.mono hbr.size).trans (hb2.mono (Nat.le_trans hbr.size hb.size)))⟩
end Go.Proofs.YtlkijnnoalfblaaGreat.Nb
