/- Written by a program of this session. The walk of the law DiskNobody. -/
import Derived.Test.YtbopccjcehnfnaaNw
namespace Go.Proofs.Ytbopccjcehnfnaa.Nb
open Go Go.RowKit Go.Shelf Go.Proofs Go.Proofs.YtbopccjcehnfnaaW.PrintWords Go.Proofs.YtbopccjcehnfnaaW.PrintLast Go.Proofs.YtbopccjcehnfnaaW.PrintMore
set_option linter.unusedVariables false
set_option linter.unusedSimpArgs false

def Std (w wr : World) : Prop := wr.heap[w.heap.size]? = some (.cells #[.slice none 0 0, .slice none 0 0, .map none, .int .i64 0] 45 (0, 0)) ∧
  wr.heap[w.heap.size + 1]? = some (.cells #[.pointer none, .pointer (some ⟨w.heap.size, 0, none⟩)] 24 (0, 0)) ∧ Below w.heap.size w wr
theorem Std.alloc {w wr : World} (h : Std w wr) (o : Obj) : Std w (wr.alloc o) :=
  ⟨(heap_alloc_old _ _ _ (Array.getElem?_eq_some_iff.1 h.1).1).trans h.1, (heap_alloc_old _ _ _ (Array.getElem?_eq_some_iff.1 h.2.1).1).trans h.2.1, below_alloc h.2.2 _⟩

set_option maxRecDepth 100000 in
set_option maxHeartbeats 4000000 in
theorem DiskNobody_walk (b n : Int) (w : World) (_ : (Lit.int .i64 b).wf = true) (_ : (Lit.int .i64 n).wf = true) :
    Calls Try.prog 5 #[.int .i64 b, .int .i64 n] w fun e w' => e = .returned (.bool true) ∧ Below w.heap.size w w' := by
  have hms : ∀ W : World, (Instr.makeSlice 30 (.int .i64 128) (.int .i64 128)).run Try.prog W = .ok (.slice (some ⟨W.heap.size, 0, none⟩) 128 128) (W.alloc (.cells (madeCells #[.int .u8 0] 128) 5)) := print_make 30 5 .u8 1 Try.underlying30 infou8 (by decide) 128 (by decide)
  refine (callsIn_wide (n := 3)).1 ?_
  refine callsIn_of_wp Try.func5 rfl trivial ?_ rfl
  simp only [Try.ntmps5, List.size_toArray, List.length_cons, List.length_nil, Nat.reduceAdd, Nat.reduceSub, Array.replicate_succ, Array.replicate_zero, List.push_toArray, List.append_toArray, List.nil_append, List.cons_append]
  gi_wp2
  gi_loopw [17] (fun v17 wr => ∃ k : Nat, v17 = .int .i64 (k : Int) ∧ k ≤ 2 ∧ Std w wr)
    (fun v17 _ => 2 - (intOf v17).toNat)
  case atStart =>
    refine ⟨0, rfl, by decide, ?_, ?_, below_alloc (below_alloc (Below.refl _ _) _) _⟩
    · exact (heap_alloc_old _ _ _ (by simp)).trans (World.alloc_heap_new w _)
    · have := World.alloc_heap_new (w.alloc (.cells #[.slice none 0 0, .slice none 0 0, .map none, .int .i64 0] 45)) (.cells #[.pointer none, .pointer (some ⟨w.heap.size, 0, none⟩)] 24)
      rwa [World.size_alloc] at this
  case round =>
    obtain ⟨k, rfl, hk, hst⟩ := hrel
    have hz := hst.1
    have hrw := hst.2.1
    have hbr := hst.2.2
    have c0 : wr.cell? ⟨w.heap.size + 1, 0, none⟩ = some (.pointer none) := by simp [World.cell?, hrw]
    have c1 : wr.cell? ⟨w.heap.size + 1, 1, none⟩ = some (.pointer (some ⟨w.heap.size, 0, none⟩)) := by simp [World.cell?, hrw]
    by_cases hk2 : k < 2
    · rcases (show k = 0 ∨ k = 1 by omega) with rfl | rfl
      · have hN : Nb wr none := .inl rfl
        gi_wp2_with (first | (refine ⟨trivial, ?_⟩; gi_at_call 17; refine (callsIn_wide.2 (read_nb _ _ b (by (with_reducible repeat (first | exact hN | refine Nb.alloc ?_ _))))).mono ?_; rintro e w' ⟨rfl, rfl⟩) | (refine ⟨trivial, ?_⟩; gi_at_call 18; refine (callsIn_wide.2 (write_nb _ _ b _ (by (with_reducible repeat (first | exact hN | refine Nb.alloc ?_ _))))).mono ?_; rintro e w' ⟨rfl, rfl⟩) | (refine ⟨trivial, ?_⟩; gi_at_call 11; refine (callsIn_wide.2 (complete_nb _ _ n true (by (with_reducible repeat (first | exact hN | refine Nb.alloc ?_ _))))).mono ?_; rintro e w' ⟨rfl, rfl⟩) | (refine ⟨trivial, ?_⟩; gi_at_call 19; refine (callsIn_wide.2 (fail_nb _ _ b n (by (with_reducible repeat (first | exact hN | refine Nb.alloc ?_ _))))).mono ?_; rintro e w' ⟨rfl, rfl⟩) | (refine ⟨trivial, ?_⟩; gi_at_call 16; refine (callsIn_wide.2 (crash_nb _ _ _ (by (with_reducible repeat (first | exact hN | refine Nb.alloc ?_ _))))).mono ?_; rintro e w' ⟨rfl, rfl⟩) | (refine ⟨trivial, ?_⟩; gi_at_call 13; refine (callsIn_wide.2 (blocks_nb _ _ (by (with_reducible repeat (first | exact hN | refine Nb.alloc ?_ _))))).mono ?_; rintro e w' ⟨rfl, rfl⟩) | (refine ⟨trivial, ?_⟩; gi_at_call 9; refine (callsIn_wide.2 (image_nb _ _ (by (with_reducible repeat (first | exact hN | refine Nb.alloc ?_ _))))).mono ?_; rintro e w' ⟨rfl, rfl⟩) | (refine ⟨trivial, ?_⟩; gi_at_call 10; refine (callsIn_wide.2 (queue_nb _ _ (by (with_reducible repeat (first | exact hN | refine Nb.alloc ?_ _))))).mono ?_; rintro e w' ⟨rfl, rfl⟩) | (refine ⟨trivial, ?_⟩; gi_at_call 15; refine (callsIn_wide.2 (copy_nb _ _ (by (with_reducible repeat (first | exact hN | refine Nb.alloc ?_ _))))).mono ?_; rintro e w' ⟨rfl, rfl⟩))
        go_roundw
        case rel => exact ⟨1, rfl, by decide, by (with_reducible repeat (first | exact hst | refine Std.alloc ?_ _))⟩
        case measure => decide
      · have hN : Nb wr (some ⟨w.heap.size, 0, none⟩) := .inr ⟨_, rfl, hz⟩
        gi_wp2_with (first | (refine ⟨trivial, ?_⟩; gi_at_call 17; refine (callsIn_wide.2 (read_nb _ _ b (by (with_reducible repeat (first | exact hN | refine Nb.alloc ?_ _))))).mono ?_; rintro e w' ⟨rfl, rfl⟩) | (refine ⟨trivial, ?_⟩; gi_at_call 18; refine (callsIn_wide.2 (write_nb _ _ b _ (by (with_reducible repeat (first | exact hN | refine Nb.alloc ?_ _))))).mono ?_; rintro e w' ⟨rfl, rfl⟩) | (refine ⟨trivial, ?_⟩; gi_at_call 11; refine (callsIn_wide.2 (complete_nb _ _ n true (by (with_reducible repeat (first | exact hN | refine Nb.alloc ?_ _))))).mono ?_; rintro e w' ⟨rfl, rfl⟩) | (refine ⟨trivial, ?_⟩; gi_at_call 19; refine (callsIn_wide.2 (fail_nb _ _ b n (by (with_reducible repeat (first | exact hN | refine Nb.alloc ?_ _))))).mono ?_; rintro e w' ⟨rfl, rfl⟩) | (refine ⟨trivial, ?_⟩; gi_at_call 16; refine (callsIn_wide.2 (crash_nb _ _ _ (by (with_reducible repeat (first | exact hN | refine Nb.alloc ?_ _))))).mono ?_; rintro e w' ⟨rfl, rfl⟩) | (refine ⟨trivial, ?_⟩; gi_at_call 13; refine (callsIn_wide.2 (blocks_nb _ _ (by (with_reducible repeat (first | exact hN | refine Nb.alloc ?_ _))))).mono ?_; rintro e w' ⟨rfl, rfl⟩) | (refine ⟨trivial, ?_⟩; gi_at_call 9; refine (callsIn_wide.2 (image_nb _ _ (by (with_reducible repeat (first | exact hN | refine Nb.alloc ?_ _))))).mono ?_; rintro e w' ⟨rfl, rfl⟩) | (refine ⟨trivial, ?_⟩; gi_at_call 10; refine (callsIn_wide.2 (queue_nb _ _ (by (with_reducible repeat (first | exact hN | refine Nb.alloc ?_ _))))).mono ?_; rintro e w' ⟨rfl, rfl⟩) | (refine ⟨trivial, ?_⟩; gi_at_call 15; refine (callsIn_wide.2 (copy_nb _ _ (by (with_reducible repeat (first | exact hN | refine Nb.alloc ?_ _))))).mono ?_; rintro e w' ⟨rfl, rfl⟩))
        go_roundw
        case rel => exact ⟨2, rfl, by decide, by (with_reducible repeat (first | exact hst | refine Std.alloc ?_ _))⟩
        case measure => decide
    · obtain rfl : k = 2 := by omega
      gi_wp2_with (first | (refine ⟨trivial, ?_⟩; gi_at_call 20; refine (callsIn_wide.2 (New_ok 3 (by decide) (by decide) _)).mono ?_; rintro e w' ⟨v, rfl, hd, hr, hb⟩; obtain ⟨ad, c, rfl⟩ := Kd.R_slice1 hr (by simp)) | (refine ⟨trivial, ?_⟩; gi_at_call 13; refine (callsIn_wide.2 (blocks_of _ _ _ _ _ _ _ _ hd)).mono ?_; rintro e w' ⟨rfl, rfl⟩))
      go_ret
      exact ⟨rfl, hbr.trans (hb.mono hbr.size)⟩
end Go.Proofs.Ytbopccjcehnfnaa.Nb
