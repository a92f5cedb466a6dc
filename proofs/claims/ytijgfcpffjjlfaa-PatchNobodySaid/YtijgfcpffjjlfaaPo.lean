/- Written by a program of this session. The walk of the law PatchNobody. -/
import Derived.Test.YtijgfcpffjjlfaaPa
namespace Go.Proofs.Ytijgfcpffjjlfaa.Nb
open Go Go.RowKit Go.Shelf Go.Proofs Go.Proofs.YtijgfcpffjjlfaaW.PrintWords Go.Proofs.YtijgfcpffjjlfaaW.PrintLast Go.Proofs.YtijgfcpffjjlfaaW.PrintMore
set_option linter.unusedVariables false
set_option linter.unusedSimpArgs false

theorem infou8 : (Try.prog.info? 5).map (fun i => (i.zero, i.size, i.bytes)) = some (some (.int .u8 0), 1, 1) := by kernel_rfl
theorem lit_row (W : World) : Kd.C (Kd.int .u8) (W.alloc (.cells #[.int .u8 1] 5)) (some ⟨W.heap.size, 0, none⟩) 1 [1] :=
  Kd.C_of_reads (d := (0 : Int)) (enc := Value.int .u8) (h1 := fun _ => rfl) ⟨rfl, by decide, fun _ => ⟨_, rfl, fun j hj => by
    obtain rfl : j = 0 := by omega
    exact cell_of (World.alloc_heap_new W _) rfl⟩⟩
def Std (w wr : World) : Prop := wr.heap[w.heap.size]? = some (.cells #[.int .i64 0, .map none, .map none, .bool false] 55 (0, 0)) ∧
  wr.heap[w.heap.size + 1]? = some (.cells #[.pointer none, .pointer (some ⟨w.heap.size, 0, none⟩)] 23 (0, 0)) ∧ Below w.heap.size w wr
theorem Std.alloc {w wr : World} (h : Std w wr) (o : Obj) : Std w (wr.alloc o) :=
  ⟨(heap_alloc_old _ _ _ (Array.getElem?_eq_some_iff.1 h.1).1).trans h.1, (heap_alloc_old _ _ _ (Array.getElem?_eq_some_iff.1 h.2.1).1).trans h.2.1, below_alloc h.2.2 _⟩

set_option maxRecDepth 100000 in
set_option maxHeartbeats 8000000 in
theorem PatchNobody_walk (n : Int) (w : World) (_ : (Lit.int .i64 n).wf = true) :
    Calls Try.prog 6 #[.int .i64 n] w fun e w' => e = .returned (.bool true) ∧ Below w.heap.size w w' := by
  have hms : ∀ W : World, (Instr.makeSlice 26 (.int .i64 128) (.int .i64 128)).run Try.prog W = .ok (.slice (some ⟨W.heap.size, 0, none⟩) 128 128) (W.alloc (.cells (madeCells #[.int .u8 0] 128) 5)) := print_make 26 5 .u8 1 Try.underlying26 infou8 (by decide) 128 (by decide)
  refine (callsIn_wide (n := 3)).1 ?_
  refine callsIn_of_wp Try.func6 rfl trivial ?_ rfl
  simp only [Try.ntmps6, List.size_toArray, List.length_cons, List.length_nil, Nat.reduceAdd, Nat.reduceSub, Array.replicate_succ, Array.replicate_zero, List.push_toArray, List.append_toArray, List.nil_append, List.cons_append]
  gi_wp2
  gi_loopw [21] (fun v21 wr => ∃ k : Nat, v21 = .int .i64 (k : Int) ∧ k ≤ 2 ∧ Std w wr) (fun v21 _ => 2 - (intOf v21).toNat)
  case atStart =>
    refine ⟨0, rfl, by decide, ?_, ?_, below_alloc (below_alloc (Below.refl _ _) _) _⟩
    · exact (heap_alloc_old _ _ _ (by simp)).trans (World.alloc_heap_new w _)
    · have := World.alloc_heap_new (w.alloc (.cells #[.int .i64 0, .map none, .map none, .bool false] 55)) (.cells #[.pointer none, .pointer (some ⟨w.heap.size, 0, none⟩)] 23)
      rwa [World.size_alloc] at this
  case round =>
    obtain ⟨k, rfl, hk, hst⟩ := hrel
    have hz := hst.1
    have hrw := hst.2.1
    have hbr := hst.2.2
    have c0 : wr.cell? ⟨w.heap.size + 1, 0, none⟩ = some (.pointer none) := cell_of hrw rfl
    have c1 : wr.cell? ⟨w.heap.size + 1, 1, none⟩ = some (.pointer (some ⟨w.heap.size, 0, none⟩)) := cell_of hrw rfl
    by_cases hk2 : k < 2
    · rcases (show k = 0 ∨ k = 1 by omega) with rfl | rfl
      · have hN : Nb wr none := .inl rfl
        gi_wp2_with (first | (refine ⟨trivial, ?_⟩; gi_at_call 12; refine (callsIn_wide.2 (add_nb _ _ _ _ _ _ (by (with_reducible repeat (first | exact hN | refine Nb.alloc ?_ _))))).mono ?_; rintro e w' ⟨rfl, hw⟩; rw [hw]; clear hw) | (refine ⟨trivial, ?_⟩; gi_at_call 26; refine (callsIn_wide.2 (now_nb _ _ _ _ (by (with_reducible repeat (first | exact hN | refine Nb.alloc ?_ _))))).mono ?_; rintro e w' ⟨rfl, hw⟩; rw [hw]; clear hw) | (refine ⟨trivial, ?_⟩; gi_at_call 16; refine (callsIn_wide.2 (plan_nb _ _ _ _ (by (with_reducible repeat (first | exact hN | refine Nb.alloc ?_ _))))).mono ?_; rintro e w' ⟨rfl, hw⟩; rw [hw]; clear hw) | (refine ⟨trivial, ?_⟩; gi_at_call 21; refine (callsIn_wide.2 (get_nb _ _ n (by (with_reducible repeat (first | exact hN | refine Nb.alloc ?_ _))))).mono ?_; rintro e w' ⟨rfl, hw⟩; rw [hw]; clear hw) | (refine ⟨trivial, ?_⟩; gi_at_call 23; refine (callsIn_wide.2 (done_nb _ _ _ (by (with_reducible repeat (first | exact hN | refine Nb.alloc ?_ _))))).mono ?_; rintro e w' ⟨rfl, hw⟩; rw [hw]; clear hw) | (refine ⟨trivial, ?_⟩; gi_at_call 13; refine (callsIn_wide.2 (undo_nb _ _ _ (by (with_reducible repeat (first | exact hN | refine Nb.alloc ?_ _))))).mono ?_; rintro e w' ⟨rfl, hw⟩; rw [hw]; clear hw) | (refine ⟨trivial, ?_⟩; gi_at_call 18; refine (callsIn_wide.2 (of_nb _ _ n (by (with_reducible repeat (first | exact hN | refine Nb.alloc ?_ _))))).mono ?_; rintro e w' ⟨rfl, hw⟩; rw [hw]; clear hw) | (refine ⟨trivial, ?_⟩; gi_at_call 15; refine (callsIn_wide.2 (blocks_nb _ _ (by (with_reducible repeat (first | exact hN | refine Nb.alloc ?_ _))))).mono ?_; rintro e w' ⟨rfl, hw⟩; rw [hw]; clear hw) | (refine ⟨trivial, ?_⟩; gi_at_call 24; refine (callsIn_wide.2 (closure_nb _ _ _ (by (with_reducible repeat (first | exact hN | refine Nb.alloc ?_ _))))).mono ?_; rintro e w' ⟨rfl, hw⟩; rw [hw]; clear hw) | (refine ⟨trivial, ?_⟩; gi_at_call 20; refine (callsIn_wide.2 (isdone_nb _ _ n (by (with_reducible repeat (first | exact hN | refine Nb.alloc ?_ _))))).mono ?_; rintro e w' ⟨rfl, hw⟩; rw [hw]; clear hw) | (refine ⟨trivial, ?_⟩; gi_at_call 11; refine (callsIn_wide.2 (last_nb _ _ (by (with_reducible repeat (first | exact hN | refine Nb.alloc ?_ _))))).mono ?_; rintro e w' ⟨rfl, hw⟩; rw [hw]; clear hw))
        go_roundw
        case rel => exact ⟨1, rfl, by decide, by (with_reducible repeat (first | exact hst | refine Std.alloc ?_ _))⟩
        case measure => decide
      · have hN : Nb wr (some ⟨w.heap.size, 0, none⟩) := .inr ⟨_, rfl, hz⟩
        gi_wp2_with (first | (refine ⟨trivial, ?_⟩; gi_at_call 12; refine (callsIn_wide.2 (add_nb _ _ _ _ _ _ (by (with_reducible repeat (first | exact hN | refine Nb.alloc ?_ _))))).mono ?_; rintro e w' ⟨rfl, hw⟩; rw [hw]; clear hw) | (refine ⟨trivial, ?_⟩; gi_at_call 26; refine (callsIn_wide.2 (now_nb _ _ _ _ (by (with_reducible repeat (first | exact hN | refine Nb.alloc ?_ _))))).mono ?_; rintro e w' ⟨rfl, hw⟩; rw [hw]; clear hw) | (refine ⟨trivial, ?_⟩; gi_at_call 16; refine (callsIn_wide.2 (plan_nb _ _ _ _ (by (with_reducible repeat (first | exact hN | refine Nb.alloc ?_ _))))).mono ?_; rintro e w' ⟨rfl, hw⟩; rw [hw]; clear hw) | (refine ⟨trivial, ?_⟩; gi_at_call 21; refine (callsIn_wide.2 (get_nb _ _ n (by (with_reducible repeat (first | exact hN | refine Nb.alloc ?_ _))))).mono ?_; rintro e w' ⟨rfl, hw⟩; rw [hw]; clear hw) | (refine ⟨trivial, ?_⟩; gi_at_call 23; refine (callsIn_wide.2 (done_nb _ _ _ (by (with_reducible repeat (first | exact hN | refine Nb.alloc ?_ _))))).mono ?_; rintro e w' ⟨rfl, hw⟩; rw [hw]; clear hw) | (refine ⟨trivial, ?_⟩; gi_at_call 13; refine (callsIn_wide.2 (undo_nb _ _ _ (by (with_reducible repeat (first | exact hN | refine Nb.alloc ?_ _))))).mono ?_; rintro e w' ⟨rfl, hw⟩; rw [hw]; clear hw) | (refine ⟨trivial, ?_⟩; gi_at_call 18; refine (callsIn_wide.2 (of_nb _ _ n (by (with_reducible repeat (first | exact hN | refine Nb.alloc ?_ _))))).mono ?_; rintro e w' ⟨rfl, hw⟩; rw [hw]; clear hw) | (refine ⟨trivial, ?_⟩; gi_at_call 15; refine (callsIn_wide.2 (blocks_nb _ _ (by (with_reducible repeat (first | exact hN | refine Nb.alloc ?_ _))))).mono ?_; rintro e w' ⟨rfl, hw⟩; rw [hw]; clear hw) | (refine ⟨trivial, ?_⟩; gi_at_call 24; refine (callsIn_wide.2 (closure_nb _ _ _ (by (with_reducible repeat (first | exact hN | refine Nb.alloc ?_ _))))).mono ?_; rintro e w' ⟨rfl, hw⟩; rw [hw]; clear hw) | (refine ⟨trivial, ?_⟩; gi_at_call 20; refine (callsIn_wide.2 (isdone_nb _ _ n (by (with_reducible repeat (first | exact hN | refine Nb.alloc ?_ _))))).mono ?_; rintro e w' ⟨rfl, hw⟩; rw [hw]; clear hw) | (refine ⟨trivial, ?_⟩; gi_at_call 11; refine (callsIn_wide.2 (last_nb _ _ (by (with_reducible repeat (first | exact hN | refine Nb.alloc ?_ _))))).mono ?_; rintro e w' ⟨rfl, hw⟩; rw [hw]; clear hw))
        go_roundw
        case rel => exact ⟨2, rfl, by decide, by (with_reducible repeat (first | exact hst | refine Std.alloc ?_ _))⟩
        case measure => decide
    · obtain rfl : k = 2 := by omega
      have hW0 : Below wr.heap.size wr ((((wr.alloc (.map #[] 0)).alloc (.map #[] 0)).alloc (.cells #[.int .i64 0, .map (some wr.heap.size), .map (some (wr.heap.size + 1)), .bool true] 55)).alloc (.cells #[.int .u8 1] 5)) := below_alloc (below_alloc (below_alloc (below_alloc (Below.refl _ _) _) _) _) _
      have hW1 : ((((wr.alloc (.map #[] 0)).alloc (.map #[] 0)).alloc (.cells #[.int .i64 0, .map (some wr.heap.size), .map (some (wr.heap.size + 1)), .bool true] 55)).alloc (.cells #[.int .u8 1] 5)).heap[wr.heap.size + 2]? = some (.cells #[.int .i64 0, .map (some wr.heap.size), .map (some (wr.heap.size + 1)), .bool true] 55 (0, 0)) := by
        refine (heap_alloc_old _ _ _ (by simp)).trans ?_
        have := World.alloc_heap_new ((wr.alloc (.map #[] 0)).alloc (.map #[] 0)) (.cells #[.int .i64 0, .map (some wr.heap.size), .map (some (wr.heap.size + 1)), .bool true] 55)
        rwa [World.size_alloc, World.size_alloc] at this
      have hW2 : ((((wr.alloc (.map #[] 0)).alloc (.map #[] 0)).alloc (.cells #[.int .i64 0, .map (some wr.heap.size), .map (some (wr.heap.size + 1)), .bool true] 55)).alloc (.cells #[.int .u8 1] 5)).heap[wr.heap.size + 1]? = some (.map #[] 0) := by
        refine (heap_alloc_old _ _ _ (by simp)).trans ((heap_alloc_old _ _ _ (by simp)).trans ?_)
        have := World.alloc_heap_new (wr.alloc (.map #[] 0)) (.map #[] 0)
        rwa [World.size_alloc] at this
      have hW3 := lit_row (((wr.alloc (.map #[] 0)).alloc (.map #[] 0)).alloc (.cells #[.int .i64 0, .map (some wr.heap.size), .map (some (wr.heap.size + 1)), .bool true] 55))
      rw [World.size_alloc, World.size_alloc, World.size_alloc] at hW3
      gi_wp2_with (first | (refine ⟨trivial, ?_⟩; gi_at_call 27; refine (callsIn_wide.2 (New_ok _)).mono ?_; rintro e w' ⟨rfl, hw⟩; rw [hw]; clear hw) | (refine ⟨trivial, ?_⟩; gi_at_call 12; refine (callsIn_wide.2 (Add_ok _ _ _ _ _ 1 hW1 hW2 hW3 (Nat.le_refl _))).mono ?_; rintro e w2 ⟨rfl, hb2, hk2⟩))
      go_ret
      have hsz := hW0.size
      have hs := hbr.size
      refine ⟨rfl, hbr.trans ((hW0.mono hs).trans ⟨hb2.os, hb2.tape, hb2.output, hb2.size, fun k hk => hk2 k (by simp; omega) (by omega) (by omega)⟩)⟩
end Go.Proofs.Ytijgfcpffjjlfaa.Nb
