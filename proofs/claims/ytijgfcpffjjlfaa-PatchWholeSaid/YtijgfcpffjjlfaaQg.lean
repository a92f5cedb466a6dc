/- Written by a program of this session. patch.New, and bollardlaw07.awake. -/
import Derived.Test.YtijgfcpffjjlfaaQe
namespace Go.Proofs.Ytijgfcpffjjlfaa.Pq
open Go Go.RowKit Go.Shelf Go.Proofs Go.Maps Go.Sort Go.Proofs.Ytijgfcpffjjlfaa.XFb Go.Proofs.YtijgfcpffjjlfaaW.PrintWords Go.Proofs.YtijgfcpffjjlfaaW.PrintLast Go.Proofs.YtijgfcpffjjlfaaW.PrintMore
set_option linter.unusedVariables false
set_option linter.unusedSimpArgs false
theorem eqi_l (l : List Int) (hl : l.length ≤ 140737488355328) (d : Nat) : ∀ (k i : Nat), i + d = l.length → d < k → slices_Equal_int_int.l0 k l l (l.length : Int) (i : Int) = some true := by
  induction d with
  | zero =>
    intro k i hi hk
    obtain ⟨k, rfl⟩ : ∃ m, k = m + 1 := ⟨k - 1, by omega⟩
    simp only [slices_Equal_int_int.l0]
    rw [if_neg (by omega)]
  | succ d ih =>
    intro k i hi hk
    obtain ⟨k, rfl⟩ : ∃ m, k = m + 1 := ⟨k - 1, by omega⟩
    simp only [slices_Equal_int_int.l0]
    rw [if_pos (by omega), if_pos (by omega), if_pos (by omega), if_pos (by omega), if_pos trivial, show wrap64 ((i : Int) + 1) = ((i + 1 : Nat) : Int) by unfold wrap64; omega]
    exact ih k (i + 1) (by omega) (by omega)
theorem eqi_f (l : List Int) (hl : l.length ≤ 140737488355328) (k : Nat) (hk : l.length < k) : slices_Equal_int_int.f k l l = some true := by
  unfold slices_Equal_int_int.f
  rw [if_pos rfl]
  exact eqi_l l hl l.length k 0 (by omega) hk
theorem infou8 : (Try.prog.info? 5).map (fun i => (i.zero, i.size, i.bytes)) = some (some (.int .u8 0), 1, 1) := by kernel_rfl
theorem lit_row (W : World) (k : IntKind) (t : TypeId) (x : Int) : Kd.C (Kd.int k) (W.alloc (.cells #[.int k x] t)) (some ⟨W.heap.size, 0, none⟩) 1 [x] :=
  Kd.C_of_reads (d := (0 : Int)) (enc := Value.int k) (h1 := fun _ => rfl) ⟨rfl, by decide, fun _ => ⟨_, rfl, fun j hj => by
    obtain rfl : j = 0 := by omega
    exact cell_of (World.alloc_heap_new W _) rfl⟩⟩
set_option maxRecDepth 100000 in
set_option maxHeartbeats 8000000 in
theorem New_ok (W : World) :
    Calls Try.prog 27 #[] W fun e W' => e = .returned (.pointer (some ⟨W.heap.size + 2, 0, none⟩)) ∧ IsSet W' W.heap.size (W.heap.size + 2) (W.heap.size + 1) W.heap.size (fun _ => False) [] 0 0 ∧ Below W.heap.size W W' := by
  have h1 : ∀ W : World, (Instr.makeMap 52 none).run Try.prog W = .ok (.map (some W.heap.size)) (W.alloc (.map #[] 0)) := fun _ => rfl
  have h2 : ∀ W : World, (Instr.makeMap 53 none).run Try.prog W = .ok (.map (some W.heap.size)) (W.alloc (.map #[] 0)) := fun _ => rfl
  refine (callsIn_wide (n := 1)).1 ?_
  refine callsIn_of_wp Try.func27 rfl trivial ?_ rfl
  simp only [Try.ntmps27, List.size_toArray, List.length_cons, List.length_nil, Nat.reduceAdd, Nat.reduceSub, Array.replicate_succ, Array.replicate_zero, List.push_toArray, List.append_toArray, List.nil_append, List.cons_append]
  gi_wp2
  go_ret
  have hd := World.ownsMap_made W Try.prog 3 (unitElem (H := Unit))
  have hm := World.ownsMap_made (W.alloc (.map #[] 0)) Try.prog 3 patR
  rw [World.size_alloc] at hm
  have hg := World.alloc_heap_new ((W.alloc (.map #[] 0)).alloc (.map #[] 0)) (.cells #[.int .i64 0, .map (some W.heap.size), .map (some (W.heap.size + 1)), .bool true] 55)
  rw [World.size_alloc, World.size_alloc] at hg
  refine ⟨rfl, ⟨Fits.nil, hg, ⟨_, hm.alloc _, fun i => rfl, fun p hp => by cases hp⟩, ⟨_, (hd.alloc _).alloc _, fun i => ?_⟩, by omega, fun k hk => hk.elim, by omega, by omega, Nat.le_refl _, fun k hk => hk.elim⟩, below_alloc (below_alloc (below_alloc (Below.refl _ _) _) _) _⟩
  exact (decide_eq_false (fun hh => by omega)).symm
theorem blks_one (b : Int) (p : Pt) (h : p.blk = b) : blksL [p] = [b] := by
  refine (sc_rises _).1.eq (List.pairwise_singleton _ _) (fun x => ?_)
  rw [(sc_rises _).2]
  simp [h]
set_option maxRecDepth 100000 in
set_option maxHeartbeats 8000000 in
theorem awake_ok (W : World) :
    Calls Try.prog 19 #[] W fun e W' => e = .returned (.bool true) ∧ Below W.heap.size W W' := by
  have hE : addE 0 1 0 [1] [] = 0 := by decide
  have hl1 : addL [] 0 1 0 [1] [] = [newP [] 0 1 0 [1] []] := by unfold addL; rw [if_pos hE]; rfl
  have hn1 : addN 0 1 0 [1] [] = 1 := by unfold addN; rw [if_pos hE]; rfl
  have hr1 : addR 0 1 0 [1] [] = 1 := by unfold addR; rw [if_pos hE]; rfl
  have HE := Aside0.mk (And.intro hE (And.intro hl1 (And.intro hn1 hr1)))
  have HQ := Aside0.mk (eqi_f [1] (by simp) 2 (by simp))
  have HB := Aside0.mk (blks_one 1 (newP [] 0 1 0 [1] []) rfl)
  clear hE hl1 hn1 hr1
  refine (callsIn_wide (n := 1)).1 ?_
  refine callsIn_of_wp Try.func19 rfl trivial ?_ rfl
  simp only [Try.ntmps19, List.size_toArray, List.length_cons, List.length_nil, Nat.reduceAdd, Nat.reduceSub, Array.replicate_succ, Array.replicate_zero, List.push_toArray, List.append_toArray, List.nil_append, List.cons_append]
  gi_wp2_with (first
    | (refine ⟨trivial, ?_⟩; gi_at_call 27; refine (callsIn_wide.2 (New_ok W)).mono ?_; rintro e W2 ⟨rfl, hs, hb⟩; have HS2 := Aside0.mk (hs.below (below_alloc (Below.refl _ _) (.cells #[.int .u8 1] 5))); have HB2 := Aside0.mk hb; have hz2 := hb.size; clear hs hb)
    | (refine ⟨trivial, ?_⟩; gi_at_call 12; refine (callsIn_wide.2 (add_ok HS2.out (by omega) 1 0 (by decide) (some ⟨W2.heap.size, 0, none⟩) 1 [1] (lit_row W2 .u8 5 1) (Nat.le_refl 1) (by simp) (b9 := 0) (S9 := fun _ => True) none 0 [] (Kd.R_nil _ _ _ _ _) (fun x hx => by cases hx) (by simp) (by omega) (by simp; omega))).mono ?_; rintro e W3 ⟨rfl, S3, hs, hS3, hk⟩; rw [HE.out.2.1, HE.out.2.2.1] at hs; rw [HE.out.1, HE.out.2.2.2]; have HS3 := Aside0.mk hs; have HB3 := Aside0.mk (show Below W.heap.size W W3 from (below_alloc HB2.out (.cells #[.int .u8 1] 5)).trans (hk.below (fun k hk => by omega) (by simp; omega))); clear hs hS3 hk)
    | (refine ⟨trivial, ?_⟩; gi_at_call 11; refine (callsIn_wide.2 (last_ok HS3.out)).mono ?_; rintro e w1 ⟨rfl, hw⟩; rw [hw]; clear hw)
    | (refine ⟨trivial, ?_⟩; gi_at_call 20; refine (callsIn_wide.2 (isdone_ok HS3.out 1 (by decide))).mono ?_; rintro e W4 ⟨rfl, hb⟩; rw [show decide ((1 : Int) ≤ 1 ∧ (1 : Int) ≤ 1 ∧ (1 : Int) ∉ ids [newP [] 0 1 0 [1] []]) = false from by decide]; have HS4 := Aside0.mk (HS3.out.below hb); have HB4 := Aside0.mk (below_step HB3.out hb HB3.out.size); clear hb)
    | (refine ⟨trivial, ?_⟩; gi_at_call 15; refine (callsIn_wide.2 (blocks_ok HS4.out (by omega))).mono ?_; rintro e W5 ⟨v5, rfl, hr, hb⟩; rw [HB.out] at hr; have hr2 := Kd.R_below hr (below_alloc (Below.refl _ _) (.cells #[.int .i64 1] 3)); obtain ⟨A5, c5, rfl⟩ := Kd.R_slice hr; have HR5 := Aside0.mk hr2; have HB5 := Aside0.mk (below_alloc (below_step HB4.out hb HB4.out.size) (.cells #[.int .i64 1] 3)); clear hr hr2 hb)
    | (refine ⟨trivial, ?_⟩; gi_at_call 14; refine (callsIn_wide.2 (slices_Equal_int_int.calls 2 A5 c5 [1] (some ⟨W5.heap.size, 0, none⟩) 1 [1] true _ (Kd.R_reads' HR5.out).2.2 (Kd.R_reads' HR5.out).2.1 (lit_row W5 .i64 3 1) (Nat.le_refl 1) HQ.out)).mono ?_; rintro e W6 ⟨rfl, hd⟩; have HB6 := Aside0.mk (below_step HB5.out hd.below HB5.out.size); clear hd))
  go_ret
  exact ⟨rfl, HB6.out⟩
end Go.Proofs.Ytijgfcpffjjlfaa.Pq
