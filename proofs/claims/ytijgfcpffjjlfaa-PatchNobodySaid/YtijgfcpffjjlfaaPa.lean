/- Written by a program of this session. A new set of patches, and one patch added to it. -/
import Derived.Test.YtijgfcpffjjlfaaPb
import Derived.Laws.IdiomRangeMap
import Derived.WideMake
import Derived.Test.YtijgfcpffjjlfaaWInvWords
namespace Go.Proofs.Ytijgfcpffjjlfaa.Nb
open Go Go.RowKit Go.Shelf Go.Proofs Go.Proofs.YtijgfcpffjjlfaaW.PrintWords Go.Proofs.YtijgfcpffjjlfaaW.PrintLast Go.Proofs.YtijgfcpffjjlfaaW.PrintMore
set_option linter.unusedVariables false
set_option linter.unusedSimpArgs false

set_option maxRecDepth 100000 in
set_option maxHeartbeats 2000000 in
theorem len0 (W : World)  :
    Calls Try.prog 92 #[.int .u64 0] W fun e w' => e = .returned (.int .i64 0) ∧ w' = W := by
  refine (callsIn_wide (n := 1)).1 ?_
  refine callsIn_of_wp Try.func92 rfl trivial ?_ rfl
  simp only [Try.ntmps92, List.size_toArray, List.length_cons, List.length_nil, Nat.reduceAdd, Nat.reduceSub, Array.replicate_succ, Array.replicate_zero, List.push_toArray, List.append_toArray, List.nil_append, List.cons_append]
  gi_wp2
  go_ret
  exact ⟨by first | kernel_rfl | decide +kernel, rfl⟩

set_option maxRecDepth 100000 in
set_option maxHeartbeats 2000000 in
theorem blen0 (W : World)  :
    Calls Try.prog 74 #[.int .u64 0] W fun e w' => e = .returned (.int .i64 0) ∧ w' = W := by
  refine (callsIn_wide (n := 1)).1 ?_
  refine callsIn_of_wp Try.func74 rfl trivial ?_ rfl
  simp only [Try.ntmps74, List.size_toArray, List.length_cons, List.length_nil, Nat.reduceAdd, Nat.reduceSub, Array.replicate_succ, Array.replicate_zero, List.push_toArray, List.append_toArray, List.nil_append, List.cons_append]
  gi_wp2_with (first | (refine ⟨trivial, ?_⟩; gi_at_call 92; refine (callsIn_wide.2 (len0 _)).mono ?_; rintro e w' ⟨rfl, hw⟩; rw [hw]; clear hw))
  go_ret
  exact ⟨rfl, rfl⟩

set_option maxRecDepth 100000 in
set_option maxHeartbeats 2000000 in
theorem isort0 (W : World) (s : Value) :
    Calls Try.prog 83 #[s, .int .i64 0, .int .i64 0] W fun e w' => e = .returned (.tuple #[]) ∧ w' = W := by
  refine (callsIn_wide (n := 1)).1 ?_
  refine callsIn_of_wp Try.func83 rfl trivial ?_ rfl
  simp only [Try.ntmps83, List.size_toArray, List.length_cons, List.length_nil, Nat.reduceAdd, Nat.reduceSub, Array.replicate_succ, Array.replicate_zero, List.push_toArray, List.append_toArray, List.nil_append, List.cons_append]
  gi_wp2
  gi_loopw [6] (fun v6 w' => v6 = .int .i64 1 ∧ w' = W) (fun _ _ => 0)
  case atStart => exact ⟨rfl, rfl⟩
  case round =>
    obtain ⟨rfl, rfl⟩ := hrel
    gi_wp2
    go_end0
    exact ⟨rfl, rfl⟩

set_option maxRecDepth 100000 in
set_option maxHeartbeats 2000000 in
theorem pdq0 (W : World) (s l : Value) :
    Calls Try.prog 73 #[s, .int .i64 0, .int .i64 0, l] W fun e w' => e = .returned (.tuple #[]) ∧ w' = W := by
  refine (callsIn_wide (n := 1)).1 ?_
  refine callsIn_of_wp Try.func73 rfl trivial ?_ rfl
  simp only [Try.ntmps73, List.size_toArray, List.length_cons, List.length_nil, Nat.reduceAdd, Nat.reduceSub, Array.replicate_succ, Array.replicate_zero, List.push_toArray, List.append_toArray, List.nil_append, List.cons_append]
  gi_wp2
  gi_loopw [1, 2] (fun v1 v2 w' => v1 = .int .i64 0 ∧ v2 = .int .i64 0 ∧ w' = W) (fun _ _ _ => 0)
  case atStart => exact ⟨rfl, rfl, rfl⟩
  case round =>
    obtain ⟨rfl, rfl, rfl⟩ := hrel
    gi_wp2_with (first | (refine ⟨trivial, ?_⟩; gi_at_call 83; refine (callsIn_wide.2 (isort0 _ _)).mono ?_; rintro e w' ⟨rfl, hw⟩; rw [hw]; clear hw))
    refine bodyPost_ret (results_none rfl _ _ _) rfl ?_
    exact ⟨rfl, rfl⟩

set_option maxRecDepth 100000 in
set_option maxHeartbeats 2000000 in
theorem sort0 (W : World)  :
    Calls Try.prog 48 #[.slice none 0 0] W fun e w' => e = .returned (.tuple #[]) ∧ w' = W := by
  refine (callsIn_wide (n := 1)).1 ?_
  refine callsIn_of_wp Try.func48 rfl trivial ?_ rfl
  simp only [Try.ntmps48, List.size_toArray, List.length_cons, List.length_nil, Nat.reduceAdd, Nat.reduceSub, Array.replicate_succ, Array.replicate_zero, List.push_toArray, List.append_toArray, List.nil_append, List.cons_append]
  gi_wp2_with (first | (refine ⟨trivial, ?_⟩; gi_at_call 74; refine (callsIn_wide.2 (blen0 _)).mono ?_; rintro e w' ⟨rfl, hw⟩; rw [hw]; clear hw) | (refine ⟨trivial, ?_⟩; gi_at_call 73; refine (callsIn_wide.2 (pdq0 _ _ _)).mono ?_; rintro e w' ⟨rfl, hw⟩; rw [hw]; clear hw))
  go_end0
  exact ⟨rfl, rfl⟩

set_option maxRecDepth 100000 in
set_option maxHeartbeats 2000000 in
theorem compact0 (W : World)  :
    Calls Try.prog 49 #[.slice none 0 0] W fun e w' => e = .returned (.slice none 0 0) ∧ w' = W := by
  refine (callsIn_wide (n := 1)).1 ?_
  refine callsIn_of_wp Try.func49 rfl trivial ?_ rfl
  simp only [Try.ntmps49, List.size_toArray, List.length_cons, List.length_nil, Nat.reduceAdd, Nat.reduceSub, Array.replicate_succ, Array.replicate_zero, List.push_toArray, List.append_toArray, List.nil_append, List.cons_append]
  gi_wp2
  go_ret
  exact ⟨rfl, rfl⟩

set_option maxRecDepth 100000 in
set_option maxHeartbeats 2000000 in
theorem pending0 (W : World) (p : Option Addr) :
    Calls Try.prog 47 #[.pointer p, .slice none 0 0] W fun e w' => e = .returned (.slice none 0 0) ∧ w' = W := by
  refine (callsIn_wide (n := 1)).1 ?_
  refine callsIn_of_wp Try.func47 rfl trivial ?_ rfl
  simp only [Try.ntmps47, List.size_toArray, List.length_cons, List.length_nil, Nat.reduceAdd, Nat.reduceSub, Array.replicate_succ, Array.replicate_zero, List.push_toArray, List.append_toArray, List.nil_append, List.cons_append]
  gi_wp2
  gi_loopw [5, 12] (fun v5 v12 w' => v5 = .slice none 0 0 ∧ v12 = .int .i64 0 ∧ w' = W) (fun _ _ _ => 0)
  case atStart => exact ⟨rfl, rfl, rfl⟩
  case round =>
    obtain ⟨rfl, rfl, rfl⟩ := hrel
    gi_wp2_with (first | (refine ⟨trivial, ?_⟩; gi_at_call 48; refine (callsIn_wide.2 (sort0 _)).mono ?_; rintro e w' ⟨rfl, hw⟩; rw [hw]; clear hw) | (refine ⟨trivial, ?_⟩; gi_at_call 49; refine (callsIn_wide.2 (compact0 _)).mono ?_; rintro e w' ⟨rfl, hw⟩; rw [hw]; clear hw))
    go_ret
    exact ⟨rfl, rfl⟩

set_option maxRecDepth 100000 in
set_option maxHeartbeats 2000000 in
theorem index0 (W : World) (f : Value) :
    Calls Try.prog 72 #[.slice none 0 0, f] W fun e w' => e = .returned (.int .i64 (-1)) ∧ w' = W := by
  refine (callsIn_wide (n := 1)).1 ?_
  refine callsIn_of_wp Try.func72 rfl trivial ?_ rfl
  simp only [Try.ntmps72, List.size_toArray, List.length_cons, List.length_nil, Nat.reduceAdd, Nat.reduceSub, Array.replicate_succ, Array.replicate_zero, List.push_toArray, List.append_toArray, List.nil_append, List.cons_append]
  gi_wp2
  gi_loopw [8] (fun v8 w' => v8 = .int .i64 0 ∧ w' = W) (fun _ _ => 0)
  case atStart => exact ⟨rfl, rfl⟩
  case round =>
    obtain ⟨rfl, rfl⟩ := hrel
    gi_wp2
    go_ret
    exact ⟨rfl, rfl⟩

set_option maxRecDepth 100000 in
set_option maxHeartbeats 2000000 in
theorem contains0 (W : World) (f : Value) :
    Calls Try.prog 41 #[.slice none 0 0, f] W fun e w' => e = .returned (.bool false) ∧ w' = W := by
  refine (callsIn_wide (n := 1)).1 ?_
  refine callsIn_of_wp Try.func41 rfl trivial ?_ rfl
  simp only [Try.ntmps41, List.size_toArray, List.length_cons, List.length_nil, Nat.reduceAdd, Nat.reduceSub, Array.replicate_succ, Array.replicate_zero, List.push_toArray, List.append_toArray, List.nil_append, List.cons_append]
  gi_wp2_with (first | (refine ⟨trivial, ?_⟩; gi_at_call 72; refine (callsIn_wide.2 (index0 _ _)).mono ?_; rintro e w' ⟨rfl, hw⟩; rw [hw]; clear hw))
  go_ret
  exact ⟨rfl, rfl⟩

set_option maxRecDepth 100000 in
set_option maxHeartbeats 2000000 in
theorem clone0 (W : World)  :
    Calls Try.prog 45 #[.slice none 0 0] W fun e w' => e = .returned (.slice none 0 0) ∧ w' = W := by
  have E1 : ∀ (n c : Nat) (W : World), (binOp .eql 27 (.slice none n c) (.slice none 0 0)).run Try.prog W = .ok (.bool true) W := fun n c W => by rfl
  refine (callsIn_wide (n := 1)).1 ?_
  refine callsIn_of_wp Try.func45 rfl trivial ?_ rfl
  simp only [Try.ntmps45, List.size_toArray, List.length_cons, List.length_nil, Nat.reduceAdd, Nat.reduceSub, Array.replicate_succ, Array.replicate_zero, List.push_toArray, List.append_toArray, List.nil_append, List.cons_append]
  gi_wp2
  go_ret
  exact ⟨rfl, rfl⟩

set_option maxRecDepth 100000 in
set_option maxHeartbeats 2000000 in
theorem fits1 (W : World) (a : Option Addr) (c : Nat) :
    Calls Try.prog 40 #[.int .i64 3, .int .i64 5, .slice a 1 c] W fun e w' => e = .returned (.bool true) ∧ w' = W := by
  refine (callsIn_wide (n := 1)).1 ?_
  refine callsIn_of_wp Try.func40 rfl trivial ?_ rfl
  simp only [Try.ntmps40, List.size_toArray, List.length_cons, List.length_nil, Nat.reduceAdd, Nat.reduceSub, Array.replicate_succ, Array.replicate_zero, List.push_toArray, List.append_toArray, List.nil_append, List.cons_append]
  gi_wp2
  go_ret
  exact ⟨rfl, rfl⟩

set_option maxRecDepth 100000 in
set_option maxHeartbeats 2000000 in
theorem own_made (W : World) (g : Nat) (x y z : Value) (h : W.heap[g]? = some (.cells #[x, y, z, .bool true] 55 (0, 0))) :
    Calls Try.prog 39 #[.pointer (some ⟨g, 0, none⟩)] W fun e w' => e = .returned (.bool true) ∧ w' = W := by
  have c3 : W.cell? ⟨g, 3, none⟩ = some (.bool true) := cell_of h rfl
  refine (callsIn_wide (n := 1)).1 ?_
  refine callsIn_of_wp Try.func39 rfl trivial ?_ rfl
  simp only [Try.ntmps39, List.size_toArray, List.length_cons, List.length_nil, Nat.reduceAdd, Nat.reduceSub, Array.replicate_succ, Array.replicate_zero, List.push_toArray, List.append_toArray, List.nil_append, List.cons_append]
  gi_wp2
  go_ret
  exact ⟨rfl, rfl⟩

set_option maxRecDepth 100000 in
set_option maxHeartbeats 2000000 in
theorem New_ok (W : World)  :
    Calls Try.prog 27 #[] W fun e w' => e = .returned (.pointer (some ⟨W.heap.size + 2, 0, none⟩)) ∧ w' = ((W.alloc (.map #[] 0)).alloc (.map #[] 0)).alloc (.cells #[.int .i64 0, .map (some W.heap.size), .map (some (W.heap.size + 1)), .bool true] 55) := by
  have h1 : ∀ W : World, (Instr.makeMap 52 none).run Try.prog W = .ok (.map (some W.heap.size)) (W.alloc (.map #[] 0)) := fun _ => rfl
  have h2 : ∀ W : World, (Instr.makeMap 53 none).run Try.prog W = .ok (.map (some W.heap.size)) (W.alloc (.map #[] 0)) := fun _ => rfl
  refine (callsIn_wide (n := 1)).1 ?_
  refine callsIn_of_wp Try.func27 rfl trivial ?_ rfl
  simp only [Try.ntmps27, List.size_toArray, List.length_cons, List.length_nil, Nat.reduceAdd, Nat.reduceSub, Array.replicate_succ, Array.replicate_zero, List.push_toArray, List.append_toArray, List.nil_append, List.cons_append]
  gi_wp2
  go_ret
  exact ⟨rfl, rfl⟩

theorem clone1 (A : Option Addr) (c : Nat) (W : World) (hs : Kd.C (Kd.int .u8) W A 1 [1]) (hc : 1 ≤ c) : Calls Try.prog 44 #[.slice A 1 c] W fun e w' => ∃ ad cp, e = .returned (.slice (some ad) 1 cp) ∧ Below W.heap.size W w' := by
  refine (XPn.slices_Clone_byte_byte.calls A c [1] [1] W hs hc (by simp [XPn.slices_Clone_byte_byte.f])).mono ?_
  rintro e w' ⟨v, rfl, hr, hb⟩
  obtain ⟨ad, cp, rfl⟩ := Kd.R_slice1 hr (by simp)
  exact ⟨ad, cp, rfl, hb⟩
/-- Inside Add: the box of s and all that lay. -/
def AS (w : World) (g : Nat) (W : World) : Prop := W.heap[w.heap.size]? = some (.cells #[.pointer (some ⟨g, 0, none⟩)] 23 (0, 0)) ∧ Below w.heap.size w W
theorem AS.below {w W W' : World} {g : Nat} (h : AS w g W) (hb : Below W.heap.size W W') : AS w g W' :=
  ⟨(hb.block _ (Array.getElem?_eq_some_iff.1 h.1).1).trans h.1, h.2.trans (hb.mono h.2.size)⟩
theorem AS.alloc {w W : World} {g : Nat} (h : AS w g W) (o : Obj) : AS w g (W.alloc o) := h.below (below_alloc (Below.refl _ _) o)
theorem AS.set {w W : World} {g b i : Nat} (h : AS w g W) (hb : w.heap.size < b) (v : Value) : AS w g (W.setCell ⟨b, i, none⟩ v) :=
  ⟨(Below.heap_setCell _ _ _ _ (by simp; omega)).trans h.1, h.2.setCell (p := ⟨b, i, none⟩) (by simp; omega) v⟩
theorem AS.lay {w W : World} {g : Nat} (h : AS w g W) : Below w.heap.size w W := h.2
theorem AS.mk_ (w : World) (g : Nat) : AS w g (w.alloc (.cells #[.pointer (some ⟨g, 0, none⟩)] 23)) := ⟨World.alloc_heap_new w _, below_alloc (Below.refl _ _) _⟩
theorem AS.box {w W : World} {g : Nat} (h : AS w g W) : W.cell? ⟨w.heap.size, 0, none⟩ = some (.pointer (some ⟨g, 0, none⟩)) := cell_of h.1 rfl
theorem AS.cell {w W : World} {g i : Nat} {cs : Array Value} {v : Value} (h : AS w g W) (hg : w.heap[g]? = some (.cells cs 55 (0, 0))) (hv : cs[i]? = some v) : W.cell? ⟨g, i, none⟩ = some v :=
  cell_of ((h.2.block g (Array.getElem?_eq_some_iff.1 hg).1).trans hg) hv
theorem set_heap {W : World} {b o : Nat} {cs : Array Value} {t : TypeId} (h : W.heap[b]? = some (.cells cs t (0, 0))) (v : Value) :
    (W.setCell ⟨b, o, none⟩ v).heap[b]? = some (.cells (cs.setIfInBounds o v) t (0, 0)) := by
  obtain ⟨hlt, hk⟩ := Array.getElem?_eq_some_iff.1 h
  show (W.heap.modify b _)[b]? = _
  rw [Array.getElem?_eq_getElem (by rw [Array.size_modify]; exact hlt), Array.getElem_modify_self, hk]
  rfl
theorem run_put (m : Nat) (k : Int) (val : Value) (W : World) (hb : W.heap[m]? = some (.map #[] 0)) :
    (Instr.mapUpdate 53 (.map (some m)) (.int .i64 k) val).run Try.prog W = .ok () { W with heap := W.heap.setIfInBounds m (.map #[{ key := .int .i64 k, val := val, born := 0 }] 1) } := by
  have hf : Instr.findNow (.int .i64) (.int .i64 k) ([] : List MapEntry) 0 = some none := rfl
  have hk : Try.prog.underlying 3 = some (.int .i64) := Try.underlying3
  have hc : (Instr.checkKey false 10000 3 (.int .i64 k)).run Try.prog W = .ok () W := MapKept.run_checkKey (k := .int .i64 k) hk (by simp [MapKept.IsKey]) false 9999
  simp [Instr.mapUpdate, run_underlying Try.underlying53, MapKept.run_getObj_map hb, hc, MapKept.run_findKey hk hf, MapKept.run_setObj_map _ hb, Result.andThen]

set_option maxRecDepth 100000 in
set_option maxHeartbeats 2000000 in
theorem Add_ok (w : World) (g m1 m2 : Nat) (a : Addr) (c : Nat) (hg : w.heap[g]? = some (.cells #[.int .i64 0, .map (some m1), .map (some m2), .bool true] 55 (0, 0))) (hm : w.heap[m2]? = some (.map #[] 0))
    (hs : Kd.C (Kd.int .u8) w (some a) 1 [1]) (hc : 1 ≤ c) :
    Calls Try.prog 12 #[.pointer (some ⟨g, 0, none⟩), .int .i64 3, .int .i64 5, .slice (some a) 1 c, .slice none 0 0] w fun e w' => e = .returned (.tuple #[.int .i64 1, .int .i64 0]) ∧ Below 0 w w' ∧ ∀ k, k < w.heap.size → k ≠ g → k ≠ m2 → w'.heap[k]? = w.heap[k]? := by
  refine (callsIn_wide (n := 1)).1 ?_
  refine callsIn_of_wp Try.func12 rfl trivial ?_ rfl
  simp only [Try.ntmps12, List.size_toArray, List.length_cons, List.length_nil, Nat.reduceAdd, Nat.reduceSub, Array.replicate_succ, Array.replicate_zero, List.push_toArray, List.append_toArray, List.nil_append, List.cons_append]
  have hA := AS.mk_ w g
  have cb := hA.box
  gi_wp2_with (first | (refine ⟨trivial, ?_⟩; gi_at_call 39; refine (callsIn_wide.2 (own_made _ _ _ _ _ (by first | exact (heap_alloc_old _ _ _ (Array.getElem?_eq_some_iff.1 hg).1).trans hg))).mono ?_; rintro e w' ⟨rfl, hw⟩; rw [hw]; clear hw) | (refine ⟨trivial, ?_⟩; gi_at_call 40; refine (callsIn_wide.2 (fits1 _ _ _)).mono ?_; rintro e w' ⟨rfl, hw⟩; rw [hw]; clear hw) | (refine ⟨trivial, ?_⟩; gi_at_call 41; refine (callsIn_wide.2 (contains0 _ _)).mono ?_; rintro e w' ⟨rfl, hw⟩; rw [hw]; clear hw))
  obtain ⟨W1, hW1⟩ : ∃ W1, w.alloc (.cells #[.pointer (some ⟨g, 0, none⟩)] 23) = W1 := ⟨_, rfl⟩
  have HA := Aside0.mk (show AS w g W1.drew by rw [← hW1]; exact hA.below ⟨rfl, rfl, rfl, Nat.le_refl _, fun _ _ => rfl⟩)
  have HS1 := Aside0.mk (show w.heap.size < W1.drew.heap.size by rw [← hW1]; show w.heap.size < (w.alloc _).heap.size; simp)
  rw [hW1]
  clear hA cb
  refine wpIn_wide.2 ?_
  refine start_ (n := 12) (S := fun w' => w'.cell? ⟨w.heap.size, 0, none⟩ = some (.pointer (some ⟨g, 0, none⟩)) ∧ w'.cell? ⟨g, 0, none⟩ = some (.int .i64 0)) (ds := [11]) #[false, false, false, false, false, false, false, false, false, false, false, false] (by kernel_rfl) rfl rfl ⟨(HA.out.box), (HA.out.cell (i := 0) hg rfl)⟩ (fun hHeld => ?_)
  generalize W1.drew = W2 at HA HS1 hHeld ⊢
  refine pure_ (i := 5) (N := some 35) (v := ?_) (a' := ?_) #[false, false, false, false, false, true, false, false, false, false, false, false] rfl rfl (by kernel_rfl) (fun _ _ _ h => h) (Or.inl ⟨by rfl, ?_⟩) ?_ ?_
  rotate_left
  · intro w'
    go_simp
    with_reducible rfl
  rotate_left
  · simp only [Act.put, List.setIfInBounds_toArray, List.set_cons_zero, List.set_cons_succ, i64_w, i32_w]
    rfl
  refine pure_ (i := 6) (N := some 36) (v := ?_) (a' := ?_) #[false, false, false, false, false, true, true, false, false, false, false, false] rfl rfl (by kernel_rfl) (fun _ _ _ h => h) (Or.inl ⟨by rfl, ?_⟩) ?_ ?_
  rotate_left
  · intro w'
    go_simp
    with_reducible rfl
  rotate_left
  · simp only [Act.put, List.setIfInBounds_toArray, List.set_cons_zero, List.set_cons_succ, i64_w, i32_w]
    rfl
  refine pure_ (i := 7) (N := some 37) (v := ?_) (a' := ?_) #[false, false, false, false, false, true, true, true, false, false, false, false] rfl rfl (by kernel_rfl) (fun _ _ _ h => h) (Or.inl ⟨by rfl, ?_⟩) ?_ ?_
  rotate_left
  · intro w'
    go_simp
    with_reducible rfl
  rotate_left
  · simp only [Act.put, List.setIfInBounds_toArray, List.set_cons_zero, List.set_cons_succ, i64_w, i32_w]
    rfl
  refine take_ (i := 0) (N := some 30) (v := ?_) (a' := ?_) #[true, false, false, false, false, true, true, true, false, false, false, false] rfl rfl (by kernel_rfl) (fun _ _ _ h => h) (Or.inl ⟨by rfl, ?_⟩) hHeld ?_ ?_
  rotate_left
  · rintro w' ⟨s0, s1⟩
    go_simp
    with_reducible rfl
  rotate_left
  · simp only [Act.put, List.setIfInBounds_toArray, List.set_cons_zero, List.set_cons_succ, i64_w, i32_w]
    rfl
  refine pure_ (i := 1) (N := some 31) (v := ?_) (a' := ?_) #[true, true, false, false, false, true, true, true, false, false, false, false] rfl rfl (by kernel_rfl) (fun _ _ _ h => h) (Or.inl ⟨by rfl, ?_⟩) ?_ ?_
  rotate_left
  · intro w'
    go_simp
    with_reducible rfl
  rotate_left
  · simp only [Act.put, List.setIfInBounds_toArray, List.set_cons_zero, List.set_cons_succ, i64_w, i32_w]
    rfl
  refine pure_ (i := 2) (N := some 32) (v := ?_) (a' := ?_) #[true, true, true, false, false, true, true, true, false, false, false, false] rfl rfl (by kernel_rfl) (fun _ _ _ h => h) (Or.inl ⟨by rfl, ?_⟩) ?_ ?_
  rotate_left
  · intro w'
    go_simp
    with_reducible rfl
  rotate_left
  · simp only [Act.put, List.setIfInBounds_toArray, List.set_cons_zero, List.set_cons_succ, i64_w, i32_w]
    rfl
  refine take_ (i := 3) (N := some 33) (v := ?_) (a' := ?_) #[true, true, true, true, false, true, true, true, false, false, false, false] rfl rfl (by kernel_rfl) (fun _ _ _ h => h) (Or.inl ⟨by rfl, ?_⟩) hHeld ?_ ?_
  rotate_left
  · rintro w' ⟨s0, s1⟩
    go_simp
    with_reducible rfl
  rotate_left
  · simp only [Act.put, List.setIfInBounds_toArray, List.set_cons_zero, List.set_cons_succ, i64_w, i32_w]
    rfl
  refine pure_ (i := 4) (N := some 34) (v := ?_) (a' := ?_) #[true, true, true, true, true, true, true, true, false, false, false, false] rfl rfl (by kernel_rfl) (fun _ _ _ h => h) (Or.inl ⟨by rfl, ?_⟩) ?_ ?_
  rotate_left
  · intro w'
    go_simp
    with_reducible rfl
  rotate_left
  · simp only [Act.put, List.setIfInBounds_toArray, List.set_cons_zero, List.set_cons_succ, i64_w, i32_w]
    rfl
  refine join_ (σ := Value × Nat) 1 #[true, true, true, true, true, true, true, true, true, true, true, false] (fun s => [(38, s.1), (39, .agg #[.int .i64 (wrap64 1), .int .i64 3, .int .i64 5, s.1, .slice none 0 0]), (12, .pointer (some ⟨s.2, 0, none⟩))]) (fun s w' => (∃ A n c, s.1 = .slice A n c) ∧ AS w g w' ∧ w'.heap[s.2]? = some (.cells #[.int .i64 0, .int .i64 0, .int .i64 0, .slice none 0 0, .slice none 0 0] 44 (0, 0)) ∧ w.heap.size < s.2) ?_ ?_
  rotate_left
  · intro hCont
    refine two_ (i := 8) (j := 10) (Ni := some 38) (Nj := some 12) #[true, true, true, true, true, true, true, true, true, false, false, false] #[true, true, true, true, true, true, true, true, false, false, true, false] rfl rfl rfl rfl (by kernel_rfl) (by decide) (by decide) (fun K hK => ?_) (fun K hK => ?_)
    · skip
      refine goes_ Try.func44 (by kernel_rfl) rfl #[.slice (some a) 1 c] (by rfl) rfl rfl (by simp only [List.map_toArray, List.map_cons, List.map_nil]; rfl) ?_
      with_reducible refine ((clone1 (some a) c _ (Kd.C_below hs HA.out.lay) hc)).mono ?_
      rintro e w3 ⟨ad1, cp1, rfl, hb1⟩
      refine ⟨_, rfl, ?_⟩
      have n0_ := Aside0.mk (HA.out.below hb1)
      clear HA
      have HA := n0_
      clear n0_
      refine hK.out _ _ ⟨(HA.out.box), (HA.out.cell (i := 0) hg rfl)⟩ (fun hHeld => ?_)
      clear hK K
      refine norm_ (a' := ?_) ?_ ?_
      rotate_left
      · show Act.put _ (some 38) _ = _
        simp only [Act.put, List.setIfInBounds_toArray, List.set_cons_zero, List.set_cons_succ, i64_w, i32_w]
        rfl
      refine pure_ (i := 9) (N := some 39) (v := ?_) (a' := ?_) #[true, true, true, true, true, true, true, true, true, true, false, false] rfl rfl (by kernel_rfl) (fun _ _ _ h => h) (Or.inl ⟨by rfl, ?_⟩) ?_ ?_
      rotate_left
      · intro w'
        go_simp
        with_reducible rfl
      rotate_left
      · simp only [Act.put, List.setIfInBounds_toArray, List.set_cons_zero, List.set_cons_succ, i64_w, i32_w]
        rfl
      refine one_ (i := 10) (N := some 12) #[true, true, true, true, true, true, true, true, true, true, true, false] rfl rfl (by kernel_rfl) (by decide) (fun K hK => ?_)
      refine value_ (w1 := ?_) (v := ?_) (by rfl) rfl ?_ ?_
      rotate_left 2
      · go_simp
        constructor
        · rfl
        · rfl
      have n0_ := Aside0.mk (HA.out.alloc (.cells #[.int .i64 0, .int .i64 0, .int .i64 0, .slice none 0 0, .slice none 0 0] 44))
      have HZ := Aside0.mk (World.alloc_heap_new w3 (.cells #[.int .i64 0, .int .i64 0, .int .i64 0, .slice none 0 0, .slice none 0 0] 44))
      clear HA
      have HA := n0_
      clear n0_
      refine hK.out _ _ ⟨(HA.out.box), (HA.out.cell (i := 0) hg rfl)⟩ (fun hHeld => ?_)
      clear hK K
      refine norm_ (a' := ?_) ?_ ?_
      rotate_left
      · show Act.put _ (some 12) _ = _
        simp only [Act.put, List.setIfInBounds_toArray, List.set_cons_zero, List.set_cons_succ, i64_w, i32_w]
        rfl
      exact norm_ (by simp only [putAll, Act.put, List.setIfInBounds_toArray, List.set_cons_zero, List.set_cons_succ]) (hCont (.slice (some ad1) 1 cp1, w3.heap.size) _ ⟨⟨_, _, _, rfl⟩, HA.out, HZ.out, by have := HS1.out; have := hb1.size; omega⟩)
    · skip
      refine value_ (w1 := ?_) (v := ?_) (by rfl) rfl ?_ ?_
      rotate_left 2
      · go_simp
        constructor
        · rfl
        · rfl
      have n0_ := Aside0.mk (HA.out.alloc (.cells #[.int .i64 0, .int .i64 0, .int .i64 0, .slice none 0 0, .slice none 0 0] 44))
      have HZ := Aside0.mk (World.alloc_heap_new W2 (.cells #[.int .i64 0, .int .i64 0, .int .i64 0, .slice none 0 0, .slice none 0 0] 44))
      clear HA
      have HA := n0_
      clear n0_
      refine hK.out _ _ ⟨(HA.out.box), (HA.out.cell (i := 0) hg rfl)⟩ (fun hHeld => ?_)
      clear hK K
      refine norm_ (a' := ?_) ?_ ?_
      rotate_left
      · show Act.put _ (some 12) _ = _
        simp only [Act.put, List.setIfInBounds_toArray, List.set_cons_zero, List.set_cons_succ, i64_w, i32_w]
        rfl
      refine one_ (i := 8) (N := some 38) #[true, true, true, true, true, true, true, true, true, false, true, false] rfl rfl (by kernel_rfl) (by decide) (fun K hK => ?_)
      refine goes_ Try.func44 (by kernel_rfl) rfl #[.slice (some a) 1 c] (by rfl) rfl rfl (by simp only [List.map_toArray, List.map_cons, List.map_nil]; rfl) ?_
      with_reducible refine ((clone1 (some a) c _ (Kd.C_below hs HA.out.lay) hc)).mono ?_
      rintro e w3 ⟨ad1, cp1, rfl, hb1⟩
      refine ⟨_, rfl, ?_⟩
      have n0_ := Aside0.mk (HA.out.below hb1)
      clear HA
      have HA := n0_
      clear n0_
      have n1_ := Aside0.mk ((hb1.block _ (Array.getElem?_eq_some_iff.1 HZ.out).1).trans HZ.out)
      clear HZ
      have HZ := n1_
      clear n1_
      refine hK.out _ _ ⟨(HA.out.box), (HA.out.cell (i := 0) hg rfl)⟩ (fun hHeld => ?_)
      clear hK K
      refine norm_ (a' := ?_) ?_ ?_
      rotate_left
      · show Act.put _ (some 38) _ = _
        simp only [Act.put, List.setIfInBounds_toArray, List.set_cons_zero, List.set_cons_succ, i64_w, i32_w]
        rfl
      refine pure_ (i := 9) (N := some 39) (v := ?_) (a' := ?_) #[true, true, true, true, true, true, true, true, true, true, true, false] rfl rfl (by kernel_rfl) (fun _ _ _ h => h) (Or.inl ⟨by rfl, ?_⟩) ?_ ?_
      rotate_left
      · intro w'
        go_simp
        with_reducible rfl
      rotate_left
      · simp only [Act.put, List.setIfInBounds_toArray, List.set_cons_zero, List.set_cons_succ, i64_w, i32_w]
        rfl
      exact norm_ (by simp only [putAll, Act.put, List.setIfInBounds_toArray, List.set_cons_zero, List.set_cons_succ]) (hCont (.slice (some ad1) 1 cp1, W2.heap.size) _ ⟨⟨_, _, _, rfl⟩, HA.out, HZ.out, by have := HS1.out; omega⟩)
  rintro ⟨v1, zb⟩ w3 ⟨⟨A1, n1, c1, hv1⟩, ha1, hz1, hzb⟩
  simp only at hv1 hz1 hzb
  subst hv1
  have HA := Aside0.mk ha1
  have HZ := Aside0.mk hz1
  have hHeld : (w3.cell? ⟨w.heap.size, 0, none⟩ = some (.pointer (some ⟨g, 0, none⟩))) ∧ (w3.cell? ⟨g, 0, none⟩ = some (.int .i64 0)) := ⟨ha1.box, ha1.cell (i := 0) hg rfl⟩
  have z0 := cell_of (i := 0) hz1 rfl
  have z1 := cell_of (i := 1) hz1 rfl
  have z2 := cell_of (i := 2) hz1 rfl
  have z3 := cell_of (i := 3) hz1 rfl
  have z4 := cell_of (i := 4) hz1 rfl
  have zf : ∀ i, w3.frozen? ⟨zb, i, none⟩ = false := fun i => by simp [World.frozen?, hz1]
  clear ha1 hz1
  refine norm_ (a' := ?_) ?_ ?_
  rotate_left
  · simp only [putAll, Act.put, List.setIfInBounds_toArray, List.set_cons_zero, List.set_cons_succ]
    rfl
  refine last_ (i := 11) (N := none) #[true, true, true, true, true, true, true, true, true, true, true, true] rfl rfl (by kernel_rfl) (by decide) (fun K hK => ?_)
  refine skip_ (w1 := ?_) (by rfl) rfl ?_ ?_
  rotate_left
  · go_simp
    rfl
  refine hK.out _ _ ?_
  clear hK K
  refine done_ (by kernel_rfl) ?_

  generalize hW4 : ((((w3.setCell ⟨zb, 0, none⟩ (.int .i64 (wrap64 1))).setCell ⟨zb, 1, none⟩ (.int .i64 3)).setCell ⟨zb, 2, none⟩ (.int .i64 5)).setCell ⟨zb, 3, none⟩ (.slice A1 n1 c1)).setCell ⟨zb, 4, none⟩ (.slice none 0 0) = W4
  have hz4 : W4.heap[zb]? = some (.cells #[.int .i64 (wrap64 1), .int .i64 3, .int .i64 5, .slice A1 n1 c1, .slice none 0 0] 44 (0, 0)) := by
    rw [← hW4]; exact set_heap (set_heap (set_heap (set_heap (set_heap HZ.out _) _) _) _) _
  have ha4 : AS w g W4 := by rw [← hW4]; exact ((((HA.out.set hzb _).set hzb _).set hzb _).set hzb _).set hzb _
  clear hW4 HA HZ z0 z1 z2 z3 z4 zf hHeld
  clear hHeld
  have hm4 : W4.heap[m2]? = some (.map #[] 0) := (ha4.lay.block m2 (Array.getElem?_eq_some_iff.1 hm).1).trans hm
  have hzlt : zb < W4.heap.size := (Array.getElem?_eq_some_iff.1 hz4).1
  have hsl : w.heap.size < W4.heap.size := by omega
  have b4 := ha4.box
  have g42 := ha4.cell (i := 2) hg rfl
  have hR := run_range_map (P := Try.prog) W4 53 3 44 m2 #[] 0 Try.underlying53 hm4
  have hN : ∀ ty, (Instr.next (.pointer (some ⟨W4.heap.size, 0, none⟩)) false ty).run Try.prog (W4.alloc (.mapIter (some m2) 0 #[] 0)) = .ok (.tuple #[.bool false]) (W4.alloc (.mapIter (some m2) 0 #[] 0)) := by
    intro ty
    rcases run_next_map (P := Try.prog) W4 ty m2 0 0 #[] #[] 0 hm4 (by simp) (Nat.le_refl _) with ⟨_, h⟩ | ⟨e, he, _⟩
    · exact h
    · simp [leftOf] at he
  gi_wp2_with (refine ⟨trivial, ?_⟩; gi_at_call 45; refine (callsIn_wide.2 (clone0 _)).mono ?_; rintro e w' ⟨rfl, hw⟩; rw [hw]; clear hw)
  have ha5 := ha4.alloc (.mapIter (some m2) 0 #[] 0)
  have hz5 : (W4.alloc (.mapIter (some m2) 0 #[] 0)).heap[zb]? = _ := (heap_alloc_old _ _ _ hzlt).trans hz4
  generalize hW5 : W4.alloc (.mapIter (some m2) 0 #[] 0) = W5 at ha5 hz5 hN ⊢
  have b5 := ha5.box
  have g50 := ha5.cell (i := 0) hg rfl
  have fz5 : W5.frozen? ⟨zb, 4, none⟩ = false := by simp [World.frozen?, hz5]
  have cz5 := cell_of (i := 4) hz5 rfl
  have hg5 : W5.heap[g]? = _ := (ha5.lay.block g (Array.getElem?_eq_some_iff.1 hg).1).trans hg
  have fg5 : W5.frozen? ⟨g, 0, none⟩ = false := by simp [World.frozen?, hg5]
  have hgl := (Array.getElem?_eq_some_iff.1 hg).1
  have hml := (Array.getElem?_eq_some_iff.1 hm).1
  clear b4 g42 hR
  gi_loopw [13] (fun v13 w' => v13 = .slice none 0 0 ∧ w' = W5) (fun _ _ => 0)
  case atStart => exact ⟨rfl, rfl⟩
  case round =>
    obtain ⟨rfl, rfl⟩ := hrel
    gi_wp2_with (refine ⟨trivial, ?_⟩; gi_at_call 47; refine (callsIn_wide.2 (pending0 _ _)).mono ?_; rintro e w' ⟨rfl, hw⟩; rw [hw]; clear hw)
    have hgz : g ≠ zb := by omega
    have hmg : m2 ≠ g := by rintro rfl; rw [hm] at hg; cases hg
    have hbx := ha5.1
    have hm5 : wr.heap[m2]? = some (.map #[] 0) := (ha5.lay.block m2 hml).trans hm
    generalize hW6 : (wr.setCell ⟨zb, 4, none⟩ (.slice none 0 0)).setCell ⟨g, 0, none⟩ (.int .i64 1) = W6
    have hz6 : W6.heap[zb]? = some (.cells #[.int .i64 (wrap64 1), .int .i64 3, .int .i64 5, .slice A1 n1 c1, .slice none 0 0] 44 (0, 0)) := by
      rw [← hW6]; exact (Below.heap_setCell _ _ _ _ (by simp; omega)).trans (set_heap hz5 _)
    have hg6 : W6.heap[g]? = some (.cells #[.int .i64 1, .map (some m1), .map (some m2), .bool true] 55 (0, 0)) := by
      rw [← hW6]; exact set_heap ((Below.heap_setCell _ _ _ _ (by simp; omega)).trans hg5) _
    have hk6 : ∀ k, k ≠ zb → k ≠ g → W6.heap[k]? = wr.heap[k]? := by
      intro k h1 h2; rw [← hW6]; exact (Below.heap_setCell _ _ _ _ (by simp; omega)).trans (Below.heap_setCell _ _ _ _ (by simp; omega))
    have hB6 : Below 0 wr W6 := by rw [← hW6]; exact ((Below.refl 0 wr).setCell (p := ⟨zb, 4, none⟩) (Nat.zero_le _) _).setCell (p := ⟨g, 0, none⟩) (Nat.zero_le _) _
    have hb6 := (hk6 w.heap.size (by omega) (by omega)).trans hbx
    have hm6 := (hk6 m2 (by omega) hmg).trans hm5
    refine wpIn_wide.2 ?_
    refine start_ (n := 10) (S := fun w' => w'.cell? ⟨w.heap.size, 0, none⟩ = some (.pointer (some ⟨g, 0, none⟩)) ∧ w'.cell? ⟨g, 2, none⟩ = some (.map (some m2)) ∧ w'.cell? ⟨g, 0, none⟩ = some (.int .i64 1) ∧ w'.cell? ⟨zb, 0, none⟩ = some (.int .i64 (wrap64 1)) ∧ w'.cell? ⟨zb, 1, none⟩ = some (.int .i64 3) ∧ w'.cell? ⟨zb, 2, none⟩ = some (.int .i64 5) ∧ w'.cell? ⟨zb, 3, none⟩ = some (.slice A1 n1 c1) ∧ w'.cell? ⟨zb, 4, none⟩ = some (.slice none 0 0)) (ds := [9]) #[false, false, false, false, false, false, false, false, false, false] (by kernel_rfl) rfl rfl ⟨(cell_of hb6 rfl), (cell_of hg6 rfl), (cell_of hg6 rfl), (cell_of (i := 0) hz6 rfl), (cell_of (i := 1) hz6 rfl), (cell_of (i := 2) hz6 rfl), (cell_of (i := 3) hz6 rfl), (cell_of (i := 4) hz6 rfl)⟩ (fun hHeld => ?_)
    refine take_ (i := 0) (N := some 70) (v := ?_) (a' := ?_) #[true, false, false, false, false, false, false, false, false, false] rfl rfl (by kernel_rfl) (fun _ _ _ h => h) (Or.inl ⟨by rfl, ?_⟩) hHeld ?_ ?_
    rotate_left
    · rintro w' ⟨s0, s1, s2, s3, s4, s5, s6, s7⟩
      go_simp
      with_reducible rfl
    rotate_left
    · simp only [Act.put, List.setIfInBounds_toArray, List.set_cons_zero, List.set_cons_succ, i64_w, i32_w]
      rfl
    refine pure_ (i := 1) (N := some 71) (v := ?_) (a' := ?_) #[true, true, false, false, false, false, false, false, false, false] rfl rfl (by kernel_rfl) (fun _ _ _ h => h) (Or.inl ⟨by rfl, ?_⟩) ?_ ?_
    rotate_left
    · intro w'
      go_simp
      with_reducible rfl
    rotate_left
    · simp only [Act.put, List.setIfInBounds_toArray, List.set_cons_zero, List.set_cons_succ, i64_w, i32_w]
      rfl
    refine pure_ (i := 2) (N := some 72) (v := ?_) (a' := ?_) #[true, true, true, false, false, false, false, false, false, false] rfl rfl (by kernel_rfl) (fun _ _ _ h => h) (Or.inl ⟨by rfl, ?_⟩) ?_ ?_
    rotate_left
    · intro w'
      go_simp
      with_reducible rfl
    rotate_left
    · simp only [Act.put, List.setIfInBounds_toArray, List.set_cons_zero, List.set_cons_succ, i64_w, i32_w]
      rfl
    refine take_ (i := 3) (N := some 73) (v := ?_) (a' := ?_) #[true, true, true, true, false, false, false, false, false, false] rfl rfl (by kernel_rfl) (fun _ _ _ h => h) (Or.inl ⟨by rfl, ?_⟩) hHeld ?_ ?_
    rotate_left
    · rintro w' ⟨s0, s1, s2, s3, s4, s5, s6, s7⟩
      go_simp
      with_reducible rfl
    rotate_left
    · simp only [Act.put, List.setIfInBounds_toArray, List.set_cons_zero, List.set_cons_succ, i64_w, i32_w]
      rfl
    refine take_ (i := 4) (N := some 74) (v := ?_) (a' := ?_) #[true, true, true, true, true, false, false, false, false, false] rfl rfl (by kernel_rfl) (fun _ _ _ h => h) (Or.inl ⟨by rfl, ?_⟩) hHeld ?_ ?_
    rotate_left
    · rintro w' ⟨s0, s1, s2, s3, s4, s5, s6, s7⟩
      go_simp
      with_reducible rfl
    rotate_left
    · simp only [Act.put, List.setIfInBounds_toArray, List.set_cons_zero, List.set_cons_succ, i64_w, i32_w]
      rfl
    refine pure_ (i := 5) (N := some 75) (v := ?_) (a' := ?_) #[true, true, true, true, true, true, false, false, false, false] rfl rfl (by kernel_rfl) (fun _ _ _ h => h) (Or.inl ⟨by rfl, ?_⟩) ?_ ?_
    rotate_left
    · intro w'
      go_simp
      with_reducible rfl
    rotate_left
    · simp only [Act.put, List.setIfInBounds_toArray, List.set_cons_zero, List.set_cons_succ, i64_w, i32_w]
      rfl
    refine pure_ (i := 6) (N := some 76) (v := ?_) (a' := ?_) #[true, true, true, true, true, true, true, false, false, false] rfl rfl (by kernel_rfl) (fun _ _ _ h => h) (Or.inl ⟨by rfl, ?_⟩) ?_ ?_
    rotate_left
    · intro w'
      go_simp
      with_reducible rfl
    rotate_left
    · simp only [Act.put, List.setIfInBounds_toArray, List.set_cons_zero, List.set_cons_succ, i64_w, i32_w]
      rfl
    refine take_ (i := 7) (N := some 77) (v := ?_) (a' := ?_) #[true, true, true, true, true, true, true, true, false, false] rfl rfl (by kernel_rfl) (fun _ _ _ h => h) (Or.inl ⟨by rfl, ?_⟩) hHeld ?_ ?_
    rotate_left
    · rintro w' ⟨s0, s1, s2, s3, s4, s5, s6, s7⟩
      go_simp
      with_reducible rfl
    rotate_left
    · simp only [Act.put, List.setIfInBounds_toArray, List.set_cons_zero, List.set_cons_succ, i64_w, i32_w]
      rfl
    refine take_ (i := 8) (N := some 78) (v := ?_) (a' := ?_) #[true, true, true, true, true, true, true, true, true, false] rfl rfl (by kernel_rfl) (fun _ _ _ h => h) (Or.inl ⟨by rfl, ?_⟩) hHeld ?_ ?_
    rotate_left
    · rintro w' ⟨s0, s1, s2, s3, s4, s5, s6, s7⟩
      go_simp
      with_reducible rfl
    rotate_left
    · simp only [Act.put, List.setIfInBounds_toArray, List.set_cons_zero, List.set_cons_succ, i64_w, i32_w]
      rfl
    refine last_ (i := 9) (N := none) #[true, true, true, true, true, true, true, true, true, true] rfl rfl (by kernel_rfl) (by decide) (fun K hK => ?_)
    refine skip_ (w1 := ?_) (by rfl) rfl ?_ ?_
    rotate_left
    · go_simp
      rw [run_put m2 1 _ W6.drew hm6]
      rfl
    refine hK.out _ _ ?_
    clear hK K
    refine done_ (by kernel_rfl) ?_

    obtain ⟨o7, ho7⟩ : ∃ o7, Obj.map #[{ key := .int .i64 1, val := .agg #[.int .i64 (wrap64 1), .int .i64 3, .int .i64 5, .slice A1 n1 c1, .slice none 0 0], born := 0 }] 1 = o7 := ⟨_, rfl⟩
    rw [ho7]
    change Exit.then _ _ Exit.normal _ (W6.drew.putObj m2 o7)
    have hb7 : (W6.drew.putObj m2 o7).heap[w.heap.size]? = _ := (World.putObj_heap_other (by omega)).trans hb6
    have hg7 : (W6.drew.putObj m2 o7).heap[g]? = _ := (World.putObj_heap_other (Ne.symm hmg)).trans hg6
    have hk7 : ∀ k, k < w.heap.size → k ≠ g → k ≠ m2 → (W6.drew.putObj m2 o7).heap[k]? = w.heap[k]? := fun k h1 h2 h3 =>
      (World.putObj_heap_other h3).trans ((hk6 k (by omega) h2).trans (ha5.lay.block k h1))
    have hB7 : Below 0 w (W6.drew.putObj m2 o7) := by
      have h1 : Below 0 w W6 := (ha5.lay.mono (Nat.zero_le _)).trans hB6
      exact ⟨h1.os, h1.tape, h1.output, by have := h1.size; simp only [World.putObj_size]; exact this, fun k hk => by omega⟩
    generalize W6.drew.putObj m2 o7 = W7 at hb7 hg7 hk7 hB7 ⊢
    have cb7 := cell_of (i := 0) hb7 rfl
    have cg7 := cell_of (i := 0) hg7 rfl
    clear hHeld
    gi_wp2
    refine bodyPost_ret (results_tmp2 rfl _ _ _) rfl ?_
    exact ⟨rfl, hB7, hk7⟩

end Go.Proofs.Ytijgfcpffjjlfaa.Nb
