/- Written by a program of this session. (*Set).Of, free. -/
import Derived.BigQuiet
import Derived.Deep.QuietTactic
import Derived.Test.YtijgfcpffjjlfaaQu
namespace Go.Proofs.Ytijgfcpffjjlfaa.Pq
open Go Go.RowKit Go.Shelf Go.Proofs Go.Maps Go.Sort Go.Proofs.Ytijgfcpffjjlfaa.XFb Go.Proofs.YtijgfcpffjjlfaaW.PrintWords Go.Proofs.YtijgfcpffjjlfaaW.PrintLast Go.Proofs.YtijgfcpffjjlfaaW.PrintMore
set_option linter.unusedVariables false
set_option linter.unusedSimpArgs false
theorem wf_id {l : List Pt} {last i : Int} (h : Fits l last) (hi : i ∈ ids l) : (Lit.int .i64 i).wf = true := by
  have h1 := ids_mem h hi
  have h2 := h.lastm
  exact WalkArith.wf_i64 (by omega)
theorem IsSet.len_le {W : World} {base g m d : Nat} {S : Nat → Prop} {l : List Pt} {last : Int} {n : Nat} (h : IsSet W base g m d S l last n) : (ids l).length ≤ n := by
  obtain ⟨D, h3, h4, _⟩ := h.mp
  have h1 := (h.keys h3 h4).length_eq
  obtain ⟨es, hD, _⟩ := h3.entries law
  have h2 := h3.size_le
  subst hD
  rw [h1]
  simpa [intKeys, Maps.size] using h2
theorem ofL_sub {l : List Pt} {b i : Int} (h : i ∈ ofL l b) : i ∈ ids l := by
  obtain ⟨p, hp, rfl⟩ := List.mem_map.1 h
  exact List.mem_map_of_mem (List.mem_filter.1 hp).1
theorem ofL_len (l : List Pt) (b : Int) : (ofL l b).length ≤ (ids l).length := by
  unfold ofL ids
  rw [List.length_map, List.length_map]
  exact List.length_filter_le _ _
theorem drewN_heap (W : World) (q : Nat) : (W.drewN q).heap = W.heap := rfl
set_option maxRecDepth 100000 in
set_option maxHeartbeats 8000000 in
theorem of_ok {W : World} {base g m d : Nat} {S : Nat → Prop} {l : List Pt} {last : Int} {n : Nat} (h : IsSet W base g m d S l last n) (hn : n ≤ 1000000000) (b : Int) :
    Calls Try.prog 18 #[.pointer (some ⟨g, 0, none⟩), .int .i64 b] W fun e W' => ∃ v, e = .returned v ∧ RI W' W.heap.size (fun _ => True) v (ofL l b) ∧ Below W.heap.size W W' := by
  have H := Aside0.mk h
  have hfi := Aside0.mk h.fits
  have hle := h.len_le
  have hgl := h.ltg
  have hml := h.ltm
  obtain ⟨W2, hW2⟩ : ∃ W2, (W.alloc (.cells #[.pointer (some ⟨g, 0, none⟩)] 23)).alloc (.cells #[.int .i64 b] 3) = W2 := ⟨_, rfl⟩
  have hb2 : Below W.heap.size W W2 := by rw [← hW2]; exact below_alloc (below_alloc (Below.refl _ _) _) _
  have c1 : W2.heap[W.heap.size]? = some (.cells #[.pointer (some ⟨g, 0, none⟩)] 23 (0, 0)) := by rw [← hW2, heap_alloc_old _ _ _ (by simp)]; exact World.alloc_heap_new _ _
  have c2 : W2.heap[W.heap.size + 1]? = some (.cells #[.int .i64 b] 3 (0, 0)) := by
    rw [← hW2]
    have h1 := World.alloc_heap_new (W.alloc (.cells #[.pointer (some ⟨g, 0, none⟩)] 23)) (.cells #[.int .i64 b] 3)
    rwa [World.size_alloc] at h1
  have hs2 : W2.heap.size = W.heap.size + 2 := by rw [← hW2]; simp
  have cb : W2.cell? ⟨W.heap.size, 0, none⟩ = some (.pointer (some ⟨g, 0, none⟩)) := cell_of c1 rfl
  have HS2 := Aside0.mk (h.below hb2)
  have HB2 := Aside0.mk hb2
  clear h hb2
  refine (callsIn_wide (n := 1)).1 ?_
  refine callsIn_of_wp Try.func18 rfl trivial ?_ rfl
  simp only [Try.ntmps18, List.size_toArray, List.length_cons, List.length_nil, Nat.reduceAdd, Nat.reduceSub, Array.replicate_succ, Array.replicate_zero, List.push_toArray, List.append_toArray, List.nil_append, List.cons_append]
  gi_wp2_with (first
    | (refine ⟨trivial, ?_⟩; gi_at_call 39; refine (callsIn_wide.2 (own_ok _ g _ _ _ HS2.out.cells)).mono ?_; rintro e w1 ⟨rfl, hw⟩; rw [hw]; clear hw)
    | (refine ⟨trivial, ?_⟩; gi_at_call 53; refine (callsIn_wide.2 (all_ok HS2.out hn)).mono ?_; rintro e W3 ⟨v, rfl, hr, hb⟩; have HR := Aside0.mk hr; have HB3 := Aside0.mk hb; clear hr hb)
    | fail)
  all_goals skip
  have hdel := delete_ok HR.out (fun x hx => wf_id hfi.out hx) (by omega) (fun x => (get l x).blk != b) 54 #[.pointer (some ⟨W.heap.size, 0, none⟩), .pointer (some ⟨W.heap.size + 1, 0, none⟩)] (enters_of Try.func54 (by kernel_rfl) rfl) (fun W4 x hx hk => by
    have hbase := Kd.R_base HR.out
    have hold : ∀ k, k < W2.heap.size → W4.heap[k]? = W2.heap[k]? := fun k hlt => (hk.same k (by have := HB3.out.size; omega) (fun e => by have := hbase k e; omega)).trans (HB3.out.block k hlt)
    obtain ⟨A, kk, B, j, hl, _, _⟩ := HS2.out.lookB x hx
    exact of1_ok x b _ _ (cell_of ((hold g (by omega)).trans HS2.out.cells) rfl) (cell_of ((hold _ (by omega)).trans c1) rfl) (cell_of ((hold _ (by omega)).trans c2) rfl) (fun q => (hl (W4.drewN q) (by rw [drewN_heap]; exact hold m (by omega))).2))
  have hdel2 := Aside0.mk hdel
  clear hdel
  gi_wp2_with (first
    | (refine ⟨trivial, ?_⟩; gi_at_call 52; refine (callsIn_wide.2 (hdel2.out)).mono ?_; rintro e W4 ⟨v4, rfl, hr, hg⟩; have HR4 := Aside0.mk hr; have HG4 := Aside0.mk hg; clear hr hg))
  go_ret
  have e1 : (ids l).filter (fun x => !((get l x).blk != b)) = ofL l b := by
    rw [← of_eq hfi.out.rise b]
    congr 1
    funext x
    simp [bne]
  have hr := HR4.out
  rw [e1] at hr
  exact ⟨_, rfl, Kd.R_lower hr (by omega), HB2.out.trans ((Below.grown HB3.out HG4.out HB3.out.size (fun k hk => Kd.R_base HR.out k hk)).mono (by omega))⟩
end Go.Proofs.Ytijgfcpffjjlfaa.Pq
