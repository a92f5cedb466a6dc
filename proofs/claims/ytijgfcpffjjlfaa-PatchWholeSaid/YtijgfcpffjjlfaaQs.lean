/- Written by a program of this session. slices.Sort, slices.Compact, slices.Sorted of a map's keys, in the words of rows; the numbers of all pending patches; those of some. -/
import Derived.Test.YtijgfcpffjjlfaaQk
import Derived.Test.YtijgfcpffjjlfaaIt
namespace Go.Proofs.Ytijgfcpffjjlfaa.Pq
open Go Go.RowKit Go.Shelf Go.Proofs Go.Maps Go.Sort Go.Proofs.Ytijgfcpffjjlfaa.XFb Go.Proofs.YtijgfcpffjjlfaaW.PrintWords Go.Proofs.YtijgfcpffjjlfaaW.PrintLast Go.Proofs.YtijgfcpffjjlfaaW.PrintMore
set_option linter.unusedVariables false
set_option linter.unusedSimpArgs false

abbrev RI (W : World) (base : Nat) (S : Nat → Prop) (v : Value) (xs : List Int) : Prop := Kd.R (Kd.int .i64) 3 W base S v xs
abbrev RB (W : World) (base : Nat) (S : Nat → Prop) (v : Value) (xs : List Int) : Prop := Kd.R (Kd.int .u8) 5 W base S v xs
theorem encs_map (xs : List Int) : encs (Value.int .i64) xs = xs.map encZ := by simp [encs]
theorem RI_cases {W : World} {base : Nat} {S : Nat → Prop} {v : Value} {xs : List Int} (h : RI W base S v xs) : (v = .slice none 0 0 ∧ xs = []) ∨
    ∃ (g cap : Nat) (cur : Array Value), v = .slice (some ⟨g, 0, none⟩) xs.length cap ∧ base ≤ g ∧ W.heap[g]? = some (.cells cur 3 (0, 0)) ∧ xs.length ≤ cap ∧ cap ≤ maxLen ∧ cur.size = cap * 1 ∧ cur.toList.take xs.length = xs.map encZ := by
  rcases (Kd.own_of_R h).2 with ⟨hv, hz⟩ | ⟨g, cap, cur, hv, hb, hh, h1, h2, h3, h4⟩
  · exact .inl ⟨hv, List.eq_nil_of_length_eq_zero hz⟩
  · exact .inr ⟨g, cap, cur, hv, hb, hh, h1, h2, h3, by rw [Nat.mul_one, encs_map] at h4; exact h4⟩
theorem RI_mk {W : World} {base : Nat} {S : Nat → Prop} {v : Value} {xs : List Int} (h : W.ownsRow base 3 1 v xs.length (xs.map encZ)) (hok : ∀ k, v.ownBlock = some k → S k) : RI W base S v xs :=
  Kd.R_of_own (by rw [encs_map]; exact h) hok
theorem sort_ok {W : World} {base : Nat} {S : Nat → Prop} {v : Value} {xs : List Int} (h : RI W base S v xs) (hl : xs.length < 4611686018427387904) :
    Calls Try.prog 48 #[v] W fun e W' => e = .returned (.tuple #[]) ∧ RI W' base S v (xs.mergeSort (fun x y => decide (x ≤ y))) ∧ W.grownBy W' v.ownBlock := by
  have h0 := h.1
  rcases RI_cases h with ⟨rfl, rfl⟩ | ⟨g, cap, cur, rfl, hbase, hb, r1, r2, r3, r4⟩
  · refine (Try.slices_Sort_int_none none 0 W).mono ?_
    rintro e W' ⟨rfl, rfl⟩
    exact ⟨rfl, by simpa using h, ⟨rfl, rfl, rfl, Nat.le_refl _, fun _ _ _ => rfl⟩⟩
  · have hH : Holds encZ W g 0 xs.toArray := holds_of_block_i hb r4
    refine (Try.slices_Sort_int g 0 cap xs W hH (Array.getElem?_eq_some_iff.1 hb).1 hl).mono ?_
    rintro e W' ⟨rfl, n, os, rfl⟩
    have hrow := ownsRow_sorted_i (w := W) (n := n) (os := os) (ts := xs.mergeSort (fun x y => decide (x ≤ y))) (by simp) hbase hb r1 r2 r3
    refine ⟨rfl, RI_mk (by rw [List.length_mergeSort]; exact hrow) h0, grownBy_sorted_i _⟩
theorem compact_len (zs : List Int) : (Lib.compact zs).length ≤ zs.length := by
  unfold Lib.compact Lib.compactUpTo
  rw [List.length_map]
  exact Nat.le_trans (List.length_filter_le _ _) (by simp)
theorem compact_ok {W : World} {base : Nat} {S : Nat → Prop} {v : Value} {xs : List Int} (h : RI W base S v xs) :
    Calls Try.prog 49 #[v] W fun e W' => ∃ v', e = .returned v' ∧ RI W' base S v' (Lib.compact xs) ∧ W.grownBy W' v.ownBlock := by
  have h0 := h.1
  rcases RI_cases h with ⟨rfl, rfl⟩ | ⟨g, cap, cur, rfl, hbase, hb, r1, r2, r3, r4⟩
  · refine (Try.slices_Compact_int_empty none 0 W).mono ?_
    rintro e W' ⟨rfl, rfl⟩
    exact ⟨_, rfl, h, ⟨rfl, rfl, rfl, Nat.le_refl _, fun _ _ _ => rfl⟩⟩
  · have hH : Holds encZ W g 0 xs.toArray := holds_of_block_i hb r4
    have hcl := compact_len xs
    refine (Try.slices_Compact_int g 0 cap xs W hH (by unfold maxLen at r2; omega) r1).mono ?_
    rintro e W' ⟨rfl, q, rfl⟩
    have e1 : putRow encZ (Sort.ahead W q) g 0 (Lib.compact xs ++ List.replicate (xs.length - (Lib.compact xs).length) 0).toArray = grow (putRow encZ (Sort.ahead W q) g 0 (Lib.compact xs ++ List.replicate (xs.length - (Lib.compact xs).length) 0).toArray) #[] := (grow_empty _).symm
    have hrow := ownsRow_sorted_i (w := W) (n := q) (os := #[]) (ts := Lib.compact xs ++ List.replicate (xs.length - (Lib.compact xs).length) 0) (ss := xs) (by simp; omega) hbase hb r1 r2 r3
    rw [← e1] at hrow
    obtain ⟨_, hr⟩ := hrow
    rcases hr with ⟨hv, _⟩ | ⟨g2, cap2, cur2, hv, hb2, hh2, q1, q2, q3, q4⟩
    · cases hv
    injection hv with hv1 hv2 hv3
    injection hv1 with hv1
    injection hv1 with hv1
    subst hv1; subst hv3
    refine ⟨_, rfl, RI_mk ⟨by simp, .inr ⟨g, cap, cur2, rfl, hb2, hh2, by omega, q2, q3, ?_⟩⟩ h0, ?_⟩
    · have q5 := congrArg (List.take (Lib.compact xs).length) q4
      rw [Nat.mul_one, List.take_take, Nat.min_eq_left hcl, List.map_append, List.take_left' (by simp)] at q5
      rw [Nat.mul_one]
      exact q5
    · rw [e1]; exact grownBy_sorted_i _
theorem sorts57 (m : Nat) : AnyZI.SortsIn Try.prog Try.sortedI_ren Fence.wide m :=
  ⟨fun blk off cap ss W hH hblk hsz => callsIn_wide.2 (Try.slices_Sort_int blk off cap ss W hH hblk hsz),
   fun p cap W => callsIn_wide.2 (Try.slices_Sort_int_none p cap W)⟩
/-- The keys of the map of patches. -/
theorem IsSet.keys {W : World} {base g m d : Nat} {S : Nat → Prop} {l : List Pt} {last : Int} {n : Nat} (h : IsSet W base g m d S l last n) {D : DataW Value} (h3 : mapM W m n D) (h4 : ∀ i : Int, Maps.has D (.int .i64 i) = decide (i ∈ ids l)) : (ids l).Perm (intKeys D) := by
  obtain ⟨es, hD, hpw, _⟩ := h3.entries law
  obtain ⟨es', hD', hko⟩ := h3.keysOf
  obtain rfl : es = es' := by rw [hD] at hD'; simpa using hD'
  subst hD
  exact perm_intKeys hpw (fun p hp => by obtain ⟨v, hv⟩ := hko p hp; obtain ⟨x, _, hx, _⟩ := Maps.keyOf_i64 Try.underlying3 hv; exact ⟨x, hx⟩) h.fits.rise.nodup (fun x => by rw [h4 x, decide_eq_true_eq])
set_option maxRecDepth 100000 in
set_option maxHeartbeats 2000000 in
/-- (*Set).all -/
theorem all_ok {W : World} {base g m d : Nat} {S : Nat → Prop} {l : List Pt} {last : Int} {n : Nat} (h : IsSet W base g m d S l last n) (hn : n ≤ 1000000000) :
    Calls Try.prog 53 #[.pointer (some ⟨g, 0, none⟩)] W fun e W' => ∃ v, e = .returned v ∧ RI W' W.heap.size (fun _ => True) v (ids l) ∧ Below W.heap.size W W' := by
  have c2 : W.cell? ⟨g, 2, none⟩ = some (.map (some m)) := by simp [World.cell?, h.cells]
  obtain ⟨D, h3, h4, _⟩ := h.mp
  have hsz := h3.size_le
  have hmax : Maps.size D ≤ maxLen := by unfold maxLen; omega
  have hbytes : Maps.size D * 8 ≤ 140737488355328 := by omega
  have hk := h.keys h3 h4
  have hri := h.fits.rise
  have hbl := h3.lt
  have hseq : SeqGives Fence.wide 2 Try.prog 93 #[.pointer (some ⟨W.heap.size, 0, none⟩)] encZ (fun ss => ss.Perm (intKeys D)) (Maps.size D) (W.alloc (.cells #[.map (some m)] 53)) :=
    AnyZI.keys_gives (ρ := Try.keysP_ren) { Try.keysP with } Fence.wide _ trivial rfl (by omega) W.heap.size m n D _ (by simp) (by simp) (by
      obtain ⟨es, clock, hb, Ft, hs, hD⟩ := h3
      exact ⟨es, clock, (Below.heap_alloc _ _ m hbl).trans hb, Ft, hs, hD⟩)
  have cK : ∀ mb W, CallsIn Fence.wide 5 Try.prog 76 #[.map mb] W fun e w' => e = .returned (.func (.func 93) #[] #[.pointer (some ⟨W.heap.size, 0, none⟩)]) ∧ w' = W.alloc (.cells #[.map mb] 53) := fun mb W => AnyZI.keys_in Try.keysP Fence.wide 5 trivial rfl mb W
  have cS := AnyZI.sorted_in Try.sortedI Fence.wide 5 trivial trivial trivial trivial rfl (by omega) (sorts57 _) (enters_of Try.func48 (by kernel_rfl) rfl) 93 #[.pointer (some ⟨W.heap.size, 0, none⟩)] trivial (enters_of Try.func93 (by kernel_rfl) rfl) _ _ hmax hbytes _ hseq
  change CallsIn _ _ Try.prog 57 _ _ _ at cS
  have CS := Aside0.mk cS
  have CK := Aside0.mk cK
  have HSZ := Aside0.mk hsz
  clear cS cK h h3 h4 hseq hsz hmax hbytes
  refine (callsIn_wide (n := 6)).1 ?_
  refine callsIn_of_wp Try.func53 rfl trivial ?_ rfl
  simp only [Try.ntmps53, List.size_toArray, List.length_cons, List.length_nil, Nat.reduceAdd, Nat.reduceSub, Array.replicate_succ, Array.replicate_zero, List.push_toArray, List.append_toArray, List.nil_append, List.cons_append]
  gi_wp2_with (first
    | (refine ⟨trivial, ?_⟩; gi_at_call 76; refine (CK.out _ _).mono ?_; rintro e w' ⟨rfl, hw⟩; rw [hw]; clear hw)
    | (refine ⟨trivial, ?_⟩; gi_at_call 57; refine CS.out.mono ?_; rintro e w1 ⟨v, ss, rfl, hS, hrow, hnil, hb⟩; have HS := Aside0.mk hS; have HR := Aside0.mk hrow; have HB := Aside0.mk hb; clear hS hrow hnil hb))
  go_ret
  have e1 : ss.mergeSort (fun x y => decide (x ≤ y)) = ids l := hri.sorted (HS.out.trans hk.symm)
  have hrow := HR.out
  rw [show (fun x y : Int => decide (x ≤ y)) = leI from rfl] at e1
  have hl : ss.length = (ids l).length := by rw [← e1, List.length_mergeSort]
  rw [show (ss.mergeSort (fun x y => decide (x ≤ y))) = ids l from e1, hl] at hrow
  exact ⟨v, rfl, RI_mk (own_weaken hrow (by simp)) (fun _ _ => trivial), ((Below.refl _ W).alloc (Nat.le_refl _) _).trans (HB.out.mono (by simp))⟩
end Go.Proofs.Ytijgfcpffjjlfaa.Pq
