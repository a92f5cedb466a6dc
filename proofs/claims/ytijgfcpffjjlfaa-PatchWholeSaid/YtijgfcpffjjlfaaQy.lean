/- Written by a program of this session. (*Set).Last, Blocks, Now, Plan. -/
import Derived.Test.YtijgfcpffjjlfaaQx
namespace Go.Proofs.Ytijgfcpffjjlfaa.Pq
open Go Go.RowKit Go.Shelf Go.Proofs Go.Maps Go.Sort Go.Proofs.Ytijgfcpffjjlfaa.XFb Go.Proofs.YtijgfcpffjjlfaaW.PrintWords Go.Proofs.YtijgfcpffjjlfaaW.PrintLast Go.Proofs.YtijgfcpffjjlfaaW.PrintMore
set_option linter.unusedVariables false
set_option linter.unusedSimpArgs false
section
variable {F : Fence} {nF : Nat} (w : World) {ops : Array Oper} {rest : List Oper} {o : Oper} {a : Act} {Q : Exit → Act → World → Prop}
/-- The step of a range over a map of patches. -/
theorem wpListIn_next_pat (hg : o.guard = none) (it : Operand) (hop : o.op = Op.next it false) (b r n : Nat) (D : DataW Value) (left : Lit → Bool) (cnt : Nat)
    (hit : a.eval it = .pointer (some ⟨r, 0, none⟩)) (h : w.ranges Try.prog 3 patR b r n D left cnt)
    (hDone : cnt = 0 → (∀ kl, left kl = false) → wpListIn F nF Try.prog ops Q rest (a.put o.dst (.tuple #[.bool false])) w)
    (hMore : ∀ (x : Int) (a1 b1 o1 : Int) (A : Option Addr) (n1 k1 : Nat) (B : Option Addr) (m1 j1 : Nat) (w' : World) (cnt' : Nat), (Lit.int .i64 x).wf = true → left (.int .i64 x) = true → (∀ zd, D.atKey (.int .i64 x) zd = .held (.agg #[.int .i64 a1, .int .i64 b1, .int .i64 o1, .slice A n1 k1, .slice B m1 j1])) → w'.ranges Try.prog 3 patR b r n D (fun z => left z && !z.sameKey (.int .i64 x)) cnt' → cnt' < cnt →
      w.grownBy w' (some r) → w'.heap.size = w.heap.size → (Instr.entry (.pointer (some ⟨r, 0, none⟩))).run Try.prog w' = .ok (.tuple #[.int .i64 x, .agg #[.int .i64 a1, .int .i64 b1, .int .i64 o1, .slice A n1 k1, .slice B m1 j1]]) w' → wpListIn F nF Try.prog ops Q rest (a.put o.dst (.tuple #[.bool true, .int .i64 x, .agg #[.int .i64 a1, .int .i64 b1, .int .i64 o1, .slice A n1 k1, .slice B m1 j1]])) w') :
    wpListIn F nF Try.prog ops Q (o :: rest) a w :=
  wpListIn_next_ranges w hg it hop 3 law patR (Value.int .i64) id (fun key kl hkey => by obtain ⟨x, rfl, _⟩ := Maps.keyOf_int_inv Try.underlying3 hkey; exact ⟨x, rfl⟩) (fun v y _ => ⟨v, rfl⟩) b r n D left cnt hit h hDone (fun x c kl y w' cnt' hkey hlk hv hat hrg hlt hgr hsz hen => by
    obtain ⟨x', ex, rfl, hwx⟩ := Maps.keyOf_int_inv Try.underlying3 hkey
    cases ex
    obtain ⟨a1, b1, o1, A, n1, k1, B, m1, j1, hc, rfl⟩ := patR_inv hv
    have hc2 : c = .agg #[.int .i64 a1, .int .i64 b1, .int .i64 o1, .slice A n1 k1, .slice B m1 j1] := hc
    subst hc2
    exact hMore x a1 b1 o1 A n1 k1 B m1 j1 w' cnt' hwx hlk hat hrg hlt hgr hsz hen)
end
set_option maxRecDepth 100000 in
set_option maxHeartbeats 8000000 in
theorem last_ok {W : World} {base g m d : Nat} {S : Nat → Prop} {l : List Pt} {last : Int} {n : Nat} (h : IsSet W base g m d S l last n) :
    Calls Try.prog 11 #[.pointer (some ⟨g, 0, none⟩)] W fun e W' => e = .returned (.int .i64 last) ∧ W' = W := by
  have hc := Aside0.mk h.cells
  have c0 : W.cell? ⟨g, 0, none⟩ = some (.int .i64 last) := by simp [World.cell?, h.cells]
  clear h
  refine (callsIn_wide (n := 1)).1 ?_
  refine callsIn_of_wp Try.func11 rfl trivial ?_ rfl
  simp only [Try.ntmps11, List.size_toArray, List.length_cons, List.length_nil, Nat.reduceAdd, Nat.reduceSub, Array.replicate_succ, Array.replicate_zero, List.push_toArray, List.append_toArray, List.nil_append, List.cons_append]
  gi_wp2_with (first
    | (refine ⟨trivial, ?_⟩; gi_at_call 39; refine (callsIn_wide.2 (own_ok _ g _ _ _ hc.out)).mono ?_; rintro e w1 ⟨rfl, hw⟩; rw [hw]; clear hw))
  go_ret
  exact ⟨rfl, rfl⟩
theorem nodup_len : ∀ (ss ys : List Int), ss.Nodup → (∀ x ∈ ss, x ∈ ys) → ss.length ≤ ys.length
  | [], _, _, _ => Nat.zero_le _
  | x :: r, ys, h, hs => by
    obtain ⟨h1, h2⟩ := List.nodup_cons.1 h
    have h3 := nodup_len r (ys.erase x) h2 (fun y hy => (List.mem_erase_of_ne (fun e : y = x => h1 (by rw [← e]; exact hy))).2 (hs y (by simp [hy])))
    have hx := hs x (by simp)
    rw [List.length_erase_of_mem hx] at h3
    have h4 := List.length_pos_of_mem hx
    simp only [List.length_cons]
    omega
theorem blk_map {l : List Pt} (h : Rises (ids l)) : (ids l).map (fun i => (get l i).blk) = l.map Pt.blk := by
  unfold ids
  rw [List.map_map]
  refine List.map_congr_left (fun p hp => ?_)
  show (get l p.id).blk = p.blk
  rw [get_mem h hp]
set_option maxRecDepth 100000 in
set_option maxHeartbeats 8000000 in
theorem blocks_ok {W : World} {base g m d : Nat} {S : Nat → Prop} {l : List Pt} {last : Int} {n : Nat} (h : IsSet W base g m d S l last n) (hn : n ≤ 1000000000) :
    Calls Try.prog 15 #[.pointer (some ⟨g, 0, none⟩)] W fun e W' => ∃ v, e = .returned v ∧ RI W' W.heap.size (fun _ => True) v (blksL l) ∧ Below W.heap.size W W' := by
  have H := Aside0.mk h
  have hc := Aside0.mk h.cells
  have hfi := Aside0.mk h.fits
  have hle := h.len_le
  have hml := h.ltm
  have c2 := h.map_cell
  obtain ⟨D, h3, h4, h5⟩ := h.mp
  have HK := Aside0.mk (h.keys h3 h4)
  have H3 := Aside0.mk h3
  have H5 := Aside0.mk (And.intro h4 h5)
  clear h h3 h4 h5
  refine (callsIn_wide (n := 1)).1 ?_
  refine callsIn_of_wp Try.func15 rfl trivial ?_ rfl
  simp only [Try.ntmps15, List.size_toArray, List.length_cons, List.length_nil, Nat.reduceAdd, Nat.reduceSub, Array.replicate_succ, Array.replicate_zero, List.push_toArray, List.append_toArray, List.nil_append, List.cons_append]
  gi_wp2_with (first
    | (refine ⟨trivial, ?_⟩; gi_at_call 39; refine (callsIn_wide.2 (own_ok _ g _ _ _ hc.out)).mono ?_; rintro e w1 ⟨rfl, hw⟩; rw [hw]; clear hw)
    | (gi_at_range; refine wpListIn_range_own _ rfl _ 53 rfl 3 44 law Try.underlying53 _ m n D rfl H3.out ?_; intro w0 hrg0 hg0 hs0))
  go_frame
  have HRG0 := Aside0.mk hrg0
  have HG0 := Aside0.mk hg0
  have HS0 := Aside0.mk hs0
  clear hrg0 hg0 hs0
  gi_loopw [3] (fun v3 wr => ∃ (left : Lit → Bool) (cnt : Nat) (ss : List Int), Aside0 (wr.ranges Try.prog 3 patR m W.heap.size n D left cnt) ∧ Aside0 (CollectedI D left ss) ∧ Aside0 (∀ i ∈ ss, i ∈ ids l) ∧ Aside0 (RI wr (W.heap.size + 1) (fun _ => True) v3 (ss.map (fun i => (get l i).blk))) ∧ Aside0 (Below W.heap.size W wr) ∧ Aside0 (W.heap.size + 1 ≤ wr.heap.size)) (fun _ wr => wr.rangeLeft m W.heap.size)
  case atStart => exact ⟨_, _, [], HRG0, ⟨CollectedI.start D⟩, ⟨fun i hi => by cases hi⟩, ⟨Kd.R_nil _ _ _ _ _⟩, ⟨Below.grown (Below.refl _ _) HG0.out (Nat.le_refl _) (fun k hk => by cases hk)⟩, ⟨by rw [HS0.out]; exact Nat.le_refl _⟩⟩
  case round =>
    obtain ⟨left, cnt, ss, HRG, HC, HSS, HR, HW, HZ⟩ := hrel
    gi_wp2_with (first
      | (gi_at_next; refine wpListIn_next_pat _ rfl _ rfl m W.heap.size n D _ _ rfl HRG.out ?_ ?_))
    · intro hc0 hl0
      have HP := Aside0.mk (HC.out.perm H3.out law Try.underlying3 hl0)
      have hln : ss.length ≤ n := by
        have h1 := HP.out.length_eq
        rw [← HK.out.length_eq] at h1
        omega
      have HE : Aside0 (sc (ss.map (fun i => (get l i).blk)) = blksL l) := ⟨by
        unfold blksL
        rw [← blk_map hfi.out.rise]
        exact sc_perm ((HP.out.trans HK.out.symm).map _)⟩
      have hlm : (ss.map (fun i => (get l i).blk)).length = ss.length := List.length_map _
      generalize ss.map (fun i => (get l i).blk) = L at *
      have HR2 := Aside0.mk HR.out
      have hzz := HZ.out
      clear HR HP hl0 hc0 HC HRG
      gi_wp2_with (first
        | (refine ⟨trivial, ?_⟩; gi_at_call 48; refine (callsIn_wide.2 (sort_ok HR2.out (by omega))).mono ?_; rintro e w2 ⟨rfl, hs, hg⟩; have HR3 := Aside0.mk hs; have HW3 := Aside0.mk (Below.grown HW.out hg HW.out.size (fun k hk => by have := Kd.R_base HR2.out k hk; omega)); clear hs hg)
        | (refine ⟨trivial, ?_⟩; gi_at_call 49; refine (callsIn_wide.2 (compact_ok HR3.out)).mono ?_; rintro e w3 ⟨v3, rfl, hs, hg⟩; have HR4 := Aside0.mk hs; have HW4 := Aside0.mk (Below.grown HW3.out hg HW3.out.size (fun k hk => by have := Kd.R_base HR3.out k hk; omega)); clear hs hg))
      go_ret
      have hr4 := HR4.out
      rw [show Lib.compact (L.mergeSort (fun x y => decide (x ≤ y))) = blksL l from HE.out] at hr4
      exact ⟨_, rfl, Kd.R_lower hr4 (by omega), HW4.out⟩
    · intro x a1 b1 o1 A n1 k1 B m1 j1 w2 cnt2 hwx hlk hat hrg2 hlt hg2 hs2 hen
      have hxi : x ∈ ids l := by
        have h1 := Maps.has_true_of_atKey hat
        rw [H5.out.1 x] at h1
        exact of_decide_eq_true h1
      have hb1 : b1 = (get l x).blk := by
        obtain ⟨e, hm⟩ := get_id hxi
        obtain ⟨v0, hv, A', k', B', j', hv0, _⟩ := H5.out.2 _ hm
        rw [e] at hv
        have h1 := (hat .nil).symm.trans (hv .nil)
        injection h1 with h1
        rw [hv0] at h1
        injection h1 with h1
        injection h1 with h1
        injection h1 with _ h1
        injection h1 with h1 _
        injection h1
      have HRG2 := Aside0.mk hrg2
      have HG2 := Aside0.mk hg2
      have HCL := Aside0.mk (HC.out.step hlk hat)
      have hz2 : W.heap.size + 1 ≤ w2.heap.size := by rw [hs2]; exact HZ.out
      have hR2 : RI w2 (W.heap.size + 1) (fun _ => True) u3 (ss.map (fun i => (get l i).blk)) := Kd.R_mono (Kd.R_grown (Kd.R_bound HR.out) hg2 (fun k hk e => by cases e; have := hk.2.1; omega)) (fun _ _ => trivial)
      have hW2 : Below W.heap.size W w2 := Below.grown HW.out hg2 HW.out.size (fun k hk => by cases hk; exact Nat.le_refl _)
      have hln : (ss.map (fun i => (get l i).blk)).length ≤ n := by
        rw [List.length_map]
        have h1 : ss.length ≤ (ids l).length := nodup_len _ _ HC.out.1 HSS.out
        omega
      have HSS2 : Aside0 (∀ i ∈ ss ++ [x], i ∈ ids l) := ⟨fun i hi => by
        rcases List.mem_append.1 hi with hi | hi
        · exact HSS.out i hi
        · rw [List.mem_singleton.1 hi]; exact hxi⟩
      have HMAP : Aside0 ((ss ++ [x]).map (fun i => (get l i).blk) = ss.map (fun i => (get l i).blk) ++ [b1]) := ⟨by rw [List.map_append, hb1]; rfl⟩
      generalize ss.map (fun i => (get l i).blk) = L at *
      obtain ⟨v6, w6, hrun, hr6, hg6, ho6⟩ := Ap.run_append_one (P := Try.prog) (Kd.int .i64) (W := w2.alloc (.cells #[.int .i64 a1, .int .i64 b1, .int .i64 o1, .slice A n1 k1, .slice B m1 j1] 44)) (W.heap.size + 1) 27 27 3 (.int .i64 0) 8 Try.underlying27 cinfo rfl (by decide) (by decide) u3 L b1 [.int .i64 b1] (fun _ => True) (fun _ => False) rfl (fun k hk => hk.elim) (fun _ _ => trivial) (Kd.R_below hR2 (below_alloc (Below.refl _ _) _)) (by simp; omega) (by omega)
      rw [World.size_alloc] at hrun
      have HR6 := Aside0.mk hr6
      have hbase6 := Kd.R_base hR2
      have HRG6 := Aside0.mk ((hrg2.alloc (.cells #[.int .i64 a1, .int .i64 b1, .int .i64 o1, .slice A n1 k1, .slice B m1 j1] 44)).kept hg6 (fun e => by have := hbase6 m e.symm; omega) (fun e => by have := hbase6 _ e.symm; omega))
      have HW6 := Aside0.mk (Below.grown (below_alloc hW2 (.cells #[.int .i64 a1, .int .i64 b1, .int .i64 o1, .slice A n1 k1, .slice B m1 j1] 44)) hg6 (by have := hW2.size; simp; omega) (fun k hk => by have := hbase6 k hk; omega))
      have HZ6 := Aside0.mk (show W.heap.size + 1 ≤ w6.heap.size by have := hg6.size; simp at this; omega)
      have HLT := Aside0.mk hlt
      clear hs2 hr6 hg6 ho6 hrg2 hg2 hlk hat hR2 hW2 hbase6 hxi hb1 hlt
      gi_wp2_with (first
        | (gi_at_builtin; refine Ap.wpListIn_append_run _ rfl _ _ _ rfl _ _ rfl rfl _ _ hrun ?_))
      exact ⟨⟨_, cnt2, ss ++ [x], HRG6, HCL, HSS2, ⟨by rw [HMAP.out]; exact HR6.out⟩, HW6, HZ6⟩, by rw [HRG6.out.left_eq, HRG.out.left_eq]; exact HLT.out⟩
end Go.Proofs.Ytijgfcpffjjlfaa.Pq
