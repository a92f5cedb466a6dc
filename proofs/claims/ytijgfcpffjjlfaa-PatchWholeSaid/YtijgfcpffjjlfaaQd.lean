/- Written by a program of this session. (*Set).Add: the walk. -/
import Derived.Test.YtijgfcpffjjlfaaQb
namespace Go.Proofs.Ytijgfcpffjjlfaa.Pq
open Go Go.RowKit Go.Shelf Go.Proofs Go.Maps Go.Sort Go.Proofs.Ytijgfcpffjjlfaa.XFb Go.Proofs.YtijgfcpffjjlfaaW.PrintWords Go.Proofs.YtijgfcpffjjlfaaW.PrintLast Go.Proofs.YtijgfcpffjjlfaaW.PrintMore
set_option linter.unusedVariables false
set_option linter.unusedSimpArgs false
section
variable {F : Fence} {nF : Nat} (w : World) {ops : Array Oper} {rest : List Oper} {o : Oper} {a : Act} {Q : Exit → Act → World → Prop}
/-- The step of a range over a set's patches. -/
theorem wpListIn_next_set (hg : o.guard = none) (it : Operand) (hop : o.op = Op.next it false) (b r n : Nat) (D : DataW Value) (left : Lit → Bool) (cnt : Nat) {W0 : World} {base : Nat} {S : Nat → Prop} {l : List Pt}
    (h5 : (∀ i : Int, Maps.has D (.int .i64 i) = decide (i ∈ ids l)) ∧ ∀ p ∈ l, ∃ v, (∀ zd, D.atKey (.int .i64 p.id) zd = .held v) ∧ PatV W0 base S p v)
    (hit : a.eval it = .pointer (some ⟨r, 0, none⟩)) (h : w.ranges Try.prog 3 patR b r n D left cnt)
    (hDone : cnt = 0 → (∀ kl, left kl = false) → wpListIn F nF Try.prog ops Q rest (a.put o.dst (.tuple #[.bool false])) w)
    (hMore : ∀ (p : Pt) (A9 : Option Addr) (k9 : Nat) (B9 : Option Addr) (j9 : Nat) (w' : World) (cnt' : Nat), p ∈ l → RB W0 base S (.slice A9 p.by_.length k9) p.by_ → RI W0 base S (.slice B9 p.nd.length j9) p.nd → left (.int .i64 p.id) = true → (∀ zd, D.atKey (.int .i64 p.id) zd = .held (.agg #[.int .i64 p.id, .int .i64 p.blk, .int .i64 p.off, .slice A9 p.by_.length k9, .slice B9 p.nd.length j9])) → w'.ranges Try.prog 3 patR b r n D (fun z => left z && !z.sameKey (.int .i64 p.id)) cnt' → cnt' < cnt →
      w.grownBy w' (some r) → w'.heap.size = w.heap.size → (Instr.entry (.pointer (some ⟨r, 0, none⟩))).run Try.prog w' = .ok (.tuple #[.int .i64 p.id, .agg #[.int .i64 p.id, .int .i64 p.blk, .int .i64 p.off, .slice A9 p.by_.length k9, .slice B9 p.nd.length j9]]) w' → wpListIn F nF Try.prog ops Q rest (a.put o.dst (.tuple #[.bool true, .int .i64 p.id, .agg #[.int .i64 p.id, .int .i64 p.blk, .int .i64 p.off, .slice A9 p.by_.length k9, .slice B9 p.nd.length j9]])) w') :
    wpListIn F nF Try.prog ops Q (o :: rest) a w := by
  refine wpListIn_next_pat w hg it hop b r n D left cnt hit h hDone (fun x a1 b1 o1 A n1 k1 B m1 j1 w' cnt' hwx hlk hat hrg hlt hgr hsz hen => ?_)
  have hxi : x ∈ ids l := by
    have h1 := Maps.has_true_of_atKey hat
    rw [h5.1 x] at h1
    exact of_decide_eq_true h1
  obtain ⟨e, hm⟩ := get_id hxi
  generalize get l x = p at e hm
  subst e
  obtain ⟨v0, hv, A', k', B', j', rfl, q1, q2⟩ := h5.2 p hm
  have h1 := (hat .nil).symm.trans (hv .nil)
  injection h1 with h1
  simp only [Value.agg.injEq, Array.mk.injEq, List.cons.injEq, Value.int.injEq, Value.slice.injEq, true_and, and_true] at h1
  obtain ⟨rfl, rfl, rfl, ⟨rfl, rfl, rfl⟩, rfl, rfl, rfl⟩ := h1
  exact hMore p A k1 B j1 w' cnt' hm q1 q2 hlk hat hrg hlt hgr hsz hen
end
theorem grown_of_below {W W' : World} (h : Below W.heap.size W W') : W.grownBy W' none := ⟨h.os, h.tape, h.output, h.size, fun i hi _ => h.block i hi⟩
theorem pen_congr (l : List Pt) {a b : List Int} (h : ∀ x, x ∈ a ↔ x ∈ b) : pen l a = pen l b := by
  unfold pen
  refine List.filter_congr (fun x _ => ?_)
  exact decide_eq_decide.2 (h x)
/-- The number that Add tells. -/
def addR (last blk off : Int) (by_ nd : List Int) : Int := if addE last blk off by_ nd = 0 then last + 1 else 0
set_option maxRecDepth 100000 in
set_option maxHeartbeats 8000000 in
theorem add_ok {W : World} {base g m d : Nat} {S : Nat → Prop} {l : List Pt} {last : Int} {n : Nat} (h : IsSet W base g m d S l last n) (hn : n ≤ 400) (blk off : Int) (hwb : (Lit.int .i64 blk).wf = true) (A : Option Addr) (c : Nat) (by_ : List Int) (hB : Kd.C (Kd.int .u8) W A by_.length by_) (hbc : by_.length ≤ c) (hbl : by_.length < 140737488355328)
    {b9 : Nat} {S9 : Nat → Prop} (AN : Option Addr) (cN : Nat) (nd : List Int) (hN : RI W b9 S9 (.slice AN nd.length cN) nd) (hnw : ∀ x ∈ nd, (Lit.int .i64 x).wf = true) (hnl : nd.length ≤ 17592186043904) (hl : last + 1 ≤ 1000000000) (hbw : base ≤ W.heap.size) :
    Calls Try.prog 12 #[.pointer (some ⟨g, 0, none⟩), .int .i64 blk, .int .i64 off, .slice A by_.length c, .slice AN nd.length cN] W fun e W' =>
      e = .returned (.tuple #[.int .i64 (addR last blk off by_ nd), .int .i64 (addE last blk off by_ nd)]) ∧ ∃ S', IsSet W' base g m d S' (addL l last blk off by_ nd) (addN last blk off by_ nd) (n + 1) ∧ (∀ k, S' k → S k ∨ W.heap.size ≤ k) ∧ Kept (fun k => k = g ∨ k = m) W W' := by
  have H := Aside0.mk h
  have hfi := Aside0.mk h.fits
  have hg := h.cells
  have hle := h.len_le
  have hgl := h.ltg
  have hml := h.ltm
  have hgm := h.gm
  have HB := Aside0.mk hB
  have HN := Aside0.mk hN
  have HNW := Aside0.mk hnw
  have hA := AS.mk_ W g
  have HA1 := Aside0.mk hA
  have hlt1 : W.heap.size < (W.alloc (.cells #[.pointer (some ⟨g, 0, none⟩)] 23)).heap.size := by simp
  obtain ⟨W1, hW1⟩ : ∃ W1, W.alloc (.cells #[.pointer (some ⟨g, 0, none⟩)] 23) = W1 := ⟨_, rfl⟩
  rw [hW1] at hA HA1 hlt1
  have cb := hA.box
  have HF := Aside0.mk (fits_f blk off by_)
  have HS1 := Aside0.mk (h.below hA.lay)
  have HO1 := Aside0.mk (own_ok W1 g _ _ _ HS1.out.cells)
  clear h hB hN hnw hA
  refine (callsIn_wide (n := 1)).1 ?_
  refine callsIn_of_wp Try.func12 rfl trivial ?_ rfl
  simp only [Try.ntmps12, List.size_toArray, List.length_cons, List.length_nil, Nat.reduceAdd, Nat.reduceSub, Array.replicate_succ, Array.replicate_zero, List.push_toArray, List.append_toArray, List.nil_append, List.cons_append]
  by_cases hft : fitsP blk off by_
  · have HF2 : Aside0 (patch_fits.f blk off by_ = some true) := ⟨by rw [HF.out, decide_eq_true hft]⟩
    have hcon := fun (W0 : World) (hb0 : Below W1.heap.size W1 W0) => contains_ok (Kd.R_below HN.out (below_step HA1.out.lay hb0 (by omega))) (show nd.length ≤ 17592186044416 by omega) (fun i => !known last i) 42 #[.pointer (some ⟨W.heap.size, 0, none⟩)] (enters_of Try.func42 (by kernel_rfl) rfl)
      (fun W4 x hb4 => add1_ok (HS1.out.below (hb0.trans (hb4.mono hb0.size))) x W.heap.size (cell_of (((hb0.trans (hb4.mono hb0.size)).block _ (by omega)).trans HA1.out.1) rfl))
    have HCON := Aside0.mk hcon
    clear hcon HF
    cases hnk : nd.any (fun i => !known last i) with
    | true =>
      have HE : Aside0 (addE last blk off by_ nd = 70) := ⟨by unfold addE; rw [if_neg (fun hh => hh hft), hnk, if_pos rfl]⟩
      simp only [hnk] at HCON
      clear hft
      gi_wp2_with (first
        | (refine ⟨trivial, ?_⟩; gi_at_call 39; refine (callsIn_wide.2 (HO1.out)).mono ?_; rintro e w1 ⟨rfl, hw⟩; rw [hw]; clear hw)
        | (refine ⟨trivial, ?_⟩; gi_at_call 40; refine (callsIn_wide.2 (patch_fits.calls blk off A c by_ true _ (Kd.C_below HB.out HA1.out.lay) hbc HF2.out)).mono ?_; rintro e W0 ⟨rfl, hd⟩; have HB0 := Aside0.mk hd.below; clear hd)
        | (refine ⟨trivial, ?_⟩; gi_at_call 41; refine (callsIn_wide.2 (HCON.out _ HB0.out)).mono ?_; rintro e W2 ⟨rfl, hb⟩; have HB2 := Aside0.mk hb; clear hb))
      refine bodyPost_ret (results_tmp2 rfl _ _ _) rfl ?_
      have hb2 := below_step (below_step HA1.out.lay HB0.out (by omega)) HB2.out (by have := HB0.out.size; omega)
      refine ⟨by rw [show addR last blk off by_ nd = 0 from by unfold addR; rw [HE.out, if_neg (by decide)], HE.out]; rfl, S, ?_, fun k hk => .inl hk, Kept.of_below hb2⟩
      unfold addL addN
      rw [HE.out, if_neg (by decide), if_neg (by decide)]
      exact (H.out.below hb2).monon (Nat.le_succ n)
    | false =>
      have HE : Aside0 (addE last blk off by_ nd = 0) := ⟨by unfold addE; rw [if_neg (fun hh => hh hft), hnk, if_neg (by decide)]⟩
      simp only [hnk] at HCON
      have hwl : Aside0 ((wrap64 (last + 1)) = last + 1) := ⟨by have h0 := hfi.out.last0; unfold wrap64; omega⟩
      have hfB : slices_Clone_byte_byte.f by_ = some by_ := by unfold slices_Clone_byte_byte.f; rw [if_pos hbl]
      have hfN : slices_Clone_int_int.f nd = some nd := by unfold slices_Clone_int_int.f; rw [if_pos (by omega)]
      gi_wp2_with (first
        | (refine ⟨trivial, ?_⟩; gi_at_call 39; refine (callsIn_wide.2 (HO1.out)).mono ?_; rintro e w1 ⟨rfl, hw⟩; rw [hw]; clear hw)
        | (refine ⟨trivial, ?_⟩; gi_at_call 40; refine (callsIn_wide.2 (patch_fits.calls blk off A c by_ true _ (Kd.C_below HB.out HA1.out.lay) hbc HF2.out)).mono ?_; rintro e W0 ⟨rfl, hd⟩; have HB0 := Aside0.mk hd.below; clear hd)
        | (refine ⟨trivial, ?_⟩; gi_at_call 41; refine (callsIn_wide.2 (HCON.out _ HB0.out)).mono ?_; rintro e Wc ⟨rfl, hb⟩; have HB2 := Aside0.mk hb; clear hb))
      have hd1 : Below Wc.heap.size Wc Wc.drew := ⟨rfl, rfl, rfl, Nat.le_refl _, fun _ _ => rfl⟩
      have HA := Aside0.mk (show AS W g Wc.drew from ((HA1.out.below HB0.out).below HB2.out).below hd1)
      have HSZ := Aside0.mk (show W.heap.size < Wc.drew.heap.size by have h1 := HB0.out.size; have h2 := HB2.out.size; show W.heap.size < Wc.heap.size; omega)
      clear HCON HB0 HB2 hd1 HS1 HO1 HA1 hlt1 cb hW1
      refine wpIn_wide.2 ?_
      refine start_ (n := 12) (S := fun w' => w'.cell? ⟨W.heap.size, 0, none⟩ = some (.pointer (some ⟨g, 0, none⟩)) ∧ w'.cell? ⟨g, 0, none⟩ = some (.int .i64 last)) (ds := [11]) #[false, false, false, false, false, false, false, false, false, false, false, false] (by kernel_rfl) rfl rfl ⟨(HA.out.box), (HA.out.cell (i := 0) hg rfl)⟩ (fun hHeld => ?_)
      generalize Wc.drew = W2 at HA HSZ hHeld ⊢
      refine pure_ (i := 5) (N := some 35) (v := ?_) (a' := ?_) #[false, false, false, false, false, true, false, false, false, false, false, false] rfl rfl (by kernel_rfl) (fun _ _ _ h => h) (Or.inl ⟨by rfl, ?_⟩) ?_ ?_
      rotate_left
      · intro w'
        go_simp
        with_reducible rfl
      rotate_left
      · simp only [Act.put, List.setIfInBounds_toArray, List.set_cons_zero, List.set_cons_succ, i64_w, i32_w]
        rfl
      refine pure_ (i := 6) (N := some 36) (v := ?_) (a' := ?_) #[false, false, false, false, false, true, true, false, false, false, false, false] rfl rfl (by kernel_rfl) (fun _ _ _ h => h) (Or.inl ⟨by rfl, ?_⟩) ?_ ?_
      rotate_left
      · intro w'
        go_simp
        with_reducible rfl
      rotate_left
      · simp only [Act.put, List.setIfInBounds_toArray, List.set_cons_zero, List.set_cons_succ, i64_w, i32_w]
        rfl
      refine pure_ (i := 7) (N := some 37) (v := ?_) (a' := ?_) #[false, false, false, false, false, true, true, true, false, false, false, false] rfl rfl (by kernel_rfl) (fun _ _ _ h => h) (Or.inl ⟨by rfl, ?_⟩) ?_ ?_
      rotate_left
      · intro w'
        go_simp
        with_reducible rfl
      rotate_left
      · simp only [Act.put, List.setIfInBounds_toArray, List.set_cons_zero, List.set_cons_succ, i64_w, i32_w]
        rfl
      refine take_ (i := 0) (N := some 30) (v := ?_) (a' := ?_) #[true, false, false, false, false, true, true, true, false, false, false, false] rfl rfl (by kernel_rfl) (fun _ _ _ h => h) (Or.inl ⟨by rfl, ?_⟩) hHeld ?_ ?_
      rotate_left
      · rintro w' ⟨s0, s1⟩
        go_simp
        with_reducible rfl
      rotate_left
      · simp only [Act.put, List.setIfInBounds_toArray, List.set_cons_zero, List.set_cons_succ, i64_w, i32_w]
        rfl
      refine pure_ (i := 1) (N := some 31) (v := ?_) (a' := ?_) #[true, true, false, false, false, true, true, true, false, false, false, false] rfl rfl (by kernel_rfl) (fun _ _ _ h => h) (Or.inl ⟨by rfl, ?_⟩) ?_ ?_
      rotate_left
      · intro w'
        go_simp
        with_reducible rfl
      rotate_left
      · simp only [Act.put, List.setIfInBounds_toArray, List.set_cons_zero, List.set_cons_succ, i64_w, i32_w]
        rfl
      refine pure_ (i := 2) (N := some 32) (v := ?_) (a' := ?_) #[true, true, true, false, false, true, true, true, false, false, false, false] rfl rfl (by kernel_rfl) (fun _ _ _ h => h) (Or.inl ⟨by rfl, ?_⟩) ?_ ?_
      rotate_left
      · intro w'
        go_simp
        with_reducible rfl
      rotate_left
      · simp only [Act.put, List.setIfInBounds_toArray, List.set_cons_zero, List.set_cons_succ, i64_w, i32_w]
        rfl
      refine take_ (i := 3) (N := some 33) (v := ?_) (a' := ?_) #[true, true, true, true, false, true, true, true, false, false, false, false] rfl rfl (by kernel_rfl) (fun _ _ _ h => h) (Or.inl ⟨by rfl, ?_⟩) hHeld ?_ ?_
      rotate_left
      · rintro w' ⟨s0, s1⟩
        go_simp
        with_reducible rfl
      rotate_left
      · simp only [Act.put, List.setIfInBounds_toArray, List.set_cons_zero, List.set_cons_succ, i64_w, i32_w]
        rfl
      refine pure_ (i := 4) (N := some 34) (v := ?_) (a' := ?_) #[true, true, true, true, true, true, true, true, false, false, false, false] rfl rfl (by kernel_rfl) (fun _ _ _ h => h) (Or.inl ⟨by rfl, ?_⟩) ?_ ?_
      rotate_left
      · intro w'
        go_simp
        with_reducible rfl
      rotate_left
      · simp only [Act.put, List.setIfInBounds_toArray, List.set_cons_zero, List.set_cons_succ, i64_w, i32_w]
        rfl
      refine join_ (σ := Value × Nat) 1 #[true, true, true, true, true, true, true, true, true, true, true, false] (fun s => [(38, s.1), (39, .agg #[.int .i64 (wrap64 (last + 1)), .int .i64 blk, .int .i64 off, s.1, .slice none 0 0]), (12, .pointer (some ⟨s.2, 0, none⟩))]) (fun s w' => (∃ A3 c3, s.1 = .slice A3 by_.length c3) ∧ AS W g w' ∧ w'.heap[s.2]? = some (.cells #[.int .i64 0, .int .i64 0, .int .i64 0, .slice none 0 0, .slice none 0 0] 44 (0, 0)) ∧ W.heap.size < s.2 ∧ RB w' (W.heap.size + 1) (fun k => k ≠ s.2) s.1 by_) ?_ ?_
      rotate_left
      · intro hCont
        refine two_ (i := 8) (j := 10) (Ni := some 38) (Nj := some 12) #[true, true, true, true, true, true, true, true, true, false, false, false] #[true, true, true, true, true, true, true, true, false, false, true, false] rfl rfl rfl rfl (by kernel_rfl) (by decide) (by decide) (fun K hK => ?_) (fun K hK => ?_)
        · skip
          refine goes_ Try.func44 (by kernel_rfl) rfl #[.slice A by_.length c] (by rfl) rfl rfl (by simp only [List.map_toArray, List.map_cons, List.map_nil]; rfl) ?_
          with_reducible refine ((slices_Clone_byte_byte.calls A c by_ by_ _ (Kd.C_below HB.out HA.out.lay) hbc hfB)).mono ?_
          rintro e w3 ⟨v3, rfl, hr3, hb3⟩
          refine ⟨_, rfl, ?_⟩
          obtain ⟨A3, c3, hv3⟩ := Kd.R_slice hr3
          subst hv3
          have HR3 := Aside0.mk hr3
          have n0_ := Aside0.mk (HA.out.below hb3)
          clear HA
          have HA := n0_
          clear n0_
          refine hK.out _ _ ⟨(HA.out.box), (HA.out.cell (i := 0) hg rfl)⟩ (fun hHeld => ?_)
          clear hK K
          refine norm_ (a' := ?_) ?_ ?_
          rotate_left
          · show Act.put _ (some 38) _ = _
            simp only [Act.put, List.setIfInBounds_toArray, List.set_cons_zero, List.set_cons_succ, i64_w, i32_w]
            rfl
          refine pure_ (i := 9) (N := some 39) (v := ?_) (a' := ?_) #[true, true, true, true, true, true, true, true, true, true, false, false] rfl rfl (by kernel_rfl) (fun _ _ _ h => h) (Or.inl ⟨by rfl, ?_⟩) ?_ ?_
          rotate_left
          · intro w'
            go_simp
            with_reducible rfl
          rotate_left
          · simp only [Act.put, List.setIfInBounds_toArray, List.set_cons_zero, List.set_cons_succ, i64_w, i32_w]
            rfl
          refine one_ (i := 10) (N := some 12) #[true, true, true, true, true, true, true, true, true, true, true, false] rfl rfl (by kernel_rfl) (by decide) (fun K hK => ?_)
          refine value_ (w1 := ?_) (v := ?_) (by rfl) rfl ?_ ?_
          rotate_left 2
          · go_simp
            constructor
            · rfl
            · rfl
          have n0_ := Aside0.mk (HA.out.alloc (.cells #[.int .i64 0, .int .i64 0, .int .i64 0, .slice none 0 0, .slice none 0 0] 44))
          have HZ := Aside0.mk (World.alloc_heap_new w3 (.cells #[.int .i64 0, .int .i64 0, .int .i64 0, .slice none 0 0, .slice none 0 0] 44))
          clear HA
          have HA := n0_
          clear n0_
          refine hK.out _ _ ⟨(HA.out.box), (HA.out.cell (i := 0) hg rfl)⟩ (fun hHeld => ?_)
          clear hK K
          refine norm_ (a' := ?_) ?_ ?_
          rotate_left
          · show Act.put _ (some 12) _ = _
            simp only [Act.put, List.setIfInBounds_toArray, List.set_cons_zero, List.set_cons_succ, i64_w, i32_w]
            rfl
          exact norm_ (by simp only [putAll, Act.put, List.setIfInBounds_toArray, List.set_cons_zero, List.set_cons_succ]) (hCont (.slice A3 by_.length c3, w3.heap.size) _ ⟨⟨A3, c3, rfl⟩, HA.out, HZ.out, by have := HSZ.out; have := hb3.size; omega, Kd.R_mono (Kd.R_lower (Kd.R_below (Kd.R_bound HR3.out) (below_alloc (Below.refl _ _) (.cells #[.int .i64 0, .int .i64 0, .int .i64 0, .slice none 0 0, .slice none 0 0] 44))) (by have := HSZ.out; omega)) (fun k hk => by have := hk.2.2.1; omega)⟩)
        · skip
          refine value_ (w1 := ?_) (v := ?_) (by rfl) rfl ?_ ?_
          rotate_left 2
          · go_simp
            constructor
            · rfl
            · rfl
          have n0_ := Aside0.mk (HA.out.alloc (.cells #[.int .i64 0, .int .i64 0, .int .i64 0, .slice none 0 0, .slice none 0 0] 44))
          have HZ := Aside0.mk (World.alloc_heap_new W2 (.cells #[.int .i64 0, .int .i64 0, .int .i64 0, .slice none 0 0, .slice none 0 0] 44))
          clear HA
          have HA := n0_
          clear n0_
          refine hK.out _ _ ⟨(HA.out.box), (HA.out.cell (i := 0) hg rfl)⟩ (fun hHeld => ?_)
          clear hK K
          refine norm_ (a' := ?_) ?_ ?_
          rotate_left
          · show Act.put _ (some 12) _ = _
            simp only [Act.put, List.setIfInBounds_toArray, List.set_cons_zero, List.set_cons_succ, i64_w, i32_w]
            rfl
          refine one_ (i := 8) (N := some 38) #[true, true, true, true, true, true, true, true, true, false, true, false] rfl rfl (by kernel_rfl) (by decide) (fun K hK => ?_)
          refine goes_ Try.func44 (by kernel_rfl) rfl #[.slice A by_.length c] (by rfl) rfl rfl (by simp only [List.map_toArray, List.map_cons, List.map_nil]; rfl) ?_
          with_reducible refine ((slices_Clone_byte_byte.calls A c by_ by_ _ (Kd.C_below HB.out HA.out.lay) hbc hfB)).mono ?_
          rintro e w3 ⟨v3, rfl, hr3, hb3⟩
          refine ⟨_, rfl, ?_⟩
          obtain ⟨A3, c3, hv3⟩ := Kd.R_slice hr3
          subst hv3
          have HR3 := Aside0.mk hr3
          have n0_ := Aside0.mk (HA.out.below hb3)
          clear HA
          have HA := n0_
          clear n0_
          have n1_ := Aside0.mk ((hb3.block _ (Array.getElem?_eq_some_iff.1 HZ.out).1).trans HZ.out)
          clear HZ
          have HZ := n1_
          clear n1_
          refine hK.out _ _ ⟨(HA.out.box), (HA.out.cell (i := 0) hg rfl)⟩ (fun hHeld => ?_)
          clear hK K
          refine norm_ (a' := ?_) ?_ ?_
          rotate_left
          · show Act.put _ (some 38) _ = _
            simp only [Act.put, List.setIfInBounds_toArray, List.set_cons_zero, List.set_cons_succ, i64_w, i32_w]
            rfl
          refine pure_ (i := 9) (N := some 39) (v := ?_) (a' := ?_) #[true, true, true, true, true, true, true, true, true, true, true, false] rfl rfl (by kernel_rfl) (fun _ _ _ h => h) (Or.inl ⟨by rfl, ?_⟩) ?_ ?_
          rotate_left
          · intro w'
            go_simp
            with_reducible rfl
          rotate_left
          · simp only [Act.put, List.setIfInBounds_toArray, List.set_cons_zero, List.set_cons_succ, i64_w, i32_w]
            rfl
          exact norm_ (by simp only [putAll, Act.put, List.setIfInBounds_toArray, List.set_cons_zero, List.set_cons_succ]) (hCont (.slice A3 by_.length c3, W2.heap.size) _ ⟨⟨A3, c3, rfl⟩, HA.out, HZ.out, by have := HSZ.out; omega, Kd.R_mono (Kd.R_lower (Kd.R_bound HR3.out) (by have := HSZ.out; simp; omega)) (fun k hk => by have h9 := hk.2.1; simp at h9; omega)⟩)
      rintro ⟨v1, zb⟩ w3 ⟨⟨A3, c3, hv1⟩, ha1, hz1, hzb, hrb1⟩
      simp only at hv1 hz1 hzb hrb1
      subst hv1
      have HA := Aside0.mk ha1
      have HZ := Aside0.mk hz1
      have HRB := Aside0.mk hrb1
      have hHeld : (w3.cell? ⟨W.heap.size, 0, none⟩ = some (.pointer (some ⟨g, 0, none⟩))) ∧ (w3.cell? ⟨g, 0, none⟩ = some (.int .i64 last)) := ⟨ha1.box, ha1.cell (i := 0) hg rfl⟩
      have z0 := cell_of (i := 0) hz1 rfl
      have z1 := cell_of (i := 1) hz1 rfl
      have z2 := cell_of (i := 2) hz1 rfl
      have z3 := cell_of (i := 3) hz1 rfl
      have z4 := cell_of (i := 4) hz1 rfl
      have zf : ∀ i, w3.frozen? ⟨zb, i, none⟩ = false := fun i => by simp [World.frozen?, hz1]
      clear ha1 hz1 hrb1
      refine norm_ (a' := ?_) ?_ ?_
      rotate_left
      · simp only [putAll, Act.put, List.setIfInBounds_toArray, List.set_cons_zero, List.set_cons_succ]
        rfl
      refine last_ (i := 11) (N := none) #[true, true, true, true, true, true, true, true, true, true, true, true] rfl rfl (by kernel_rfl) (by decide) (fun K hK => ?_)
      refine skip_ (w1 := ?_) (by rfl) rfl ?_ ?_
      rotate_left
      · go_simp
        rfl
      refine hK.out _ _ ?_
      clear hK K
      refine done_ (by kernel_rfl) ?_
  
      generalize hW4 : ((((w3.setCell ⟨zb, 0, none⟩ (.int .i64 (wrap64 (last + 1)))).setCell ⟨zb, 1, none⟩ (.int .i64 blk)).setCell ⟨zb, 2, none⟩ (.int .i64 off)).setCell ⟨zb, 3, none⟩ (.slice A3 by_.length c3)).setCell ⟨zb, 4, none⟩ (.slice none 0 0) = W4
      have hz4 : W4.heap[zb]? = some (.cells #[.int .i64 (wrap64 (last + 1)), .int .i64 blk, .int .i64 off, .slice A3 by_.length c3, .slice none 0 0] 44 (0, 0)) := by
        rw [← hW4]; exact set_heap (set_heap (set_heap (set_heap (set_heap HZ.out _) _) _) _) _
      have ha4 : AS W g W4 := by rw [← hW4]; exact ((((HA.out.set hzb _).set hzb _).set hzb _).set hzb _).set hzb _
      have hrb4 : RB W4 (W.heap.size + 1) (fun k => k ≠ zb) (.slice A3 by_.length c3) by_ := by
        rw [← hW4]
        exact Kd.R_far (p := ⟨zb, 4, none⟩) (Kd.R_far (p := ⟨zb, 3, none⟩) (Kd.R_far (p := ⟨zb, 2, none⟩) (Kd.R_far (p := ⟨zb, 1, none⟩) (Kd.R_far (p := ⟨zb, 0, none⟩) HRB.out (fun k hk => hk) _) (fun k hk => hk) _) (fun k hk => hk) _) (fun k hk => hk) _) (fun k hk => hk) _
      clear hW4 HA HZ HRB z0 z1 z2 z3 z4 zf hHeld
      clear hHeld
      have hzlt : zb < W4.heap.size := (Array.getElem?_eq_some_iff.1 hz4).1
      have HRB4 := Aside0.mk (Kd.R_mono (Kd.R_bound hrb4) (ok' := fun k => k ≠ zb ∧ k < W4.heap.size) (fun k hk => ⟨hk.1, hk.2.2.1⟩))
      have HA4 := Aside0.mk ha4
      have HZ4 := Aside0.mk hz4
      have hN4 := Kd.R_reads' (Kd.R_below HN.out ha4.lay)
      have HN4 := Aside0.mk hN4
      have hcN := hN4.2.1
      obtain ⟨D, h3, h4, h5⟩ := H.out.mp
      have HM3 := Aside0.mk h3
      have HM5 := Aside0.mk (And.intro h4 h5)
      have HK := Aside0.mk (H.out.keys h3 h4)
      have cb4 := ha4.box
      clear ha4 hz4 hrb4 hN4 h3 h4 h5
      gi_wp2_with (first
        | (refine ⟨trivial, ?_⟩; gi_at_call 45; refine (callsIn_wide.2 (slices_Clone_int_int.calls AN cN nd nd _ HN4.out.2.2 hcN hfN)).mono ?_; rintro e W5 ⟨v13, rfl, hr, hb⟩; have HR5 := Aside0.mk hr; have hb5 := hb; have HB5 := Aside0.mk hb; clear hr hb; have HA5 := Aside0.mk (HA4.out.below hb5); have cb5 := HA5.out.box; have cg5 := HA5.out.cell (i := 2) hg rfl; have HMM := Aside0.mk (own_at HM3.out (HA5.out.lay.block m hml)); clear hb5)
        | (gi_at_range; refine wpListIn_range_own _ rfl _ 53 rfl 3 44 law Try.underlying53 _ m n D rfl HMM.out ?_; intro w0 hrg0 hg0 hs0))
      go_frame
      have hs5 := HB5.out.size
      obtain ⟨r, hr5⟩ : ∃ r, W5.heap.size = r := ⟨_, rfl⟩
      rw [hr5] at hrg0 hs0 hs5 ⊢
      have hsw : W.heap.size < zb := hzb
      have HR0 := Aside0.mk (show RI w0 W4.heap.size (fun k => k ≠ r) v13 nd from Kd.R_mono (Kd.R_grown (Kd.R_bound HR5.out) hg0 (fun k hk e => by cases e)) (fun k hk => by have := hk.2.2.1; omega))
      have HA0 := Aside0.mk (HA5.out.grown hg0 (fun k hk => by cases hk))
      have HZ0 := Aside0.mk ((hg0.block zb (by omega) (fun e => by cases e)).trans ((HB5.out.block zb hzlt).trans HZ4.out))
      have HRB0 := Aside0.mk (Kd.R_grown (Kd.R_below HRB4.out HB5.out) hg0 (fun k hk e => by cases e))
      have HRG0 := Aside0.mk hrg0
      clear hg0 hrg0 cb4 cb5 cg5 HR5 HB5 HA5 HZ4 HRB4 hr5 HMM HN4
      gi_loopw [13] (fun v13 wr => ∃ (left : Lit → Bool) (cnt : Nat) (ss : List Int), Aside0 (wr.ranges Try.prog 3 patR m r n D left cnt) ∧ Aside0 (CollectedI D left ss) ∧ Aside0 (∀ i ∈ ss, i ∈ ids l) ∧ Aside0 (RI wr W4.heap.size (fun k => k ≠ r) v13 (nd ++ ss.filter (fun i => ovl (⟨last + 1, blk, off, by_, []⟩ : Pt) (get l i)))) ∧ Aside0 (AS W g wr) ∧ Aside0 (wr.heap[zb]? = some (.cells #[.int .i64 (wrap64 (last + 1)), .int .i64 blk, .int .i64 off, .slice A3 by_.length c3, .slice none 0 0] 44 (0, 0))) ∧ Aside0 (RB wr (W.heap.size + 1) (fun k => k ≠ zb ∧ k < W4.heap.size) (.slice A3 by_.length c3) by_) ∧ Aside0 (r + 1 ≤ wr.heap.size)) (fun _ wr => wr.rangeLeft m r)
      case atStart => exact ⟨_, _, [], HRG0, ⟨CollectedI.start D⟩, ⟨fun i hi => by cases hi⟩, ⟨by rw [List.filter_nil, List.append_nil]; exact HR0.out⟩, HA0, HZ0, HRB0, ⟨by omega⟩⟩
      case round =>
        obtain ⟨left, cnt, ss, HRG, HC, HSS, HR, HA, HZ, HRB, HSZ⟩ := hrel
        gi_wp2_with (first
          | (gi_at_next; refine wpListIn_next_set _ rfl _ rfl m r n D _ _ HM5.out rfl HRG.out ?_ ?_))
        · intro hc0 hl0
          have HP := Aside0.mk (HC.out.perm HM3.out law Try.underlying3 hl0)
          have hmem : ∀ i, i ∈ ss ↔ i ∈ ids l := fun i => (HP.out.trans HK.out.symm).mem_iff
          have HPE : Aside0 (pen l (nd ++ ss.filter (fun i => ovl (⟨last + 1, blk, off, by_, []⟩ : Pt) (get l i))) = (newP l last blk off by_ nd).nd) := ⟨pen_congr l (fun x => by
            rw [List.mem_append, List.mem_append]
            refine or_congr Iff.rfl ?_
            rw [List.mem_filter, hmem x]
            constructor
            · rintro ⟨h1, h2⟩
              obtain ⟨e, hm⟩ := get_id h1
              exact List.mem_map.2 ⟨get l x, List.mem_filter.2 ⟨hm, h2⟩, e⟩
            · intro h1
              obtain ⟨q, hq, rfl⟩ := List.mem_map.1 h1
              obtain ⟨h2, h3⟩ := List.mem_filter.1 hq
              exact ⟨List.mem_map_of_mem h2, by rw [get_mem hfi.out.rise h2]; exact h3⟩)⟩
          have hLw : ∀ x ∈ nd ++ ss.filter (fun i => ovl (⟨last + 1, blk, off, by_, []⟩ : Pt) (get l i)), (Lit.int .i64 x).wf = true := fun x hx => by
            rcases List.mem_append.1 hx with hx | hx
            · exact HNW.out x hx
            · exact wf_id hfi.out ((hmem x).1 (List.mem_filter.1 hx).1)
          have hLl : (nd ++ ss.filter (fun i => ovl (⟨last + 1, blk, off, by_, []⟩ : Pt) (get l i))).length ≤ 17592186044400 := by
            have h1 : (ss.filter (fun i => ovl (⟨last + 1, blk, off, by_, []⟩ : Pt) (get l i))).length ≤ ss.length := List.length_filter_le _ _
            have h2 := nodup_len _ _ HC.out.1 HSS.out
            rw [List.length_append]
            omega
          have HLW := Aside0.mk hLw
          clear hLw hl0 hc0 HC HSS HP hmem
          generalize nd ++ ss.filter (fun i => ovl (⟨last + 1, blk, off, by_, []⟩ : Pt) (get l i)) = L at *
          have HS := Aside0.mk (H.out.below HA.out.lay)
          obtain ⟨A13, c13, hv13⟩ := Kd.R_slice HR.out
          subst hv13
          have cbw := HA.out.box
          have hszw := HSZ.out
          gi_wp2_with (first
            | (refine ⟨trivial, ?_⟩; gi_at_call 47; refine (callsIn_wide.2 (pending_ok HS.out A13 c13 L (Kd.R_reads' HR.out).2.2 HLW.out hLl)).mono ?_; rintro e W7 ⟨vN, rfl, hr, hb⟩; rw [HPE.out] at hr; obtain ⟨NN, hNN⟩ : ∃ NN, (newP l last blk off by_ nd).nd = NN := ⟨_, rfl⟩; rw [hNN] at hr; obtain ⟨AP, cP, hvN⟩ := Kd.R_slice hr; subst hvN; have HNN := Aside0.mk hNN; have HRN := Aside0.mk hr; have HB7 := Aside0.mk hb; clear hr hb hNN; have HA7 := Aside0.mk (HA.out.below HB7.out); have HZ7 := Aside0.mk ((HB7.out.block zb (by omega)).trans HZ.out); have hg7 := (HA7.out.lay.block g hgl).trans hg; have b7 := HA7.out.box; have g70 := cell_of (i := 0) hg7 rfl; have g72 := cell_of (i := 2) hg7 rfl; have cz7 := cell_of (i := 4) HZ7.out rfl; have fz7 : W7.frozen? ⟨zb, 4, none⟩ = false := (by simp [World.frozen?, HZ7.out]); have fg7 : W7.frozen? ⟨g, 0, none⟩ = false := (by simp [World.frozen?, hg7])))
          have hb7s := HB7.out.size
          have hgz : g ≠ zb := by omega
          generalize hW6 : (W7.setCell ⟨zb, 4, none⟩ (.slice AP NN.length cP)).setCell ⟨g, 0, none⟩ (.int .i64 (wrap64 (last + 1))) = W6
          have hz6 : W6.heap[zb]? = some (.cells #[.int .i64 (wrap64 (last + 1)), .int .i64 blk, .int .i64 off, .slice A3 by_.length c3, .slice AP NN.length cP] 44 (0, 0)) := by
            rw [← hW6]; exact (Below.heap_setCell _ _ _ _ (by simp; omega)).trans (set_heap HZ7.out _)
          have hg6 : W6.heap[g]? = some (.cells #[.int .i64 (wrap64 (last + 1)), .map (some d), .map (some m), .bool true] 55 (0, 0)) := by
            rw [← hW6]; exact set_heap ((Below.heap_setCell _ _ _ _ (by simp; omega)).trans hg7) _
          have hk6 : ∀ k, k ≠ zb → k ≠ g → W6.heap[k]? = W7.heap[k]? := by
            intro k h1 h2; rw [← hW6]; exact (Below.heap_setCell _ _ _ _ (by simp; omega)).trans (Below.heap_setCell _ _ _ _ (by simp; omega))
          have hs6 : W6.heap.size = W7.heap.size := by rw [← hW6]; simp
          have HK6 := Aside0.mk (show Kept (fun k => k = g) W W6 from ⟨by rw [← hW6]; exact HA7.out.lay.os, by rw [← hW6]; exact HA7.out.lay.tape, by rw [← hW6]; exact HA7.out.lay.output, by rw [hs6]; exact HA7.out.lay.size, fun k hk hne => (hk6 k (by omega) hne).trans (HA7.out.lay.block k hk)⟩)
          have hb6 := (hk6 W.heap.size (by omega) (by omega)).trans HA7.out.1
          have hmm6 : mapM W6.drew m n D := own_at HM3.out (show W6.heap[m]? = W.heap[m]? from (hk6 m (by omega) (fun e => hgm.1 e.symm)).trans (HA7.out.lay.block m hml))
          obtain ⟨w10, hput0, hm10, hgr10⟩ := hmm6.update law Try.underlying53 (by unfold maxLen; omega) (Maps.keyOf_int_mk Try.underlying3 (show (Lit.int .i64 (wrap64 (last + 1))).wf = true by rw [hwl.out]; have h0 := hfi.out.last0; exact WalkArith.wf_i64 (by omega))) (patR_mk (wrap64 (last + 1)) blk off A3 by_.length c3 AP NN.length cP)
          have hput := Aside0.mk hput0
          have HRB6 := Aside0.mk (show RB W6 W.heap.size (fun _ => True) (.slice A3 by_.length c3) by_ from Kd.R_lower (Kd.R_mono (Kd.R_step (Kd.R_bound (Kd.R_below HRB.out HB7.out)) (fun k hk _ => hk6 k hk.1.1 (by have := hk.2.1; omega))) (fun _ _ => trivial)) (by omega))
          have HRN6 := Aside0.mk (show RI W6 W.heap.size (fun _ => True) (.slice AP NN.length cP) NN from Kd.R_lower (Kd.R_mono (Kd.R_step (Kd.R_bound HRN.out) (fun k hk _ => hk6 k (by have := hk.2.1; omega) (by have := hk.2.1; omega))) (fun _ _ => trivial)) (by omega))
          have HM10 := Aside0.mk hm10
          have HGR10 := Aside0.mk (show W6.grownBy w10 (some m) from ⟨hgr10.os, hgr10.tape, hgr10.output, hgr10.size, hgr10.block⟩)
          clear hput0 hm10 hgr10 hmm6 HRB HRN HR HA HZ cbw hk6 hW6 b7 g70 g72 cz7 fz7 fg7 HS HLW HRG hft
          refine wpIn_wide.2 ?_
          refine start_ (n := 10) (S := fun w' => w'.cell? ⟨W.heap.size, 0, none⟩ = some (.pointer (some ⟨g, 0, none⟩)) ∧ w'.cell? ⟨g, 2, none⟩ = some (.map (some m)) ∧ w'.cell? ⟨g, 0, none⟩ = some (.int .i64 (wrap64 (last + 1))) ∧ w'.cell? ⟨zb, 0, none⟩ = some (.int .i64 (wrap64 (last + 1))) ∧ w'.cell? ⟨zb, 1, none⟩ = some (.int .i64 blk) ∧ w'.cell? ⟨zb, 2, none⟩ = some (.int .i64 off) ∧ w'.cell? ⟨zb, 3, none⟩ = some (.slice A3 by_.length c3) ∧ w'.cell? ⟨zb, 4, none⟩ = some (.slice AP NN.length cP)) (ds := [9]) #[false, false, false, false, false, false, false, false, false, false] (by kernel_rfl) rfl rfl ⟨(cell_of hb6 rfl), (cell_of hg6 rfl), (cell_of hg6 rfl), (cell_of (i := 0) hz6 rfl), (cell_of (i := 1) hz6 rfl), (cell_of (i := 2) hz6 rfl), (cell_of (i := 3) hz6 rfl), (cell_of (i := 4) hz6 rfl)⟩ (fun hHeld => ?_)
          refine take_ (i := 0) (N := some 70) (v := ?_) (a' := ?_) #[true, false, false, false, false, false, false, false, false, false] rfl rfl (by kernel_rfl) (fun _ _ _ h => h) (Or.inl ⟨by rfl, ?_⟩) hHeld ?_ ?_
          rotate_left
          · rintro w' ⟨s0, s1, s2, s3, s4, s5, s6, s7⟩
            go_simp
            with_reducible rfl
          rotate_left
          · simp only [Act.put, List.setIfInBounds_toArray, List.set_cons_zero, List.set_cons_succ, i64_w, i32_w]
            rfl
          refine pure_ (i := 1) (N := some 71) (v := ?_) (a' := ?_) #[true, true, false, false, false, false, false, false, false, false] rfl rfl (by kernel_rfl) (fun _ _ _ h => h) (Or.inl ⟨by rfl, ?_⟩) ?_ ?_
          rotate_left
          · intro w'
            go_simp
            with_reducible rfl
          rotate_left
          · simp only [Act.put, List.setIfInBounds_toArray, List.set_cons_zero, List.set_cons_succ, i64_w, i32_w]
            rfl
          refine pure_ (i := 2) (N := some 72) (v := ?_) (a' := ?_) #[true, true, true, false, false, false, false, false, false, false] rfl rfl (by kernel_rfl) (fun _ _ _ h => h) (Or.inl ⟨by rfl, ?_⟩) ?_ ?_
          rotate_left
          · intro w'
            go_simp
            with_reducible rfl
          rotate_left
          · simp only [Act.put, List.setIfInBounds_toArray, List.set_cons_zero, List.set_cons_succ, i64_w, i32_w]
            rfl
          refine take_ (i := 3) (N := some 73) (v := ?_) (a' := ?_) #[true, true, true, true, false, false, false, false, false, false] rfl rfl (by kernel_rfl) (fun _ _ _ h => h) (Or.inl ⟨by rfl, ?_⟩) hHeld ?_ ?_
          rotate_left
          · rintro w' ⟨s0, s1, s2, s3, s4, s5, s6, s7⟩
            go_simp
            with_reducible rfl
          rotate_left
          · simp only [Act.put, List.setIfInBounds_toArray, List.set_cons_zero, List.set_cons_succ, i64_w, i32_w]
            rfl
          refine take_ (i := 4) (N := some 74) (v := ?_) (a' := ?_) #[true, true, true, true, true, false, false, false, false, false] rfl rfl (by kernel_rfl) (fun _ _ _ h => h) (Or.inl ⟨by rfl, ?_⟩) hHeld ?_ ?_
          rotate_left
          · rintro w' ⟨s0, s1, s2, s3, s4, s5, s6, s7⟩
            go_simp
            with_reducible rfl
          rotate_left
          · simp only [Act.put, List.setIfInBounds_toArray, List.set_cons_zero, List.set_cons_succ, i64_w, i32_w]
            rfl
          refine pure_ (i := 5) (N := some 75) (v := ?_) (a' := ?_) #[true, true, true, true, true, true, false, false, false, false] rfl rfl (by kernel_rfl) (fun _ _ _ h => h) (Or.inl ⟨by rfl, ?_⟩) ?_ ?_
          rotate_left
          · intro w'
            go_simp
            with_reducible rfl
          rotate_left
          · simp only [Act.put, List.setIfInBounds_toArray, List.set_cons_zero, List.set_cons_succ, i64_w, i32_w]
            rfl
          refine pure_ (i := 6) (N := some 76) (v := ?_) (a' := ?_) #[true, true, true, true, true, true, true, false, false, false] rfl rfl (by kernel_rfl) (fun _ _ _ h => h) (Or.inl ⟨by rfl, ?_⟩) ?_ ?_
          rotate_left
          · intro w'
            go_simp
            with_reducible rfl
          rotate_left
          · simp only [Act.put, List.setIfInBounds_toArray, List.set_cons_zero, List.set_cons_succ, i64_w, i32_w]
            rfl
          refine take_ (i := 7) (N := some 77) (v := ?_) (a' := ?_) #[true, true, true, true, true, true, true, true, false, false] rfl rfl (by kernel_rfl) (fun _ _ _ h => h) (Or.inl ⟨by rfl, ?_⟩) hHeld ?_ ?_
          rotate_left
          · rintro w' ⟨s0, s1, s2, s3, s4, s5, s6, s7⟩
            go_simp
            with_reducible rfl
          rotate_left
          · simp only [Act.put, List.setIfInBounds_toArray, List.set_cons_zero, List.set_cons_succ, i64_w, i32_w]
            rfl
          refine take_ (i := 8) (N := some 78) (v := ?_) (a' := ?_) #[true, true, true, true, true, true, true, true, true, false] rfl rfl (by kernel_rfl) (fun _ _ _ h => h) (Or.inl ⟨by rfl, ?_⟩) hHeld ?_ ?_
          rotate_left
          · rintro w' ⟨s0, s1, s2, s3, s4, s5, s6, s7⟩
            go_simp
            with_reducible rfl
          rotate_left
          · simp only [Act.put, List.setIfInBounds_toArray, List.set_cons_zero, List.set_cons_succ, i64_w, i32_w]
            rfl
          refine last_ (i := 9) (N := none) #[true, true, true, true, true, true, true, true, true, true] rfl rfl (by kernel_rfl) (by decide) (fun K hK => ?_)
          refine skip_ (w1 := ?_) (by rfl) rfl ?_ ?_
          rotate_left
          · go_simp
            rw [hput.out]
            rfl
          refine hK.out _ _ ?_
          clear hK K
          refine done_ (by kernel_rfl) ?_
    
          have hb10 := (HGR10.out.block W.heap.size (by omega) (fun e => by injection e with e; omega)).trans hb6
          have hg10 := (HGR10.out.block g (by omega) (fun e => by injection e with e; exact hgm.1 e)).trans hg6
          have cb10 := cell_of (i := 0) hb10 rfl
          have cg10 := cell_of (i := 0) hg10 rfl
          clear hHeld
          gi_wp2
          refine bodyPost_ret (results_tmp2 rfl _ _ _) rfl ?_
          have hnn := HNN.out
          subst hnn
          have hm10 := HM10.out
          rw [hwl.out] at hm10 hg6
          refine ⟨by rw [show addR last blk off by_ nd = (wrap64 (last + 1)) from by unfold addR; rw [HE.out, if_pos rfl, hwl.out], HE.out]; rfl, ?_⟩
          exact H.out.added blk off by_ nd HE.out hwb hl hbw _ _ ⟨A3, c3, rfl⟩ ⟨AP, cP, rfl⟩ HRB6.out HRN6.out HK6.out hg6 HM5.out hm10 HM3.out.isMap HGR10.out
        · intro p A9 k9 B9 j9 w2 cnt2 hp hpb hpn hlk hat hrg2 hlt hg2 hs2 hen
          have hpid : p.id ∈ ids l := List.mem_map_of_mem hp
          have hgp : get l p.id = p := get_mem hfi.out.rise hp
          have HRG2 := Aside0.mk hrg2
          have HCL := Aside0.mk (HC.out.step hlk hat)
          have hz2 : r + 1 ≤ w2.heap.size := by rw [hs2]; exact HSZ.out
          have hnm : (ss.filter (fun i => ovl (⟨last + 1, blk, off, by_, []⟩ : Pt) (get l i))).length ≤ n := by
            have h1 : (ss.filter (fun i => ovl (⟨last + 1, blk, off, by_, []⟩ : Pt) (get l i))).length ≤ ss.length := List.length_filter_le _ _
            have h2 := nodup_len _ _ HC.out.1 HSS.out
            omega
          have HSS2 : Aside0 (∀ i ∈ ss ++ [p.id], i ∈ ids l) := ⟨fun i hi => by
            rcases List.mem_append.1 hi with hi | hi
            · exact HSS.out i hi
            · rw [List.mem_singleton.1 hi]; exact hpid⟩
          have HMAP : Aside0 (nd ++ (ss ++ [p.id]).filter (fun i => ovl (⟨last + 1, blk, off, by_, []⟩ : Pt) (get l i)) = (nd ++ ss.filter (fun i => ovl (⟨last + 1, blk, off, by_, []⟩ : Pt) (get l i))) ++ (if ovl (⟨last + 1, blk, off, by_, []⟩ : Pt) p = true then [p.id] else [])) := ⟨by
            rw [List.filter_append, List.append_assoc]
            congr 2
            cases hh : ovl (⟨last + 1, blk, off, by_, []⟩ : Pt) p <;> simp [hgp, hh]⟩
          have hLl : (nd ++ ss.filter (fun i => ovl (⟨last + 1, blk, off, by_, []⟩ : Pt) (get l i))).length ≤ 17592186043904 + n := by rw [List.length_append]; omega
          have hR2 : RI w2 W4.heap.size (fun k => k ≠ r) u13 (nd ++ ss.filter (fun i => ovl (⟨last + 1, blk, off, by_, []⟩ : Pt) (get l i))) := Kd.R_grown HR.out hg2 (fun k hk e => hk (Option.some.inj e))
          generalize nd ++ ss.filter (fun i => ovl (⟨last + 1, blk, off, by_, []⟩ : Pt) (get l i)) = L at *
          have HR2 := Aside0.mk hR2
          have HA2 := Aside0.mk (HA.out.grown hg2 (fun k hk => by cases hk; omega))
          have HZ2 := Aside0.mk ((hg2.block zb (by have := HSZ.out; omega) (fun e => by cases e; omega)).trans HZ.out)
          have HRB2 := Aside0.mk (Kd.R_grown HRB.out hg2 (fun k hk e => by cases e; omega))
          have hof := hfi.out.off0 p hp
          have hom := hfi.out.offm p hp
          have HLT := Aside0.mk hlt
          have hoff : 0 ≤ off ∧ off + by_.length ≤ 128 := by
            have hft2 : 0 ≤ blk ∧ 0 ≤ off ∧ 0 < by_.length ∧ off ≤ 128 ∧ (by_.length : Int) ≤ 128 - off := hft
            omega
          have hW2 := HA2.out.lay
          have HPB := Aside0.mk (Kd.R_below hpb hW2)
          have HPN := Aside0.mk (Kd.R_below hpn hW2)
          have HOV := Aside0.mk (overlap_f (wrap64 (last + 1)) (⟨last + 1, blk, off, by_, []⟩ : Pt) p hoff ⟨hof, hom⟩)
          obtain ⟨W3, hW3⟩ : ∃ W3, w2.alloc (.cells #[.int .i64 p.id, .int .i64 p.blk, .int .i64 p.off, .slice A9 p.by_.length k9, .slice B9 p.nd.length j9] 44) = W3 := ⟨_, rfl⟩
          have hb3 : Below w2.heap.size w2 W3 := by rw [← hW3]; exact below_alloc (Below.refl _ _) _
          have HB3 := Aside0.mk hb3
          have HZ3 := Aside0.mk ((hb3.block zb (by omega)).trans HZ2.out)
          have hx3 : W3.heap[w2.heap.size]? = some (.cells #[.int .i64 p.id, .int .i64 p.blk, .int .i64 p.off, .slice A9 p.by_.length k9, .slice B9 p.nd.length j9] 44 (0, 0)) := by rw [← hW3]; exact World.alloc_heap_new _ _
          obtain ⟨xb, hxb⟩ : ∃ xb, w2.heap.size = xb := ⟨_, rfl⟩
          have y0 := cell_of (i := 0) HZ3.out rfl
          have y1 := cell_of (i := 1) HZ3.out rfl
          have y2 := cell_of (i := 2) HZ3.out rfl
          have y3 := cell_of (i := 3) HZ3.out rfl
          have y4 := cell_of (i := 4) HZ3.out rfl
          rw [hxb] at hx3
          have x0 := cell_of (i := 0) hx3 rfl
          have x1 := cell_of (i := 1) hx3 rfl
          have x2 := cell_of (i := 2) hx3 rfl
          have x3 := cell_of (i := 3) hx3 rfl
          have x4 := cell_of (i := 4) hx3 rfl
          have c3l := (Kd.R_reads' HRB2.out).2.1
          have k9l := (Kd.R_reads' HPB.out).2.1
          have j9l := (Kd.R_reads' HPN.out).2.1
          have HCA := Aside0.mk (Kd.C_below (Kd.R_reads' HRB2.out).2.2 hb3)
          have HCB := Aside0.mk (Kd.C_below (Kd.R_reads' HPB.out).2.2 hb3)
          have HCN := Aside0.mk (Kd.C_below (Kd.R_reads' HPN.out).2.2 hb3)
          have HC0 := Aside0.mk (Kd.R_reads' (Kd.R_nil (Kd.int .i64) 3 W3 0 (fun _ => True))).2.2
          have HRG3 := Aside0.mk (show W3.ranges Try.prog 3 patR m r n D _ cnt2 from by rw [← hW3]; exact hrg2.alloc _)
          clear hlk hat hrg2 hg2 hs2 hpb hpn hR2 hW2 hof hom hoff hlt hb3 hx3 hp hpid hgp
          cases hov : ovl (⟨last + 1, blk, off, by_, []⟩ : Pt) p with
          | true =>
            rw [hov] at HOV HMAP
            have hwz := HB3.out.size
            gi_wp2_with (first
              | (refine ⟨trivial, ?_⟩; gi_at_call 46; refine (callsIn_wide.2 (patch_overlap.calls (wrap64 (last + 1)) blk off A3 c3 by_ none 0 [] p.id p.blk p.off A9 k9 p.by_ B9 j9 p.nd true _ HCA.out c3l HC0.out (Nat.le_refl 0) HCB.out k9l HCN.out j9l HOV.out)).mono ?_; rintro e w7 ⟨rfl, hb⟩; have HB7 := Aside0.mk hb; have hb7s := hb.size; have HR7 := Aside0.mk (Kd.R_below (Kd.R_below HR2.out HB3.out) hb); clear hb; obtain ⟨v6, w6, hrun, hr6, hg6, ho6⟩ := Ap.run_append_one (P := Try.prog) (Kd.int .i64) (W := w7) W4.heap.size 27 27 3 (.int .i64 0) 8 Try.underlying27 cinfo rfl (by decide) (by decide) u13 L p.id [.int .i64 p.id] (fun k => k ≠ r) (fun _ => False) rfl (fun k hk => hk.elim) (fun k hk => by omega) HR7.out (by omega) (by omega); have HR6 := Aside0.mk hr6; have HG6 := Aside0.mk hg6; clear hr6 hg6 ho6)
              | (gi_at_builtin; refine Ap.wpListIn_append_run _ rfl _ _ _ rfl _ _ rfl rfl _ _ hrun ?_))
            have hbs := HR2.out.1
            have hbb := Kd.R_base HR2.out
            have hg6s := HG6.out.size
            have hb7s := HB7.out.size
            have hg7 := grown_of_below HB7.out
            have HRG6 := Aside0.mk ((HRG3.out.kept hg7 (by simp) (by simp)).kept HG6.out (fun e => by have := hbb m e.symm; omega) (fun e => hbs r e.symm rfl))
            exact ⟨⟨_, cnt2, ss ++ [p.id], HRG6, HCL, HSS2, ⟨by rw [HMAP.out, if_pos trivial]; exact HR6.out⟩,
              ⟨((HA2.out.below HB3.out).below HB7.out).grown HG6.out (fun k hk => by have := hbb k hk; omega)⟩,
              ⟨(HG6.out.block zb (by omega) (fun e => by have := hbb zb e.symm; omega)).trans ((HB7.out.block zb (by omega)).trans HZ3.out)⟩,
              ⟨Kd.R_grown (Kd.R_below (Kd.R_below HRB2.out HB3.out) HB7.out) HG6.out (fun k hk e => by have := hbb k e.symm; omega)⟩, ⟨by omega⟩⟩, by rw [HRG6.out.left_eq, HRG.out.left_eq]; exact HLT.out⟩
          | false =>
            rw [hov] at HOV HMAP
            have hwz := HB3.out.size
            gi_wp2_with (first
              | (refine ⟨trivial, ?_⟩; gi_at_call 46; refine (callsIn_wide.2 (patch_overlap.calls (wrap64 (last + 1)) blk off A3 c3 by_ none 0 [] p.id p.blk p.off A9 k9 p.by_ B9 j9 p.nd false _ HCA.out c3l HC0.out (Nat.le_refl 0) HCB.out k9l HCN.out j9l HOV.out)).mono ?_; rintro e w7 ⟨rfl, hb⟩; have HB7 := Aside0.mk hb; clear hb))
            have hb7s := HB7.out.size
            have hg7 := grown_of_below HB7.out
            have HRG6 := Aside0.mk (HRG3.out.kept hg7 (by simp) (by simp))
            exact ⟨⟨_, cnt2, ss ++ [p.id], HRG6, HCL, HSS2, ⟨by rw [HMAP.out, if_neg (by decide), List.append_nil]; exact Kd.R_below (Kd.R_below HR2.out HB3.out) HB7.out⟩,
              ⟨(HA2.out.below HB3.out).below HB7.out⟩,
              ⟨(HB7.out.block zb (by omega)).trans HZ3.out⟩,
              ⟨Kd.R_below (Kd.R_below HRB2.out HB3.out) HB7.out⟩, ⟨by omega⟩⟩, by rw [HRG6.out.left_eq, HRG.out.left_eq]; exact HLT.out⟩
  · have HF2 : Aside0 (patch_fits.f blk off by_ = some false) := ⟨by rw [HF.out, decide_eq_false hft]⟩
    have HE : Aside0 (addE last blk off by_ nd = 1) := ⟨by unfold addE; rw [if_pos hft]⟩
    clear hft HF
    gi_wp2_with (first
      | (refine ⟨trivial, ?_⟩; gi_at_call 39; refine (callsIn_wide.2 (HO1.out)).mono ?_; rintro e w1 ⟨rfl, hw⟩; rw [hw]; clear hw)
      | (refine ⟨trivial, ?_⟩; gi_at_call 40; refine (callsIn_wide.2 (patch_fits.calls blk off A c by_ false _ (Kd.C_below HB.out HA1.out.lay) hbc HF2.out)).mono ?_; rintro e W0 ⟨rfl, hd⟩; have HB0 := Aside0.mk hd.below; clear hd))
    refine bodyPost_ret (results_tmp2 rfl _ _ _) rfl ?_
    have hb2 := below_step HA1.out.lay HB0.out (by omega)
    refine ⟨by rw [show addR last blk off by_ nd = 0 from by unfold addR; rw [HE.out, if_neg (by decide)], HE.out]; rfl, S, ?_, fun k hk => .inl hk, Kept.of_below hb2⟩
    unfold addL addN
    rw [HE.out, if_neg (by decide), if_neg (by decide)]
    exact (H.out.below hb2).monon (Nat.le_succ n)
end Go.Proofs.Ytijgfcpffjjlfaa.Pq
