/- Written by a program of this session. (*Set).Undo; New. -/
import Derived.Test.YtijgfcpffjjlfaaQd
namespace Go.Proofs.Ytijgfcpffjjlfaa.Pq
open Go Go.RowKit Go.Shelf Go.Proofs Go.Maps Go.Sort Go.Proofs.Ytijgfcpffjjlfaa.XFb Go.Proofs.YtijgfcpffjjlfaaW.PrintWords Go.Proofs.YtijgfcpffjjlfaaW.PrintLast Go.Proofs.YtijgfcpffjjlfaaW.PrintMore
set_option linter.unusedVariables false
set_option linter.unusedSimpArgs false
section
variable {F : Fence} {nF : Nat} (w : World) {ops : Array Oper} {rest : List Oper} {o : Oper} {a : Act} {Q : Exit → Act → World → Prop}
/-- The step of a range over the map of those that are done. -/
theorem wpListIn_next_unit (hg : o.guard = none) (it : Operand) (hop : o.op = Op.next it false) (b r n : Nat) (D : DataW Unit) (left : Lit → Bool) (cnt : Nat)
    (hit : a.eval it = .pointer (some ⟨r, 0, none⟩)) (h : w.ranges Try.prog 3 unitElem b r n D left cnt)
    (hDone : cnt = 0 → (∀ kl, left kl = false) → wpListIn F nF Try.prog ops Q rest (a.put o.dst (.tuple #[.bool false])) w)
    (hMore : ∀ (x : Int) (w' : World) (cnt' : Nat), (Lit.int .i64 x).wf = true → left (.int .i64 x) = true → (∀ zd, D.atKey (.int .i64 x) zd = .agg []) → w'.ranges Try.prog 3 unitElem b r n D (fun z => left z && !z.sameKey (.int .i64 x)) cnt' → cnt' < cnt →
      w.grownBy w' (some r) → w'.heap.size = w.heap.size → (Instr.entry (.pointer (some ⟨r, 0, none⟩))).run Try.prog w' = .ok (.tuple #[.int .i64 x, .agg #[]]) w' → wpListIn F nF Try.prog ops Q rest (a.put o.dst (.tuple #[.bool true, .int .i64 x, .agg #[]])) w') :
    wpListIn F nF Try.prog ops Q (o :: rest) a w :=
  wpListIn_next_ranges w hg it hop 3 law unitElem (Value.int .i64) (fun _ : Unit => Value.agg #[]) (fun key kl hkey => by obtain ⟨x, rfl, _⟩ := Maps.keyOf_int_inv Try.underlying3 hkey; exact ⟨x, rfl⟩) (fun v y hv => ⟨(), (unitElem_inv hv).1⟩) b r n D left cnt hit h hDone (fun x c kl y w' cnt' hkey hlk hv hat hrg hlt hgr hsz hen => by
    obtain ⟨x', ex, rfl, hwx⟩ := Maps.keyOf_int_inv Try.underlying3 hkey
    cases ex
    have h2 := (unitElem_inv hv).2
    rw [h2] at hat
    exact hMore x w' cnt' hwx hlk hat hrg hlt hgr hsz hen)
end
theorem turned_size {w w' : World} {b : Nat} (h : w.mapTurned w' b) : w'.heap.size = w.heap.size := by
  obtain ⟨es, c, es', c', _, rfl⟩ := h
  simp [Go.ChangeMaps.setBlock]
/-- What Undo leaves. -/
def undoR (l : List Pt) (last t : Int) : List Pt := if undoE l last t = 0 then undoL l t else l
def undoN (l : List Pt) (last t : Int) : Int := if undoE l last t = 0 then t else last
theorem ids_undo (l : List Pt) (t i : Int) : i ∈ ids (undoL l t) ↔ i ∈ ids l ∧ i ≤ t := by
  unfold ids undoL
  constructor
  · intro h
    obtain ⟨p, hp, rfl⟩ := List.mem_map.1 h
    obtain ⟨h1, h2⟩ := List.mem_filter.1 hp
    exact ⟨List.mem_map_of_mem h1, of_decide_eq_true h2⟩
  · rintro ⟨h, h2⟩
    obtain ⟨p, hp, rfl⟩ := List.mem_map.1 h
    exact List.mem_map.2 ⟨p, List.mem_filter.2 ⟨hp, decide_eq_true h2⟩, rfl⟩
set_option maxRecDepth 100000 in
set_option maxHeartbeats 8000000 in
theorem undo_ok {W : World} {base g m d : Nat} {S : Nat → Prop} {l : List Pt} {last : Int} {n : Nat} (h : IsSet W base g m d S l last n) (hn : n ≤ 1000000000) (t : Int) :
    Calls Try.prog 13 #[.pointer (some ⟨g, 0, none⟩), .int .i64 t] W fun e W' => e = .returned (.int .i64 (undoE l last t)) ∧ IsSet W' base g m d S (undoR l last t) (undoN l last t) n ∧ Kept (fun k => k = g ∨ k = m) W W' := by
  have H := Aside0.mk h
  have hc := h.cells
  have hfi := Aside0.mk h.fits
  have hgl := h.ltg
  have hml := h.ltm
  have hdl := h.ltd
  have hgm := h.gm
  have hne := h.ne
  have HO := Aside0.mk (own_ok W g _ _ _ hc)
  have c0 := cell_of (i := 0) hc rfl
  have c1 := cell_of (i := 1) hc rfl
  have HC0 := Aside0.mk hc
  clear h hc
  refine (callsIn_wide (n := 1)).1 ?_
  refine callsIn_of_wp Try.func13 rfl trivial ?_ rfl
  simp only [Try.ntmps13, List.size_toArray, List.length_cons, List.length_nil, Nat.reduceAdd, Nat.reduceSub, Array.replicate_succ, Array.replicate_zero, List.push_toArray, List.append_toArray, List.nil_append, List.cons_append]
  by_cases ht0 : t < 0
  · have t1 : decide (t < 0) = true := decide_eq_true ht0
    have HE : Aside0 (undoE l last t = 1) := ⟨by unfold undoE; rw [if_pos (.inl ht0)]⟩
    clear ht0
    gi_wp2_with (first
      | (refine ⟨trivial, ?_⟩; gi_at_call 39; refine (callsIn_wide.2 (HO.out)).mono ?_; rintro e w1 ⟨rfl, hw⟩; rw [hw]; clear hw))
    go_ret
    refine ⟨by rw [HE.out]; rfl, ?_, Kept.refl _ _⟩
    unfold undoR undoN
    rw [HE.out, if_neg (by decide), if_neg (by decide)]
    exact H.out
  · have t1 : decide (t < 0) = false := decide_eq_false ht0
    by_cases htl : last < t
    · have t2 : decide (last < t) = true := decide_eq_true htl
      have HE : Aside0 (undoE l last t = 1) := ⟨by unfold undoE; rw [if_pos (.inr htl)]⟩
      clear htl ht0
      gi_wp2_with (first
        | (refine ⟨trivial, ?_⟩; gi_at_call 39; refine (callsIn_wide.2 (HO.out)).mono ?_; rintro e w1 ⟨rfl, hw⟩; rw [hw]; clear hw))
      go_ret
      refine ⟨by rw [HE.out]; rfl, ?_, Kept.refl _ _⟩
      unfold undoR undoN
      rw [HE.out, if_neg (by decide), if_neg (by decide)]
      exact H.out
    · have t2 : decide (last < t) = false := decide_eq_false htl
      have HE0 : Aside0 (undoE l last t = if (List.range (last - t).toNat).any (fun j => decide ((t + 1 + (j : Int)) ∉ ids l)) then 3 else 0) := ⟨by unfold undoE; rw [if_neg (fun hh => hh.elim ht0 htl)]⟩
      obtain ⟨D2, h6, h7⟩ := H.out.dn
      have H6 := Aside0.mk h6
      have H7 := Aside0.mk h7
      clear h6 h7
      gi_wp2_with (first
        | (refine ⟨trivial, ?_⟩; gi_at_call 39; refine (callsIn_wide.2 (HO.out)).mono ?_; rintro e w1 ⟨rfl, hw⟩; rw [hw]; clear hw)
        | (gi_at_range; refine wpListIn_range_own _ rfl _ 52 rfl 3 78 law Try.underlying52 _ d n D2 rfl H6.out ?_; intro w0 hrg0 hg0 hs0))
      go_frame
      have HRG0 := Aside0.mk hrg0
      have HG0 := Aside0.mk hg0
      have HS0 := Aside0.mk hs0
      clear hrg0 hg0 hs0
      gi_loopw [5] (fun _ wr => ∃ (left : Lit → Bool) (cnt : Nat) (ss : List Int), Aside0 (wr.ranges Try.prog 3 unitElem d W.heap.size n D2 left cnt) ∧ Aside0 (CollectedI D2 left ss) ∧ Aside0 (∀ i ∈ ss, i ≤ t) ∧ Aside0 (Below W.heap.size W wr) ∧ Aside0 (wr.heap.size = W.heap.size + 1)) (fun _ wr => wr.rangeLeft d W.heap.size)
      case atStart => exact ⟨_, _, [], HRG0, ⟨CollectedI.start D2⟩, ⟨fun i hi => by cases hi⟩, ⟨Below.grown (Below.refl _ _) HG0.out (Nat.le_refl _) (fun k hk => by cases hk)⟩, HS0⟩
      case round =>
        obtain ⟨left, cnt, ss, HRG, HC, HSS, HW, HZ⟩ := hrel
        gi_wp2_with (first
          | (gi_at_next; refine wpListIn_next_unit _ rfl _ rfl d W.heap.size n D2 _ _ rfl HRG.out ?_ ?_))
        · intro hc0 hl0
          have HNO : Aside0 (¬ ∃ i : Int, t < i ∧ i ≤ last ∧ i ∉ ids l) := ⟨by
            rintro ⟨i, h1, h2, h3⟩
            have h4 : i ∈ ss := (HC.out.2 i).2 ⟨by rw [H7.out i]; exact decide_eq_true ⟨by omega, h2, h3⟩, hl0 _⟩
            have := HSS.out i h4
            omega⟩
          have HE : Aside0 (undoE l last t = 0) := ⟨by
            rw [HE0.out, if_neg]
            intro hh
            exact HNO.out ((undo_any l last t).1 hh)⟩
          have HS := Aside0.mk (H.out.below HW.out)
          have cg1 := cell_of (i := 0) HS.out.cells rfl
          have cg2 := HS.out.map_cell
          have hzz := HZ.out
          obtain ⟨D, h3, h4, h5⟩ := HS.out.mp
          have H3 := Aside0.mk h3
          have H45 := Aside0.mk (And.intro h4 h5)
          clear h3 h4 h5 hl0 hc0 HC HSS HRG c0 c1 t1 t2
          gi_wp2_with (first
            | (gi_at_range; refine wpListIn_range_own _ rfl _ 53 rfl 3 44 law Try.underlying53 _ m n D rfl H3.out ?_; intro w0 hrg0 hg0 hs0))
          go_frame
          obtain ⟨r, hr⟩ : ∃ r, wr.heap.size = r := ⟨_, rfl⟩
          rw [hr] at hrg0 hs0 ⊢
          have HRG0 := Aside0.mk hrg0
          have HG0 := Aside0.mk hg0
          have HS0 := Aside0.mk hs0
          clear hrg0 hg0 hs0
          gi_loopw [6] (fun _ wq => ∃ (left : Lit → Bool) (cnt : Nat) (Dc : DataW Value), Aside0 (wq.ranges Try.prog 3 patR m r n Dc left cnt) ∧ Aside0 (∀ i : Int, Maps.has Dc (.int .i64 i) = decide (i ∈ ids l ∧ (i ≤ t ∨ left (.int .i64 i) = true))) ∧ Aside0 (∀ (i : Int) zd, Maps.has Dc (.int .i64 i) = true → Dc.atKey (.int .i64 i) zd = D.atKey (.int .i64 i) zd) ∧ Aside0 (Kept (fun k => k = m) wr wq) ∧ Aside0 (wq.heap.size = r + 1)) (fun _ wq => wq.rangeLeft m r)
          case atStart =>
            refine ⟨_, _, D, HRG0, ⟨fun i => ?_⟩, ⟨fun i zd _ => rfl⟩, ⟨Kept.of_grown HG0.out (fun k hk => by cases hk)⟩, HS0⟩
            rw [H45.out.1 i]
            by_cases hi : i ∈ ids l <;> simp [hi]
          case round =>
            obtain ⟨left, cnt, Dc, HRG, HH, HA, HK, HZ⟩ := hrel
            rename World => wz
            gi_wp2_with (first
              | (gi_at_next; refine wpListIn_next_pat _ rfl _ rfl m r n Dc _ _ rfl HRG.out ?_ ?_))
            · intro hc0 hl0
              have hm3 := HRG.out.owns
              have hgw := (HK.out.same g (by omega) hgm.1).trans HS.out.cells
              have fg : wz.frozen? ⟨g, 0, none⟩ = false := by simp [World.frozen?, hgw]
              have cg := cell_of (i := 0) hgw rfl
              have HM3 := Aside0.mk hm3
              have HGW := Aside0.mk hgw
              have HL0 := Aside0.mk hl0
              clear hm3 hl0 hc0 HRG cg1 cg2
              gi_wp2
              go_ret
              have hkz : Kept (fun k => k = g ∨ k = m) W (wz.setCell ⟨g, 0, none⟩ (.int .i64 t)) := by
                have h1 : Kept (fun k => k = g ∨ k = m) W wz := (Kept.of_below (S := fun k => k = g ∨ k = m) HW.out).trans HK.out (fun k e => .inl (.inr e))
                exact ⟨h1.os, h1.tape, h1.output, by simp; exact h1.size, fun k hk hn => (Below.heap_setCell wz ⟨g, 0, none⟩ _ k (fun e => hn (.inl e))).trans (h1.same k hk hn)⟩
              have hkr : Kept (fun k => k = g ∨ k = m) wr (wz.setCell ⟨g, 0, none⟩ (.int .i64 t)) :=
                ⟨HK.out.os, HK.out.tape, HK.out.output, by simp; exact HK.out.size, fun k hk hn => (Below.heap_setCell wz ⟨g, 0, none⟩ _ k (fun e => hn (.inl e))).trans (HK.out.same k hk (fun e => hn (.inr e)))⟩
              refine ⟨by rw [HE.out]; rfl, ?_, hkz⟩
              unfold undoR undoN
              rw [HE.out, if_pos rfl, if_pos rfl]
              have hh : ∀ i : Int, Maps.has Dc (.int .i64 i) = decide (i ∈ ids (undoL l t)) := fun i => by
                rw [HH.out i, HL0.out]
                exact decide_eq_decide.2 (by rw [ids_undo]; simp)
              refine ⟨hfi.out.sub List.filter_sublist (fun p hp => of_decide_eq_true (List.mem_filter.1 hp).2) (by omega) (by omega), ?_, ⟨Dc, own_at HM3.out (Below.heap_setCell wz ⟨g, 0, none⟩ _ m (Ne.symm hgm.1)), hh, fun p hp => ?_⟩, ⟨D2, own_at H6.out (hkz.same d hdl (fun e => by rcases e with e | e; exact hgm.2 e.symm; exact hne e.symm)), fun i => ?_⟩, hne, fun k hk => ⟨(H.out.low k hk).1, Nat.lt_of_lt_of_le (H.out.low k hk).2 hkz.size⟩, H.out.bg, H.out.bm, H.out.bd, H.out.off⟩
              · exact set_heap HGW.out _
              · have hpl := (List.mem_filter.1 hp).1
                obtain ⟨v, hv, hpv⟩ := H45.out.2 p hpl
                refine ⟨v, fun zd => ?_, hpv.kept hkr (fun k hs e => ?_)⟩
                · rw [HA.out p.id zd (by rw [hh]; exact decide_eq_true (List.mem_map_of_mem hp))]
                  exact hv zd
                · have := H.out.off k hs
                  rcases e with e | e
                  · exact this.1 e
                  · exact this.2.1 e
              · rw [H7.out i]
                refine decide_eq_decide.2 ?_
                rw [ids_undo]
                constructor
                · rintro ⟨h1, h2, h3⟩
                  refine ⟨h1, ?_, fun hh => h3 hh.1⟩
                  false_or_by_contra
                  exact HNO.out ⟨i, by omega, h2, h3⟩
                · rintro ⟨h1, h2, h3⟩
                  exact ⟨h1, by omega, fun hh => h3 ⟨hh, h2⟩⟩
            · intro x a1 b1 o1 A n1 k1 B m1 j1 w2 cnt2 hwx hlk hat hrg2 hlt hg2 hs2 hen
              have hxi : x ∈ ids l := by
                have h1 := Maps.has_true_of_atKey hat
                rw [HH.out x] at h1
                exact (of_decide_eq_true h1).1
              have hsame : ∀ i : Int, i ≠ x → (Lit.int .i64 i).sameKey (.int .i64 x) = false := fun i hi => Maps.sameKey_ne (by intro hh; injection hh with _ hh; exact hi hh)
              have hself : (Lit.int .i64 x).sameKey (.int .i64 x) = true := WideAt.sameKey_self (show WideAt.IsKeyLit (Lit.int .i64 x) from trivial)
              have HK2 := Aside0.mk (HK.out.trans (Kept.of_grown (S := fun k => k = r) hg2 (fun k hk => by cases hk; rfl)) (fun k hk => .inr (by omega)))
              have hgw := (HK2.out.same g (by omega) hgm.1).trans HS.out.cells
              have cgm := cell_of (i := 2) hgw rfl
              have HRG2 := Aside0.mk hrg2
              have HLT := Aside0.mk hlt
              have HSM := Aside0.mk (And.intro hsame hself)
              have HXI := Aside0.mk hxi
              have HZ2 : Aside0 (w2.heap.size = r + 1) := ⟨hs2.trans HZ.out⟩
              have HSZ := Aside0.mk hs2
              clear hs2 hlk hat hrg2 hlt hg2 hsame hself hxi hgw cg1 cg2
              by_cases hxt : t < x
              · have t3 : decide (t < x) = true := decide_eq_true hxt
                gi_wp2_with (first
                  | (gi_at_delete; refine wpListIn_delete_ranges _ rfl _ _ 53 3 rfl 44 law Try.underlying53 patR m r n Dc _ _ rfl HRG2.out (.int .i64 x) (.int .i64 x) rfl (Maps.keyOf_int_mk Try.underlying3 hwx) ?_; intro w3 cnt3 hrg3 hle3 hturn3; go_frame))
                rw [Maps.strike_twice] at hrg3
                have hg3 := hturn3.grown
                have HRG3 := Aside0.mk hrg3
                refine ⟨⟨_, cnt3, _, HRG3, ⟨fun i => ?_⟩, ⟨fun i zd hi => ?_⟩, ⟨HK2.out.trans (Kept.of_grown (S := fun k => k = m) hg3 (fun k hk => by cases hk; rfl)) (fun k hk => .inl hk)⟩, ⟨by have h1 := turned_size hturn3; rw [h1]; exact HZ2.out⟩⟩, by rw [HRG3.out.left_eq, HRG.out.left_eq]; have := HLT.out; omega⟩
                · by_cases e : i = x
                  · subst e
                    rw [Maps.has_del_same]
                    refine (decide_eq_false ?_).symm
                    rintro ⟨_, h1 | h1⟩
                    · omega
                    · rw [HSM.out.2] at h1; simp at h1
                  · rw [Maps.has_del_other (by intro hh; injection hh with _ hh; exact e hh), HH.out i, HSM.out.1 i e]
                    simp
                · have e : i ≠ x := fun e => by subst e; rw [Maps.has_del_same] at hi; cases hi
                  have hne2 : (Lit.int .i64 i) ≠ .int .i64 x := by intro hh; injection hh with _ hh; exact e hh
                  rw [Maps.has_del_other hne2] at hi
                  rw [Maps.atKey_del_other hne2]
                  exact HA.out i zd hi
              · have t3 : decide (t < x) = false := decide_eq_false hxt
                gi_wp2
                refine ⟨⟨_, cnt2, _, HRG2, ⟨fun i => ?_⟩, HA, HK2, HZ2⟩, by rw [HRG2.out.left_eq, HRG.out.left_eq]; exact HLT.out⟩
                rw [HH.out i]
                by_cases e : i = x
                · subst e
                  have hle : i ≤ t := by omega
                  simp [hle]
                · rw [HSM.out.1 i e]
                  simp
        · intro x w2 cnt2 hwx hlk hat hrg2 hlt hg2 hs2 hen
          have hx7 : 1 ≤ x ∧ x ≤ last ∧ x ∉ ids l := by
            have h1 := Maps.has_true_of_atKey hat
            rw [H7.out x] at h1
            exact of_decide_eq_true h1
          have HB2 := Aside0.mk (Below.grown HW.out hg2 HW.out.size (fun k hk => by cases hk; exact Nat.le_refl _))
          have HRG2 := Aside0.mk hrg2
          have HLT := Aside0.mk hlt
          have HCL := Aside0.mk (HC.out.step hlk hat)
          have HX7 := Aside0.mk hx7
          have HZ2 : Aside0 (w2.heap.size = W.heap.size + 1) := ⟨hs2.trans HZ.out⟩
          clear hs2 hlk hat hrg2 hlt hg2 hx7
          by_cases hxt : t < x
          · have t3 : decide (t < x) = true := decide_eq_true hxt
            have HE : Aside0 (undoE l last t = 3) := ⟨by rw [HE0.out, if_pos ((undo_any l last t).2 ⟨x, hxt, HX7.out.2.1, HX7.out.2.2⟩)]⟩
            gi_wp2
            go_ret
            refine ⟨by rw [HE.out]; rfl, ?_, Kept.of_below HB2.out⟩
            unfold undoR undoN
            rw [HE.out, if_neg (by decide), if_neg (by decide)]
            exact H.out.below HB2.out
          · have t3 : decide (t < x) = false := decide_eq_false hxt
            gi_wp2
            exact ⟨⟨_, cnt2, ss ++ [x], HRG2, HCL, ⟨fun i hi => by
              rcases List.mem_append.1 hi with hi | hi
              · exact HSS.out i hi
              · rw [List.mem_singleton.1 hi]; omega⟩, HB2, HZ2⟩, by rw [HRG2.out.left_eq, HRG.out.left_eq]; exact HLT.out⟩
end Go.Proofs.Ytijgfcpffjjlfaa.Pq
