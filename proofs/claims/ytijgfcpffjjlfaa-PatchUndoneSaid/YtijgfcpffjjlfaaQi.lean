/- Written by a program of this session. the law PatchUndone. -/
import Derived.Test.YtijgfcpffjjlfaaQh
namespace Go.Proofs.Ytijgfcpffjjlfaa.Pq
open Go Go.RowKit Go.Shelf Go.Proofs Go.Maps Go.Sort Go.Proofs.Ytijgfcpffjjlfaa.XFb Go.Proofs.YtijgfcpffjjlfaaW.PrintWords Go.Proofs.YtijgfcpffjjlfaaW.PrintLast Go.Proofs.YtijgfcpffjjlfaaW.PrintMore
set_option linter.unusedVariables false
set_option linter.unusedSimpArgs false
/-- What was added since a mark. -/
structure Since (L : List Pt) (last : Int) (L' : List Pt) (last' : Int) : Prop where
  undo : undoL L' last = L
  all_ : ∀ i : Int, last < i → i ≤ last' → i ∈ ids L'
  le : last ≤ last'
theorem Since.refl {L : List Pt} {last : Int} (h : Fits L last) : Since L last L last :=
  ⟨List.filter_eq_self.2 (fun p hp => decide_eq_true (h.high p hp)), fun i h1 h2 => by omega, Int.le_refl _⟩
theorem Since.add {L L' : List Pt} {last last' : Int} (h : Since L last L' last') (blk off : Int) (by_ nd : List Int) : Since L last (addL L' last' blk off by_ nd) (addN last' blk off by_ nd) ∧ addN last' blk off by_ nd ≤ last' + 1 := by
  unfold addL addN
  have hle := h.le
  split
  · refine ⟨⟨?_, fun i h1 h2 => ?_, by omega⟩, Int.le_refl _⟩
    · unfold undoL
      rw [List.filter_append, show List.filter (fun p => decide (p.id ≤ last)) L' = L from h.undo]
      have e : decide ((newP L' last' blk off by_ nd).id ≤ last) = false := decide_eq_false (by show ¬ (last' + 1 ≤ last); omega)
      simp [e]
    · unfold ids
      rw [List.map_append, List.mem_append]
      by_cases e : i = last' + 1
      · exact .inr (by rw [e]; simp [newP])
      · exact .inl (h.all_ i h1 (by omega))
  · exact ⟨h, by omega⟩
theorem Since.undoE {L L' : List Pt} {last last' : Int} (h : Since L last L' last') (h0 : 0 ≤ last) : Pq.undoE L' last' last = 0 := by
  unfold Pq.undoE
  have hle := h.le
  rw [if_neg (by omega), if_neg]
  intro hh
  obtain ⟨i, h1, h2, h3⟩ := (undo_any L' last' last).1 hh
  exact h3 (h.all_ i h1 h2)
theorem made0 (W : World) : Kd.C (Kd.int .u8) (W.alloc (.cells (madeCells #[.int .u8 0] 128) 5)) (some ⟨W.heap.size, 0, none⟩) (List.replicate 128 (0 : Int)).length (List.replicate 128 (0 : Int)) := by
  have h1 := own_made W W.heap.size 5 .u8 128 (Nat.le_refl _) (by decide)
  have h2 : Kd.R (Kd.int .u8) 5 (W.alloc (.cells (madeCells #[.int .u8 0] 128) 5)) W.heap.size (fun _ => True) (.slice (some ⟨W.heap.size, 0, none⟩) 128 128) (List.replicate 128 (0 : Int)) := Kd.R_of_own (by rw [List.length_replicate]; exact h1) (fun _ _ => trivial)
  exact (Kd.R_reads' h2).2.2
theorem plan0 {W : World} {base g m d : Nat} {S : Nat → Prop} {l : List Pt} {last : Int} {n : Nat} (h : IsSet (W.alloc (.cells (madeCells #[.int .u8 0] 128) 5)) base g m d S l last n) (hn : n ≤ 1000000000) (b : Int) :
    Calls Try.prog 16 #[.pointer (some ⟨g, 0, none⟩), .int .i64 b, .slice (some ⟨W.heap.size, 0, none⟩) 128 128] (W.alloc (.cells (madeCells #[.int .u8 0] 128) 5)) fun e W' => ∃ v1 v2, e = .returned (.tuple #[v1, v2, .int .i64 (planE l b (List.replicate 128 0))]) ∧ RB W' (W.alloc (.cells (madeCells #[.int .u8 0] 128) 5)).heap.size (fun _ => True) v1 (planB l b (List.replicate 128 0)) ∧ RI W' (W.alloc (.cells (madeCells #[.int .u8 0] 128) 5)).heap.size (fun _ => True) v2 (planI l b (List.replicate 128 0)) ∧ Below (W.alloc (.cells (madeCells #[.int .u8 0] 128) 5)).heap.size (W.alloc (.cells (madeCells #[.int .u8 0] 128) 5)) W' := by
  have h1 := plan_ok h hn b (some ⟨W.heap.size, 0, none⟩) 128 (List.replicate 128 0) (made0 W) (by rw [List.length_replicate]; exact Nat.le_refl _)
  rwa [List.length_replicate] at h1
set_option maxRecDepth 100000 in
set_option maxHeartbeats 8000000 in
theorem PatchUndone_walk (A : Option Addr) (c : Nat) (l : List DoT) (A1 : Option Addr) (cc : Nat) (more : List DoT) (w : World) (hC : Kd.C kDo w A l.length l) (hl : l.length ≤ 1000000000000000) (hx : ∀ x ∈ l, x.2.2.2.1.length < 140737488355328 ∧ x.2.2.2.2.length ≤ 17592186043904)
    (hC1 : Kd.C kDo w A1 more.length more) (hl1 : more.length ≤ 1000000000000000) (hx1 : ∀ x ∈ more, (Lit.int .i64 x.2.1).wf = true ∧ x.2.2.2.1.length < 140737488355328) :
    Calls Try.prog 3 #[.slice A l.length c, .slice A1 more.length cc] w fun e w' => e = .returned (.bool true) ∧ Below w.heap.size w w' := by
  have hmk : ∀ W : World, (Instr.makeSlice 26 (.int .i64 128) (.int .i64 128)).run Try.prog W = .ok (.slice (some ⟨W.heap.size, 0, none⟩) 128 128) (W.alloc (.cells (madeCells #[.int .u8 0] 128) 5)) := fun W => print_make 26 5 .u8 1 Try.underlying26 infou8 (by decide) 128 (by decide) W
  have HC := Aside0.mk hC
  have HXX := Aside0.mk hx
  have HC1 := Aside0.mk hC1
  have HX1 := Aside0.mk hx1
  clear hC hx hC1 hx1
  have tok1 : True := trivial
  refine (callsIn_wide (n := 1)).1 ?_
  refine callsIn_of_wp Try.func3 rfl trivial ?_ rfl
  simp only [Try.ntmps3, List.size_toArray, List.length_cons, List.length_nil, Nat.reduceAdd, Nat.reduceSub, Array.replicate_succ, Array.replicate_zero, List.push_toArray, List.append_toArray, List.nil_append, List.cons_append]
  gi_wp2_with (first
    | (refine ⟨trivial, ?_⟩; gi_at_call 10; have _t := tok1; refine (callsIn_wide.2 (made_ok A c l w HC.out hl HXX.out)).mono ?_; rintro e W1 ⟨g, m, d, S, rfl, hs, hb⟩; clear _t tok1; have HS0 := Aside0.mk hs; have HB0 := Aside0.mk hb; clear hs hb)
    | (refine ⟨trivial, ?_⟩; gi_at_call 10; refine (callsIn_wide.2 (made_ok A c l W1 (Kd.C_below HC.out HB0.out) hl HXX.out)).mono ?_; rintro e W2 ⟨gx, mx, dx, Sx, rfl, hs, hb⟩; have HX := Aside0.mk hs; have HS := Aside0.mk (HS0.out.below hb); have HB := Aside0.mk (below_step HB0.out hb HB0.out.size); have hb1s := HB0.out.size; have hb2s := hb.size; have hbw1 := HS0.out.low; have HLG := Aside0.mk (And.intro HS0.out.ltg (And.intro HS0.out.ltm HS0.out.ltd)); clear hs hb HS0)
    | (refine ⟨trivial, ?_⟩; gi_at_call 11; refine (callsIn_wide.2 (last_ok HS.out)).mono ?_; rintro e w1 ⟨rfl, hw⟩; rw [hw]; clear hw))
  have hlm : 0 ≤ (madeS l).2 ∧ (madeS l).2 ≤ 41 := by
    unfold madeS
    rw [made_last _ _ (Int.le_refl _), List.length_take]
    simp only
    omega
  generalize (madeS l).1 = L at *
  generalize (madeS l).2 = last at *
  gi_loopw [26] (fun v26 wr => ∃ (i : Nat) (S' : Nat → Prop) (L' : List Pt) (last' : Int), v26 = .int .i64 (i : Int) ∧ i ≤ more.length ∧ Aside0 (IsSet wr w.heap.size g m d S' L' last' (41 + min i 20)) ∧ Aside0 (Since L last L' last' ∧ last' ≤ 41 + ((min i 20 : Nat) : Int)) ∧ Aside0 (IsSet wr W1.heap.size gx mx dx Sx L last 41) ∧ Aside0 (Below w.heap.size w wr)) (fun v26 _ => more.length - (intOf v26).toNat)
  case atStart => exact ⟨0, S, L, last, rfl, Nat.zero_le _, ⟨HS.out.monon (by omega)⟩, ⟨Since.refl HS.out.fits, by omega⟩, HX, HB⟩
  case round =>
    obtain ⟨i, S', L', last', rfl, hi, HS', HSI, HX', HB'⟩ := hrel
    by_cases hlt : i < more.length
    · have t1 : decide ((i : Int) < (more.length : Int)) = true := decide_eq_true (by omega)
      obtain ⟨ad, A3, c3, A4, c4, hA, k0, k1, k2, k3, k4, l3, g3, l4, g4⟩ := at_Do (Kd.C_below HC1.out HB'.out) i hlt
      subst hA
      have hel : more.getD i zDo = more[i] := by simp [List.getD_eq_getElem?_getD, hlt]
      have hxx := HX1.out more[i] (List.getElem_mem hlt)
      rw [hel] at k0 k1 k2 k3 k4 l3 g3 l4 g4
      generalize more[i] = x at *
      obtain ⟨op, bk, of_, bs, is⟩ := x
      dsimp only at k0 k1 k2 k3 k4 l3 g3 l4 g4 hxx
      have hbb : Below wr.heap.size wr (wr.alloc (.cells #[.int .i64 op, .int .i64 bk, .int .i64 of_, .slice A3 bs.length c3, .slice A4 is.length c4] 29)) := below_alloc (Below.refl wr.heap.size wr) _
      have HSb := Aside0.mk (HS'.out.below hbb)
      have HXb := Aside0.mk (HX'.out.below hbb)
      have HBb := Aside0.mk (below_step HB'.out hbb HB'.out.size)
      have G3 := Aside0.mk (Kd.C_below g3 hbb)
      have hsz := HBb.out.size
      clear hbb g3 g4 hel
      by_cases h20 : i < 20
      · have t2 : decide ((i : Int) < (20 : Int)) = true := decide_eq_true (by omega)
        gi_wp2_with (first
          | (refine ⟨trivial, ?_⟩; gi_at_call 12; refine (callsIn_wide.2 (add_ok HSb.out (by omega) bk of_ hxx.1 A3 c3 bs G3.out l3 hxx.2 (b9 := 0) (S9 := fun _ => True) none 0 [] (Kd.R_nil _ _ _ _ _) (fun x hx => by cases hx) (by simp) (by have := HSI.out.2; omega) hsz)).mono ?_; rintro e w5 ⟨rfl, S5, hs, hS, hk⟩; have HS5 := Aside0.mk hs; have HK5 := Aside0.mk hk; clear hs hS hk))
        have hs1 := HSI.out.1.add bk of_ bs []
        have hgx := HX'.out.bg
        have hmx := HX'.out.bm
        have hdx := HX'.out.bd
        have hlg := HLG.out
        have hb5 : Below w.heap.size w w5 := HBb.out.trans (HK5.out.below (fun k hk => by have h1 := HS'.out.bg; have h2 := HS'.out.bm; rcases hk with hk | hk <;> omega) hsz)
        exact ⟨⟨i + 1, S5, _, _, by simp, hlt, ⟨HS5.out.monon (by omega)⟩, ⟨hs1.1, by have := hs1.2; have := HSI.out.2; omega⟩, ⟨HXb.out.kept HK5.out (fun k hk e => by
          rcases hk with hk | hk | hk | hk
          · have := (HX'.out.low k hk).1; omega
          · omega
          · omega
          · omega)⟩, ⟨hb5⟩⟩, by simp [intOf]; omega⟩
      · have t2 : decide ((i : Int) < (20 : Int)) = false := decide_eq_false (by omega)
        gi_wp2
        exact ⟨⟨i + 1, S', L', last', by simp, hlt, ⟨HSb.out.monon (by omega)⟩, ⟨HSI.out.1, by have := HSI.out.2; omega⟩, HXb, HBb⟩, by simp [intOf]; omega⟩
    · obtain rfl : i = more.length := by omega
      have t1 : decide ((more.length : Int) < (more.length : Int)) = false := decide_eq_false (by omega)
      have hu0 := hlm.1
      have hUE := Aside0.mk (HSI.out.1.undoE hu0)
      have hUR : Aside0 (undoR L' last' last = L) := ⟨by unfold undoR; rw [if_pos hUE.out]; exact HSI.out.1.undo⟩
      have hUN : Aside0 (undoN L' last' last = last) := ⟨by unfold undoN; rw [if_pos hUE.out]⟩
      have hgx := HX'.out.bg
      have hmx := HX'.out.bm
      have hdx := HX'.out.bd
      have hlow := HX'.out.low
      have HLOW := Aside0.mk hlow
      have hlg := HLG.out
      have hbl : (blksL L).length ≤ 41 := Nat.le_trans (sc_length _) (by rw [List.length_map]; have h1 := HX'.out.len_le; unfold ids at h1; rwa [List.length_map] at h1)
      have HBL := Aside0.mk hbl
      have hwz := HB'.out.size
      have hbg := HS'.out.bg
      have hbm := HS'.out.bm
      clear hlow HS HX HB
      have tk1 : True := trivial
      have tk2 : True := trivial
      have tk3 : True := trivial
      gi_wp2_with (first
        | (refine ⟨trivial, ?_⟩; gi_at_call 13; refine (callsIn_wide.2 (undo_ok HS'.out (by omega) last)).mono ?_; rintro e W5 ⟨rfl, hs, hk⟩; rw [hUE.out]; rw [hUR.out, hUN.out] at hs; have HS5 := Aside0.mk hs; have HX5 := Aside0.mk (HX'.out.kept hk (fun k hk1 e => by rcases hk1 with hk1 | hk1 | hk1 | hk1; (have := (HLOW.out k hk1).1; omega); omega; omega; omega)); have HB5 := Aside0.mk (HB'.out.trans (hk.below (n := w.heap.size) (fun k hk => by rcases hk with hk | hk <;> omega) hwz)); clear hs hk)
        | (refine ⟨trivial, ?_⟩; gi_at_call 11; have _t := tk1; refine (callsIn_wide.2 (last_ok HS5.out)).mono ?_; rintro e w1 ⟨rfl, hw⟩; rw [hw]; clear hw; clear _t tk1)
        | (refine ⟨trivial, ?_⟩; gi_at_call 11; refine (callsIn_wide.2 (last_ok HX5.out)).mono ?_; rintro e w1 ⟨rfl, hw⟩; rw [hw]; clear hw)
        | (refine ⟨trivial, ?_⟩; gi_at_call 15; have _t := tk2; refine (callsIn_wide.2 (blocks_ok HS5.out (by omega))).mono ?_; rintro e W6 ⟨v6, rfl, hr, hb⟩; obtain ⟨A6, c6, rfl⟩ := Kd.R_slice hr; have HR6 := Aside0.mk hr; have HS6 := Aside0.mk (HS5.out.below hb); have HX6 := Aside0.mk (HX5.out.below hb); have HB6 := Aside0.mk (below_step HB5.out hb HB5.out.size); clear hr hb; clear _t tk2)
        | (refine ⟨trivial, ?_⟩; gi_at_call 15; have _t := tk3; refine (callsIn_wide.2 (blocks_ok HX6.out (by omega))).mono ?_; rintro e W7 ⟨v7, rfl, hr, hb⟩; obtain ⟨A7, c7, rfl⟩ := Kd.R_slice hr; have HR7 := Aside0.mk hr; have HR67 := Aside0.mk (Kd.R_below HR6.out hb); have HS7 := Aside0.mk (HS6.out.below hb); have HX7 := Aside0.mk (HX6.out.below hb); have HB7 := Aside0.mk (below_step HB6.out hb HB6.out.size); clear hr hb; clear _t tk3)
        | (refine ⟨trivial, ?_⟩; gi_at_call 14; refine (callsIn_wide.2 (slices_Equal_int_int.calls ((blksL L).length + 1) A6 c6 (blksL L) A7 c7 (blksL L) true _ (Kd.R_reads' HR67.out).2.2 (Kd.R_reads' HR67.out).2.1 (Kd.R_reads' HR7.out).2.2 (Kd.R_reads' HR7.out).2.1 (eqi_f _ (by have := HBL.out; omega) _ (by omega)))).mono ?_; rintro e W8 ⟨rfl, hd⟩; have hb := hd.below; have HS8 := Aside0.mk (HS7.out.below hb); have HX8 := Aside0.mk (HX7.out.below hb); have HB8 := Aside0.mk (below_step HB7.out hb HB7.out.size); clear hb hd)
        | (refine ⟨trivial, ?_⟩; gi_at_call 15; refine (callsIn_wide.2 (blocks_ok HX8.out (by omega))).mono ?_; rintro e W9 ⟨v9, rfl, hr, hb⟩; obtain ⟨A9, c9, rfl⟩ := Kd.R_slice hr; have HR9 := Aside0.mk hr; have HS9 := Aside0.mk (HS8.out.below hb); have HX9 := Aside0.mk (HX8.out.below hb); have HB9 := Aside0.mk (below_step HB8.out hb HB8.out.size); clear hr hb))
      gi_loopw [64] (fun v64 wr => ∃ i : Nat, v64 = .int .i64 (i : Int) ∧ i ≤ (blksL L).length ∧ Aside0 (Below W9.heap.size W9 wr)) (fun v64 _ => (blksL L).length - (intOf v64).toNat)
      case atStart => exact ⟨0, rfl, Nat.zero_le _, ⟨Below.refl _ _⟩⟩
      case round =>
        obtain ⟨i, rfl, hi, HW⟩ := hrel
        rename World => wq
        by_cases hlt : i < (blksL L).length
        · have t3 : decide ((i : Int) < ((blksL L).length : Int)) = true := decide_eq_true (by omega)
          obtain ⟨ad, hA, k0⟩ := at_n (Kd.C_below (Kd.R_reads' HR9.out).2.2 HW.out) i hlt
          subst hA
          generalize (blksL L).getD i 0 = b at k0
          have hpi : (planI L b (List.replicate 128 0)).length ≤ 41 := by
            have h1 := freeL_len L b
            have h2 := HX9.out.len_le
            unfold planI
            split
            · omega
            · simp
          have hpb : (planB L b (List.replicate 128 0)).length ≤ 140737488355328 := by
            unfold planB
            split
            · unfold over
              rw [over_len HX9.out.fits _ _ (List.length_replicate ..) (fun i hi => ofL_sub (freeL_sub hi))]
              omega
            · simp
          have hol : (ofL L b).length ≤ 41 := by have h1 := ofL_len L b; have h2 := HX9.out.len_le; omega
          have hplan : ∀ {W : World} {base g m d : Nat} {S : Nat → Prop} {n : Nat} (h : IsSet (W.alloc (.cells (madeCells #[.int .u8 0] 128) 5)) base g m d S L last n) (hn : n ≤ 1000000000), Calls Try.prog 16 #[.pointer (some ⟨g, 0, none⟩), .int .i64 b, .slice (some ⟨W.heap.size, 0, none⟩) 128 128] (W.alloc (.cells (madeCells #[.int .u8 0] 128) 5)) fun e W' => ∃ v1 v2, e = .returned (.tuple #[v1, v2, .int .i64 (planE L b (List.replicate 128 0))]) ∧ RB W' (W.alloc (.cells (madeCells #[.int .u8 0] 128) 5)).heap.size (fun _ => True) v1 (planB L b (List.replicate 128 0)) ∧ RI W' (W.alloc (.cells (madeCells #[.int .u8 0] 128) 5)).heap.size (fun _ => True) v2 (planI L b (List.replicate 128 0)) ∧ Below (W.alloc (.cells (madeCells #[.int .u8 0] 128) 5)).heap.size (W.alloc (.cells (madeCells #[.int .u8 0] 128) 5)) W' := fun h hn => plan0 h hn b
          generalize planE L b (List.replicate 128 0) = pe at *
          generalize planB L b (List.replicate 128 0) = pb at *
          generalize planI L b (List.replicate 128 0) = pi at *
          have HPLAN := Aside0.mk @hplan
          have HOF := Aside0.mk (eqi_f (ofL L b) (by omega) ((ofL L b).length + 1) (by omega))
          have HPI := Aside0.mk (eqi_f pi (by omega) (pi.length + 1) (by omega))
          have HSa := Aside0.mk (HS9.out.below HW.out)
          have HXa := Aside0.mk (HX9.out.below HW.out)
          have HBa := HW
          clear hplan hpi hpb hol
          have tk4 : True := trivial
          have tk5 : True := trivial
          have tk6 : True := trivial
          gi_wp2_with (first
            | (refine ⟨trivial, ?_⟩; gi_at_call 16; have _t := tk4; refine (callsIn_wide.2 (HPLAN.out (HSa.out.below (below_alloc (Below.refl _ _) _)) (by omega))).mono ?_; rintro e Wa ⟨v1, v2, rfl, hr1, hr2, hb⟩; obtain ⟨Ap, cp, rfl⟩ := Kd.R_slice hr1; obtain ⟨Al, cl, rfl⟩ := Kd.R_slice hr2; have hbx := (below_alloc (Below.refl wq.heap.size wq) (.cells (madeCells #[.int .u8 0] 128) 5)).trans (hb.mono (by simp)); have HP1 := Aside0.mk hr1; have HI1 := Aside0.mk hr2; have HSb := Aside0.mk (HSa.out.below hbx); have HXb := Aside0.mk (HXa.out.below hbx); have HBb := Aside0.mk (below_step HBa.out hbx HBa.out.size); clear hr1 hr2 hb hbx; clear _t tk4)
            | (refine ⟨trivial, ?_⟩; gi_at_call 16; refine (callsIn_wide.2 (HPLAN.out (HXb.out.below (below_alloc (Below.refl _ _) _)) (by omega))).mono ?_; rintro e Wc ⟨v3, v4, rfl, hr1, hr2, hb⟩; obtain ⟨Aq, cq, rfl⟩ := Kd.R_slice hr1; obtain ⟨Am, cm, rfl⟩ := Kd.R_slice hr2; have hbx := (below_alloc (Below.refl Wa.heap.size Wa) (.cells (madeCells #[.int .u8 0] 128) 5)).trans (hb.mono (by simp)); have HP2 := Aside0.mk hr1; have HI2 := Aside0.mk hr2; have HP12 := Aside0.mk (Kd.R_below HP1.out hbx); have HI12 := Aside0.mk (Kd.R_below HI1.out hbx); have HSc := Aside0.mk (HSb.out.below hbx); have HXc := Aside0.mk (HXb.out.below hbx); have HBc := Aside0.mk (below_step HBb.out hbx HBb.out.size); clear hr1 hr2 hb hbx)
            | (refine ⟨trivial, ?_⟩; gi_at_call 17; refine (callsIn_wide.2 (bytes_Equal.calls Ap cp pb Aq cq pb true _ (Kd.R_reads' HP12.out).2.2 (Kd.R_reads' HP12.out).2.1 (Kd.R_reads' HP2.out).2.2 (Kd.R_reads' HP2.out).2.1 (by unfold bytes_Equal.f; simp))).mono ?_; rintro e Wd ⟨rfl, hd⟩; have hb := hd.below; have HI1d := Aside0.mk (Kd.R_below HI12.out hb); have HI2d := Aside0.mk (Kd.R_below HI2.out hb); have HSd := Aside0.mk (HSc.out.below hb); have HXd := Aside0.mk (HXc.out.below hb); have HBd := Aside0.mk (below_step HBc.out hb HBc.out.size); clear hb hd)
            | (refine ⟨trivial, ?_⟩; gi_at_call 14; have _t := tk5; refine (callsIn_wide.2 (slices_Equal_int_int.calls (pi.length + 1) Al cl pi Am cm pi true _ (Kd.R_reads' HI1d.out).2.2 (Kd.R_reads' HI1d.out).2.1 (Kd.R_reads' HI2d.out).2.2 (Kd.R_reads' HI2d.out).2.1 HPI.out)).mono ?_; rintro e We ⟨rfl, hd⟩; have hb := hd.below; have HSe := Aside0.mk (HSd.out.below hb); have HXe := Aside0.mk (HXd.out.below hb); have HBe := Aside0.mk (below_step HBd.out hb HBd.out.size); clear hb hd; clear _t tk5)
            | (refine ⟨trivial, ?_⟩; gi_at_call 18; have _t := tk6; refine (callsIn_wide.2 (of_ok HSe.out (by omega) b)).mono ?_; rintro e Wf ⟨v5, rfl, hr, hb⟩; obtain ⟨Ao, co, rfl⟩ := Kd.R_slice hr; have HO1 := Aside0.mk hr; have HSf := Aside0.mk (HSe.out.below hb); have HXf := Aside0.mk (HXe.out.below hb); have HBf := Aside0.mk (below_step HBe.out hb HBe.out.size); clear hr hb; clear _t tk6)
            | (refine ⟨trivial, ?_⟩; gi_at_call 18; refine (callsIn_wide.2 (of_ok HXf.out (by omega) b)).mono ?_; rintro e Wg ⟨v8, rfl, hr, hb⟩; obtain ⟨Au, cu, rfl⟩ := Kd.R_slice hr; have HO2 := Aside0.mk hr; have HO12 := Aside0.mk (Kd.R_below HO1.out hb); have HBg := Aside0.mk (below_step HBf.out hb HBf.out.size); clear hr hb)
            | (refine ⟨trivial, ?_⟩; gi_at_call 14; refine (callsIn_wide.2 (slices_Equal_int_int.calls ((ofL L b).length + 1) Ao co (ofL L b) Au cu (ofL L b) true _ (Kd.R_reads' HO12.out).2.2 (Kd.R_reads' HO12.out).2.1 (Kd.R_reads' HO2.out).2.2 (Kd.R_reads' HO2.out).2.1 HOF.out)).mono ?_; rintro e Wh ⟨rfl, hd⟩; have HBh := Aside0.mk (below_step HBg.out hd.below HBg.out.size); clear hd))
          exact ⟨⟨i + 1, by simp, hlt, HBh⟩, by simp [intOf]; omega⟩
        · obtain rfl : i = (blksL L).length := by omega
          have t3 : decide (((blksL L).length : Int) < ((blksL L).length : Int)) = false := decide_eq_false (by omega)
          gi_wp2_with (first
            | (refine ⟨trivial, ?_⟩; gi_at_call 19; refine (callsIn_wide.2 (awake_ok _)).mono ?_; rintro e Wz ⟨rfl, hb⟩; have HZ := Aside0.mk (below_step (below_step HB9.out HW.out HB9.out.size) hb (by have h1 := HB9.out.size; have h2 := HW.out.size; omega)); clear hb))
          go_ret
          exact ⟨rfl, HZ.out⟩
end Go.Proofs.Ytijgfcpffjjlfaa.Pq
