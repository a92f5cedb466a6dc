/- Written by a program of this session. (*Set).free. -/
import Derived.BigQuiet
import Derived.Deep.QuietTactic
import Derived.Test.YtijgfcpffjjlfaaQv
namespace Go.Proofs.Ytijgfcpffjjlfaa.Pq
open Go Go.RowKit Go.Shelf Go.Proofs Go.Maps Go.Sort Go.Proofs.Ytijgfcpffjjlfaa.XFb Go.Proofs.YtijgfcpffjjlfaaW.PrintWords Go.Proofs.YtijgfcpffjjlfaaW.PrintLast Go.Proofs.YtijgfcpffjjlfaaW.PrintMore
set_option linter.unusedVariables false
set_option linter.unusedSimpArgs false
theorem set_heap {W : World} {b o : Nat} {cs : Array Value} {t : TypeId} (h : W.heap[b]? = some (.cells cs t (0, 0))) (v : Value) :
    (W.setCell ⟨b, o, none⟩ v).heap[b]? = some (.cells (cs.setIfInBounds o v) t (0, 0)) := by
  obtain ⟨hlt, hk⟩ := Array.getElem?_eq_some_iff.1 h
  show (W.heap.modify b _)[b]? = _
  rw [Array.getElem?_eq_getElem (by rw [Array.size_modify]; exact hlt), Array.getElem_modify_self, hk]
  rfl
/-- A rising row of numbers within bounds is not long. -/
theorem rises_len : ∀ (xs : List Int) (a b : Int), Rises xs → (∀ x ∈ xs, a ≤ x ∧ x < b) → (xs.length : Int) ≤ max 0 (b - a)
  | [], a, b, _, _ => by simp; omega
  | x :: r, a, b, h, hx => by
    obtain ⟨h1, h2⟩ := List.pairwise_cons.1 h
    have ih := rises_len r (x + 1) b h2 (fun y hy => ⟨by have := h1 y hy; omega, (hx y (by simp [hy])).2⟩)
    have := hx x (by simp)
    simp only [List.length_cons]
    omega
theorem Fits.nd_len {l : List Pt} {last : Int} (h : Fits l last) {p : Pt} (hp : p ∈ l) : p.nd.length ≤ 1000000000 := by
  have h1 := rises_len p.nd 1 p.id (h.ndr p hp) (h.ndl p hp)
  have h2 := h.high p hp
  have h3 := h.lastm
  omega
theorem index_l0 (xs : List Int) (x : Int) (hl : xs.length ≤ 1000000000000) (d : Nat) : ∀ (i K : Nat), i + d = xs.length → d < K → ∃ r, slices_Index_int_int.l0 K xs x (xs.length : Int) (i : Int) = some r ∧ (0 ≤ r ↔ x ∈ xs.drop i) := by
  induction d with
  | zero =>
    intro i K hi hK
    cases K with
    | zero => omega
    | succ K =>
      unfold slices_Index_int_int.l0
      rw [if_neg (by omega)]
      exact ⟨_, rfl, by rw [List.drop_of_length_le (by omega)]; simp⟩
  | succ d ih =>
    intro i K hi hK
    cases K with
    | zero => omega
    | succ K =>
      have w3 : wrap64 ((i : Int) + 1) = ((i + 1 : Nat) : Int) := by unfold wrap64; omega
      have hil : i < xs.length := by omega
      have e : Go.Proofs.YtijgfcpffjjlfaaW.PrintWords.rd xs (i : Int) = xs[i] := by show xs.getD (Int.toNat (i : Int)) 0 = _; simp [List.getD_eq_getElem?_getD, hil]
      have hd : xs.drop i = xs[i] :: xs.drop (i + 1) := List.drop_eq_getElem_cons hil
      unfold slices_Index_int_int.l0
      rw [if_pos (by omega), if_pos (by omega), if_pos (by omega), e, hd]
      by_cases hx : x = xs[i]
      · rw [if_pos hx]
        exact ⟨_, rfl, fun _ => by rw [hx]; exact List.mem_cons_self, fun _ => by omega⟩
      · rw [if_neg hx, w3]
        obtain ⟨r, h1, h2⟩ := ih (i + 1) K (by omega) (by omega)
        exact ⟨r, h1, by rw [h2, List.mem_cons]; exact ⟨.inr, fun hh => hh.resolve_left hx⟩⟩
theorem contains_f (xs : List Int) (x : Int) (hl : xs.length ≤ 1000000000000) : slices_Contains_int_int.f (xs.length + 1) xs x = some (decide (x ∈ xs)) := by
  obtain ⟨r, h1, h2⟩ := index_l0 xs x hl xs.length 0 (xs.length + 1) (by omega) (by omega)
  unfold slices_Contains_int_int.f slices_Index_int_int.f
  rw [show ((0 : Int)) = ((0 : Nat) : Int) from rfl, h1, Option.bind_some]
  rw [List.drop_zero] at h2
  congr 1
  by_cases hx : x ∈ xs
  · rw [decide_eq_true hx]; exact decide_eq_true (h2.2 hx)
  · rw [decide_eq_false hx]; exact decide_eq_false (fun hh => hx (h2.1 hh))
set_option maxRecDepth 100000 in
set_option maxHeartbeats 8000000 in
theorem free1_ok {W : World} {A : Option Addr} {c : Nat} (x : Int) (acc : List Int) (B1 : Nat) (c1 : W.cell? ⟨B1, 0, none⟩ = some (.slice A acc.length c)) (hC : Kd.C (Kd.int .i64) W A acc.length acc) (hc : acc.length ≤ c) (hl : acc.length ≤ 1000000000000) :
    FnGives Try.prog 75 #[.pointer (some ⟨B1, 0, none⟩)] #[.int .i64 x] (.bool (!decide (x ∈ acc))) W := by
  show Calls Try.prog 75 #[.int .i64 x, .pointer (some ⟨B1, 0, none⟩)] W _
  have HC := Aside0.mk hC
  have HF := Aside0.mk (contains_f acc x hl)
  clear hC
  refine (callsIn_wide (n := 1)).1 ?_
  refine callsIn_of_wp Try.func75 rfl trivial ?_ rfl
  simp only [Try.ntmps75, List.size_toArray, List.length_cons, List.length_nil, Nat.reduceAdd, Nat.reduceSub, Array.replicate_succ, Array.replicate_zero, List.push_toArray, List.append_toArray, List.nil_append, List.cons_append]
  gi_wp2_with (first
    | (refine ⟨trivial, ?_⟩; gi_at_call 22; refine (callsIn_wide.2 (slices_Contains_int_int.calls _ A c acc x _ W HC.out hc HF.out)).mono ?_; rintro e w1 ⟨rfl, hd⟩; have HD := Aside0.mk hd; clear hd))
  go_ret
  obtain ⟨q, hq⟩ := HD.out.out
  exact ⟨rfl, q, hq⟩
set_option maxRecDepth 100000 in
set_option maxHeartbeats 8000000 in
theorem free_ok {W : World} {base g m d : Nat} {S : Nat → Prop} {l : List Pt} {last : Int} {n : Nat} (h : IsSet W base g m d S l last n) (hn : n ≤ 1000000000) (b : Int) :
    Calls Try.prog 50 #[.pointer (some ⟨g, 0, none⟩), .int .i64 b] W fun e W' => ∃ v, e = .returned v ∧ RI W' W.heap.size (fun _ => True) v (freeL l b) ∧ Below W.heap.size W W' := by
  have H := Aside0.mk h
  have hfi := Aside0.mk h.fits
  have hle := h.len_le
  have hol := ofL_len l b
  have hbx := World.alloc_heap_new W (.cells #[.slice none 0 0] 27)
  have hb1 : Below W.heap.size W (W.alloc (.cells #[.slice none 0 0] 27)) := below_alloc (Below.refl _ _) _
  have HS1 := Aside0.mk (h.below hb1)
  have HB1 := Aside0.mk hb1
  obtain ⟨bx, hbxe⟩ : ∃ bx, W.heap.size = bx := ⟨_, rfl⟩
  have HBX := Aside0.mk hbx
  clear h hb1 hbx
  refine (callsIn_wide (n := 1)).1 ?_
  refine callsIn_of_wp Try.func50 rfl trivial ?_ rfl
  simp only [Try.ntmps50, List.size_toArray, List.length_cons, List.length_nil, Nat.reduceAdd, Nat.reduceSub, Array.replicate_succ, Array.replicate_zero, List.push_toArray, List.append_toArray, List.nil_append, List.cons_append]
  gi_wp2_with (first
    | (refine ⟨trivial, ?_⟩; gi_at_call 18; refine (callsIn_wide.2 (of_ok HS1.out hn b)).mono ?_; rintro e W2 ⟨v2, rfl, hr, hb⟩; obtain ⟨AO, cO, rfl⟩ := Kd.R_slice hr; have HO := Aside0.mk hr; have HB2 := Aside0.mk hb; clear hr hb))
  have hs1 : (W.alloc (.cells #[.slice none 0 0] 27)).heap.size = W.heap.size + 1 := by simp
  rw [hs1] at HO HB2
  have hs2 := HB2.out.size
  have HBX2 := Aside0.mk (show W2.heap[bx]? = some (.cells #[.slice none 0 0] 27 (0, 0)) by rw [← hbxe]; exact (HB2.out.block _ (by omega)).trans HBX.out)
  have HW2 := Aside0.mk (HB1.out.trans (HB2.out.mono (by omega)))
  try rw [hbxe]
  clear HBX HB1 HB2 HS1
  gi_loopw [14] (fun v14 wr => ∃ (i : Nat) (v : Value), v14 = .int .i64 (i : Int) ∧ i ≤ (ofL l b).length ∧ Aside0 (wr.heap[bx]? = some (.cells #[v] 27 (0, 0))) ∧ Aside0 (RI wr W2.heap.size (fun _ => True) v (((ofL l b).take i).foldl (free1 l) [])) ∧ Aside0 (Kept (fun k => k = bx) W2 wr)) (fun v14 _ => (ofL l b).length - (intOf v14).toNat)
  case atStart => exact ⟨0, _, rfl, Nat.zero_le _, HBX2, ⟨Kd.R_nil _ _ _ _ _⟩, ⟨Kept.refl _ _⟩⟩
  case round =>
    obtain ⟨i, v, rfl, hi, HX, HR, HK⟩ := hrel
    by_cases hlt : i < (ofL l b).length
    · have t1 : decide ((i : Int) < ((ofL l b).length : Int)) = true := decide_eq_true (by omega)
      have HO2 := Aside0.mk (Kept.R (Kd.R_bound HO.out) HK.out (fun k hk e => by have := hk.2.1; omega))
      obtain ⟨ad, hA, k0⟩ := at_n (Kd.R_reads' HO2.out).2.2 i hlt
      subst hA
      have hg : (ofL l b).getD i 0 = (ofL l b)[i] := by simp [List.getD_eq_getElem?_getD, hlt]
      rw [hg] at k0
      have hx := ofL_sub (List.getElem_mem hlt)
      have htk : ((ofL l b).take (i + 1)).foldl (free1 l) [] = free1 l (((ofL l b).take i).foldl (free1 l) []) (ofL l b)[i] := by
        rw [List.take_add_one, List.getElem?_eq_getElem hlt, List.foldl_append]
        rfl
      have hfl : (((ofL l b).take i).foldl (free1 l) []).length ≤ i := by
        have hh : ∀ (os acc : List Int), (os.foldl (free1 l) acc).length ≤ acc.length + os.length := by
          intro os
          induction os with
          | nil => intro acc; simp
          | cons o os ih =>
            intro acc
            rw [List.foldl_cons]
            have h1 := ih (free1 l acc o)
            have h2 : (free1 l acc o).length ≤ acc.length + 1 := by unfold free1; split <;> simp
            simp only [List.length_cons]
            omega
        have h1 := hh ((ofL l b).take i) []
        rw [List.length_take] at h1
        simp only [List.length_nil] at h1
        omega
      generalize (ofL l b)[i] = x at *
      generalize ((ofL l b).take i).foldl (free1 l) [] = acc at *
      have hwr : Below W.heap.size W wr := HW2.out.trans (HK.out.below (fun k hk => by omega) (by omega))
      have hs := H.out.below hwr
      have c2 := hs.map_cell
      obtain ⟨A2, k2, B2, j2, r1, r2, q1, q2⟩ := hs.look x (wf_id hfi.out hx)
      have hnd : ∀ y ∈ (get l x).nd, (Lit.int .i64 y).wf = true := fun y hy => by
        have h1 := get_id hx
        have h2 := hfi.out.ndl _ h1.2 y hy
        have h3 := ids_mem hfi.out hx
        have h4 := hfi.out.lastm
        rw [h1.1] at h2
        exact WalkArith.wf_i64 (by omega)
      have hndl : (get l x).nd.length ≤ 1000000000 := by
        have h1 := get_id hx
        exact Fits.nd_len hfi.out h1.2
      have hfn := field_nd (get l x).id (get l x).blk (get l x).off (.slice A2 (get l x).by_.length k2) (.slice B2 (get l x).nd.length j2) wr
      generalize hgp : get l x = p at r2 q1 q2 hnd hndl hfn
      have HTK := Aside0.mk htk
      have HS := Aside0.mk hs
      have HND := Aside0.mk hnd
      have HQ := Aside0.mk q2
      have HGP := Aside0.mk hgp
      obtain ⟨AV, cV, hv⟩ := Kd.R_slice HR.out
      subst hv
      have hcl : acc.length ≤ cV := (Kd.R_reads' HR.out).2.1
      have hbxlt : bx < wr.heap.size := by have := HK.out.size; omega
      have hwrs := HK.out.size
      clear htk hg q1 q2 hs hnd r1 hgp hwr
      gi_wp2_with (first
        | (refine ⟨trivial, ?_⟩; gi_at_call 47; refine (callsIn_wide.2 (pending_ok HS.out B2 j2 p.nd (Kd.R_reads' HQ.out).2.2 HND.out (by omega))).mono ?_; rintro e W3 ⟨v3, rfl, hr, hb⟩; have HP := Aside0.mk hr; have HB3 := Aside0.mk hb; clear hr hb))
      have hX3 := (HB3.out.block bx hbxlt).trans HX.out
      have HR3 := Aside0.mk (Kd.R_below HR.out HB3.out)
      have hb3s := HB3.out.size
      have hpl : (pen l p.nd).length ≤ 1000000000 := Nat.le_trans (List.length_filter_le _ _) (by omega)
      have hcon := contains_ok HP.out (by omega) (fun y => !decide (y ∈ acc)) 75 #[.pointer (some ⟨bx, 0, none⟩)] (enters_of Try.func75 (by kernel_rfl) rfl) (fun W4 y hb4 =>
        free1_ok y acc bx (cell_of ((hb4.block bx (by omega)).trans hX3) rfl) (Kd.C_below (Kd.R_reads' HR3.out).2.2 hb4) hcl (by omega))
      have HCON := Aside0.mk hcon
      have HX3 := Aside0.mk hX3
      clear hcon hX3 hpl
      cases hp : (pen l p.nd).any (fun y => !decide (y ∈ acc)) with
      | true =>
        rw [hp] at HCON
        gi_wp2_with (first
          | (refine ⟨trivial, ?_⟩; gi_at_call 41; refine (callsIn_wide.2 (HCON.out)).mono ?_; rintro e W4 ⟨rfl, hb⟩; have HB4 := Aside0.mk hb; clear hb))
        have htk := HTK.out
        rw [free1, HGP.out, hp, if_pos rfl] at htk
        have hb4s := HB4.out.size
        exact ⟨⟨i + 1, _, by simp, hlt, ⟨(HB4.out.block bx (by omega)).trans HX3.out⟩, ⟨by rw [htk]; exact Kd.R_below HR3.out HB4.out⟩, ⟨HK.out.trans (Kept.of_below (S := fun _ => False) (below_step HB3.out HB4.out hb3s)) (fun k hk => hk.elim)⟩⟩, by simp [intOf]; omega⟩
      | false =>
        rw [hp] at HCON
        gi_wp2_with (first
          | (refine ⟨trivial, ?_⟩; gi_at_call 41; refine (callsIn_wide.2 (HCON.out)).mono ?_; rintro e W4 ⟨rfl, hb⟩; have HB4 := Aside0.mk hb; clear hb; have hb4s := HB4.out.size; have hX4 := (HB4.out.block bx (by omega)).trans HX3.out; have HR4 := Aside0.mk (Kd.R_below HR3.out HB4.out); have cx4 := cell_of (i := 0) hX4 rfl; obtain ⟨v6, w6, hrun, hr6, hg6, ho6⟩ := Ap.run_append_one (P := Try.prog) (Kd.int .i64) (W := W4) W2.heap.size 27 27 3 (.int .i64 0) 8 Try.underlying27 cinfo rfl (by decide) (by decide) (.slice AV acc.length cV) acc x [.int .i64 x] (fun _ => True) (fun _ => False) rfl (fun k hk => hk.elim) (fun _ _ => trivial) HR4.out (by omega) (by omega); obtain ⟨acc', hacc⟩ : ∃ acc', acc ++ [x] = acc' := ⟨_, rfl⟩; rw [hacc] at hr6; obtain ⟨A6, c6, hv6⟩ := Kd.R_slice hr6; subst hv6; have HACC := Aside0.mk hacc; have HX6 := Aside0.mk (show w6.heap[bx]? = some (.cells #[.slice AV acc.length cV] 27 (0, 0)) from (hg6.block bx (by omega) (fun e => by have := Kd.R_base HR4.out bx e.symm; omega)).trans hX4); have cx6 := cell_of (i := 0) HX6.out rfl; have fx6 : w6.frozen? ⟨bx, 0, none⟩ = false := (by simp [World.frozen?, HX6.out]); have HR6 := Aside0.mk hr6; have HG6 := Aside0.mk hg6; clear hr6 hg6 ho6 hX4 hacc)
          | (gi_at_builtin; refine Ap.wpListIn_append_run _ rfl _ _ _ rfl _ _ rfl rfl _ _ hrun ?_))
        have htk := HTK.out
        rw [free1, HGP.out, hp, if_neg (by decide)] at htk
        have hb4s := HB4.out.size
        have hg6s := HG6.out.size
        have hk6 : Kept (fun k => k = bx) W2 (w6.setCell ⟨bx, 0, none⟩ (.slice A6 acc'.length c6)) := by
          refine ⟨?_, ?_, ?_, ?_, fun k hk hne => ?_⟩
          · exact HG6.out.os.trans (HB4.out.os.trans (HB3.out.os.trans HK.out.os))
          · exact HG6.out.tape.trans (HB4.out.tape.trans (HB3.out.tape.trans HK.out.tape))
          · exact HG6.out.output.trans (HB4.out.output.trans (HB3.out.output.trans HK.out.output))
          · simp; omega
          · exact (Below.heap_setCell w6 ⟨bx, 0, none⟩ _ k hne).trans ((HG6.out.block k (by omega) (fun e => by have := Kd.R_base HR4.out k e.symm; omega)).trans ((HB4.out.block k (by omega)).trans ((HB3.out.block k (by omega)).trans (HK.out.same k hk hne))))
        exact ⟨⟨i + 1, _, by simp, hlt, ⟨set_heap HX6.out _⟩, ⟨by rw [htk, HACC.out]; exact Kd.R_mono (Kd.R_far (p := ⟨bx, 0, none⟩) (Kd.R_bound HR6.out) (fun k hk e => by have := hk.2.1; simp at e; omega) _) (fun _ _ => trivial)⟩, ⟨hk6⟩⟩, by simp [intOf]; omega⟩
    · obtain rfl : i = (ofL l b).length := by omega
      have t1 : decide (((ofL l b).length : Int) < ((ofL l b).length : Int)) = false := decide_eq_false (by omega)
      have cx := cell_of (i := 0) HX.out rfl
      have hr := HR.out
      rw [List.take_length] at hr
      have HR2 := Aside0.mk hr
      clear hr HR
      gi_wp2
      go_ret
      exact ⟨_, rfl, Kd.R_lower HR2.out (by omega), HW2.out.trans (HK.out.below (fun k hk => by omega) (by omega))⟩
end Go.Proofs.Ytijgfcpffjjlfaa.Pq
