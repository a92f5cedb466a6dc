/- Written by a program of this session. (*Set).Done. -/
import Derived.BigQuiet
import Derived.Deep.QuietTactic
import Derived.Test.YtijgfcpffjjlfaaQg
namespace Go.Proofs.Ytijgfcpffjjlfaa.Pq
open Go Go.RowKit Go.Shelf Go.Proofs Go.Maps Go.Sort Go.Proofs.Ytijgfcpffjjlfaa.XFb Go.Proofs.YtijgfcpffjjlfaaW.PrintWords Go.Proofs.YtijgfcpffjjlfaaW.PrintLast Go.Proofs.YtijgfcpffjjlfaaW.PrintMore
set_option linter.unusedVariables false
set_option linter.unusedSimpArgs false
/-- So many entries a map has at the most. -/
theorem IsSet.tight {W : World} {base g m d : Nat} {S : Nat → Prop} {l : List Pt} {last : Int} {n : Nat} (h : IsSet W base g m d S l last n) : IsSet W base g m d S l last last.toNat := by
  obtain ⟨h1, h2, ⟨D, h3, h4, h5⟩, ⟨D2, h6, h7⟩, h8, h9, h10, h11, h12, h13⟩ := h
  have hk := IsSet.keys ⟨h1, h2, ⟨D, h3, h4, h5⟩, ⟨D2, h6, h7⟩, h8, h9, h10, h11, h12, h13⟩ h3 h4
  have hl0 := h1.last0
  have hin : ∀ i : Int, i ∈ (List.range last.toNat).map (fun j : Nat => (j : Int) + 1) ↔ 1 ≤ i ∧ i ≤ last := fun i => by
    rw [List.mem_map]
    constructor
    · rintro ⟨j, hj, rfl⟩
      rw [List.mem_range] at hj
      omega
    · intro hi
      exact ⟨(i - 1).toNat, List.mem_range.2 (by omega), by omega⟩
  have hsz : ∀ {H : Type} {R : Value → Option (DataW H × List MemPlace)} {b : Nat} {Dx : DataW H}, W.ownsMap Try.prog 3 R b n Dx → (intKeys Dx).length ≤ last.toNat → W.ownsMap Try.prog 3 R b last.toNat Dx := by
    intro H R b Dx hx hlen
    obtain ⟨es, clock, e1, e2, e3, rfl⟩ := hx
    refine ⟨es, clock, e1, e2, ?_, rfl⟩
    have : (intKeys (DataW.map ((es.toList.map (Go.WideElems.rg Try.prog 3 R)).foldr DataW.insert []))).length = es.size := by
      show ((((es.toList.map (Go.WideElems.rg Try.prog 3 R)).foldr DataW.insert [])).map _).length = es.size
      rw [List.length_map, length_sorted]
      simp
    omega
  refine ⟨h1, h2, ⟨D, hsz h3 ?_, h4, h5⟩, ⟨D2, hsz h6 ?_, h7⟩, h8, h9, h10, h11, h12, h13⟩
  · rw [← hk.length_eq]
    have h14 := rises_len (ids l) 1 (last + 1) h1.rise (fun i hi => by
      obtain ⟨p, hp, rfl⟩ := List.mem_map.1 hi
      have := h1.low p hp
      have := h1.high p hp
      omega)
    omega
  · obtain ⟨es, hD, hpw, _⟩ := h6.entries law
    obtain ⟨es', hD', hko⟩ := h6.keysOf
    obtain rfl : es = es' := by rw [hD] at hD'; simpa using hD'
    subst hD
    have hp := perm_intKeys hpw (fun p hp => by obtain ⟨v, hv⟩ := hko p hp; obtain ⟨x, _, hx, _⟩ := Maps.keyOf_i64 Try.underlying3 hv; exact ⟨x, hx⟩) (ss := ((List.range last.toNat).map (fun j : Nat => (j : Int) + 1)).filter (fun i => decide (i ∉ ids l))) (List.Pairwise.filter _ (List.pairwise_map.2 (List.Pairwise.imp (fun hne e => hne (by omega)) List.nodup_range)))
      (fun x => by rw [h7 x, List.mem_filter, hin x, decide_eq_true_eq, decide_eq_true_eq]; exact and_assoc)
    rw [← hp.length_eq]
    refine Nat.le_trans (List.length_filter_le _ _) ?_
    rw [List.length_map, List.length_range]
    exact Nat.le_refl _
def bad (l : List Pt) (ls : List Int) (i : Int) : Bool := (pen l (get l i).nd).any (fun n => !decide (n ∈ ls))
def doneE (l : List Pt) (last : Int) (xs : List Int) : Int := if xs.any (fun i => !known last i) then 70 else if (pen l xs).any (bad l (pen l xs)) then 3 else 0
def doneL (l : List Pt) (xs : List Int) : List Pt := l.filter (fun p => !decide (p.id ∈ xs))
def doneR (l : List Pt) (last : Int) (xs : List Int) : List Pt := if doneE l last xs = 0 then doneL l xs else l
theorem ids_done (l : List Pt) (xs : List Int) (i : Int) : i ∈ ids (doneL l xs) ↔ i ∈ ids l ∧ i ∉ xs := by
  unfold ids doneL
  constructor
  · intro h
    obtain ⟨p, hp, rfl⟩ := List.mem_map.1 h
    obtain ⟨h1, h2⟩ := List.mem_filter.1 hp
    exact ⟨List.mem_map_of_mem h1, by simpa using h2⟩
  · rintro ⟨h, h2⟩
    obtain ⟨p, hp, rfl⟩ := List.mem_map.1 h
    exact List.mem_map.2 ⟨p, List.mem_filter.2 ⟨hp, by simpa using h2⟩, rfl⟩
set_option maxRecDepth 100000 in
set_option maxHeartbeats 8000000 in
theorem done1_ok {W : World} {base g m d : Nat} {S : Nat → Prop} {l : List Pt} {last : Int} {n : Nat} (h : IsSet W base g m d S l last n) (x : Int) (B1 : Nat) (c1 : W.cell? ⟨B1, 0, none⟩ = some (.pointer (some ⟨g, 0, none⟩))) :
    FnGives Try.prog 56 #[.pointer (some ⟨B1, 0, none⟩)] #[.int .i64 x] (.bool (!known last x)) W := by
  show Calls Try.prog 56 #[.int .i64 x, .pointer (some ⟨B1, 0, none⟩)] W _
  have H := Aside0.mk h
  clear h
  refine (callsIn_wide (n := 1)).1 ?_
  refine callsIn_of_wp Try.func56 rfl trivial ?_ rfl
  simp only [Try.ntmps56, List.size_toArray, List.length_cons, List.length_nil, Nat.reduceAdd, Nat.reduceSub, Array.replicate_succ, Array.replicate_zero, List.push_toArray, List.append_toArray, List.nil_append, List.cons_append]
  gi_wp2_with (first
    | (refine ⟨trivial, ?_⟩; gi_at_call 43; refine (callsIn_wide.2 (known_ok H.out x)).mono ?_; rintro e w1 ⟨rfl, hw⟩; rw [hw]; clear hw))
  go_ret
  exact ⟨rfl, 0, rfl⟩
set_option maxRecDepth 100000 in
set_option maxHeartbeats 8000000 in
theorem done_ok {W : World} {base g m d : Nat} {S : Nat → Prop} {l : List Pt} {last : Int} {n : Nat} (h : IsSet W base g m d S l last n) (hn : n ≤ 400) {b9 : Nat} {S9 : Nat → Prop} (AN : Option Addr) (cN : Nat) (xs : List Int) (hN : RI W b9 S9 (.slice AN xs.length cN) xs) (hnw : ∀ x ∈ xs, (Lit.int .i64 x).wf = true) (hnl : xs.length ≤ 17592186043904) :
    Calls Try.prog 23 #[.pointer (some ⟨g, 0, none⟩), .slice AN xs.length cN] W fun e W' => e = .returned (.int .i64 (doneE l last xs)) ∧ IsSet W' base g m d S (doneR l last xs) last last.toNat ∧ Kept (fun k => k = g ∨ k = m ∨ k = d) W W' := by
  have H := Aside0.mk h
  have hfi := Aside0.mk h.fits
  have hg := h.cells
  have hle := h.len_le
  have hgl := h.ltg
  have hml := h.ltm
  have hdl := h.ltd
  have hgm := h.gm
  have hne := h.ne
  have HN := Aside0.mk hN
  have HNW := Aside0.mk hnw
  have hA := AS.mk_ W g
  have HA1 := Aside0.mk hA
  have hlt1 : (W.alloc (.cells #[.pointer (some ⟨g, 0, none⟩)] 23)).heap.size = W.heap.size + 1 := by simp
  obtain ⟨W1, hW1⟩ : ∃ W1, W.alloc (.cells #[.pointer (some ⟨g, 0, none⟩)] 23) = W1 := ⟨_, rfl⟩
  rw [hW1] at hA HA1 hlt1
  obtain ⟨bs, hbs⟩ : ∃ bs, W.heap.size = bs := ⟨_, rfl⟩
  have cb := hA.box
  rw [hbs] at cb
  have HS1 := Aside0.mk (h.below hA.lay)
  have HO1 := Aside0.mk (own_ok W1 g _ _ _ HS1.out.cells)
  have hcon := contains_ok (Kd.R_below HN.out hA.lay) (show xs.length ≤ 17592186044416 by omega) (fun i => !known last i) 56 #[.pointer (some ⟨bs, 0, none⟩)] (enters_of Try.func56 (by kernel_rfl) rfl)
    (fun W4 x hb4 => done1_ok (HS1.out.below hb4) x bs (by rw [← hbs]; exact cell_of ((hb4.block _ (by omega)).trans HA1.out.1) rfl))
  have HCON := Aside0.mk hcon
  clear h hN hnw hA hcon
  refine (callsIn_wide (n := 1)).1 ?_
  refine callsIn_of_wp Try.func23 rfl trivial ?_ rfl
  simp only [Try.ntmps23, List.size_toArray, List.length_cons, List.length_nil, Nat.reduceAdd, Nat.reduceSub, Array.replicate_succ, Array.replicate_zero, List.push_toArray, List.append_toArray, List.nil_append, List.cons_append]
  cases hnk : xs.any (fun i => !known last i) with
  | true =>
    have HE : Aside0 (doneE l last xs = 70) := ⟨by unfold doneE; rw [hnk, if_pos rfl]⟩
    rw [hnk] at HCON
    gi_wp2_with (first
      | (refine ⟨trivial, ?_⟩; gi_at_call 39; refine (callsIn_wide.2 (HO1.out)).mono ?_; rintro e w1 ⟨rfl, hw⟩; rw [hw]; clear hw)
      | (refine ⟨trivial, ?_⟩; gi_at_call 41; refine (callsIn_wide.2 (HCON.out)).mono ?_; rintro e Wc ⟨rfl, hb⟩; have HB2 := Aside0.mk hb; clear hb))
    go_ret
    have hb2 := below_step HA1.out.lay HB2.out (by omega)
    refine ⟨by rw [HE.out]; rfl, ?_, Kept.of_below hb2⟩
    unfold doneR
    rw [HE.out, if_neg (by decide)]
    exact (H.out.below hb2).tight
  | false =>
    have HE0 : Aside0 (doneE l last xs = if (pen l xs).any (bad l (pen l xs)) then 3 else 0) := ⟨by unfold doneE; rw [hnk, if_neg (by decide)]⟩
    rw [hnk] at HCON
    have hpr : Rises (pen l xs) := hfi.out.rise.filter _
    have hps : ∀ i ∈ pen l xs, i ∈ ids l := fun i hi => (pen_sub hi).1
    have hpl : (pen l xs).length ≤ n := Nat.le_trans (List.length_filter_le _ _) hle
    have hpx : ∀ i, i ∈ pen l xs ↔ i ∈ ids l ∧ i ∈ xs := fun i => ⟨pen_sub, fun h => by rw [pen, List.mem_filter, decide_eq_true_eq]; exact h⟩
    have HPX := Aside0.mk hpx
    have HPIN := Aside0.mk hps
    have HPR := Aside0.mk hpr
    clear hpx hps hpr
    gi_wp2_with (first
      | (refine ⟨trivial, ?_⟩; gi_at_call 39; refine (callsIn_wide.2 (HO1.out)).mono ?_; rintro e w1 ⟨rfl, hw⟩; rw [hw]; clear hw)
      | (refine ⟨trivial, ?_⟩; gi_at_call 41; refine (callsIn_wide.2 (HCON.out)).mono ?_; rintro e Wc ⟨rfl, hb⟩; have HB2 := Aside0.mk hb; have HA2 := Aside0.mk (HA1.out.below hb); have cb2 := HA2.out.box; rw [hbs] at cb2; have HS2 := Aside0.mk (HS1.out.below hb); clear hb)
      | (refine ⟨trivial, ?_⟩; gi_at_call 47; refine (callsIn_wide.2 (pending_ok HS2.out AN cN xs (Kd.C_below (Kd.R_reads' HN.out).2.2 HA2.out.lay) HNW.out (by omega))).mono ?_; rintro e W3 ⟨vL, rfl, hr, hb⟩; have HB3 := Aside0.mk hb; have HA3 := Aside0.mk (HA2.out.below hb); have HS3 := Aside0.mk (HS2.out.below hb); obtain ⟨AL, cL, rfl⟩ := Kd.R_slice hr; have HL := Aside0.mk hr; clear hr hb))
    have hsz3 : bs + 1 ≤ W3.heap.size := by have h1 := HB2.out.size; have h2 := HB3.out.size; omega
    have HB2s : W.heap.size ≤ Wc.heap.size := by have h1 := HB2.out.size; omega
    have hszl : bs + 1 ≤ Wc.heap.size := by have h1 := HB2.out.size; omega
    generalize hls : pen l xs = ls at *
    have HLS := Aside0.mk hls
    clear HB2 HA2 cb2 HS2 HCON cb hls
    gi_loopw [25] (fun v25 wr => ∃ i : Nat, v25 = .int .i64 (i : Int) ∧ i ≤ ls.length ∧ Aside0 ((ls.take i).any (bad l ls) = false) ∧ Aside0 (Below W3.heap.size W3 wr)) (fun v25 _ => ls.length - (intOf v25).toNat)
    case atStart => exact ⟨0, rfl, Nat.zero_le _, ⟨rfl⟩, ⟨Below.refl _ _⟩⟩
    case round =>
      obtain ⟨i, rfl, hi, HNB, HW⟩ := hrel
      have hws := HW.out.size
      have HSR := Aside0.mk (HS3.out.below HW.out)
      have HAR := Aside0.mk (HA3.out.below HW.out)
      have HLR := Aside0.mk (Kd.R_below HL.out HW.out)
      by_cases hlt : i < ls.length
      · have t1 : decide ((i : Int) < (ls.length : Int)) = true := decide_eq_true (by omega)
        obtain ⟨ad, hAd, k0⟩ := at_n (Kd.R_reads' HLR.out).2.2 i hlt
        subst hAd
        have hg' : ls.getD i 0 = ls[i] := by simp [List.getD_eq_getElem?_getD, hlt]
        rw [hg'] at k0
        have hxi := HPIN.out ls[i] (List.getElem_mem hlt)
        have hxm := List.getElem_mem hlt
        have htk : (ls.take (i + 1)).any (bad l ls) = bad l ls ls[i] := by
          rw [List.take_add_one, List.getElem?_eq_getElem hlt, List.any_append, HNB.out]
          simp
        generalize ls[i] = x at *
        obtain ⟨A2, k2, B2, j2, hlk, q1, q2⟩ := HSR.out.lookB x (wf_id hfi.out hxi)
        have hmem := get_id hxi
        have hndw : ∀ y ∈ (get l x).nd, (Lit.int .i64 y).wf = true := fun y hy => by
          have h2 := hfi.out.ndl _ hmem.2 y hy
          have h3 := ids_mem hfi.out hxi
          have h4 := hfi.out.lastm
          rw [hmem.1] at h2
          exact WalkArith.wf_i64 (by omega)
        have hndl := Fits.nd_len hfi.out hmem.2
        have hbad : bad l ls x = (pen l (get l x).nd).any (fun n => !decide (n ∈ ls)) := rfl
        rw [hbad] at htk
        generalize get l x = p at hlk q1 q2 hndw hndl htk hbad
        have HBAD := Aside0.mk hbad
        have hdr : Below wr.heap.size wr wr.drew := ⟨rfl, rfl, rfl, Nat.le_refl _, fun _ _ => rfl⟩
        have hpen := pending_ok (HSR.out.below hdr) B2 j2 p.nd (Kd.C_below (Kd.R_reads' q2).2.2 hdr) hndw (by omega)
        have HPEN := Aside0.mk hpen
        have HTK := Aside0.mk htk
        have hfn := field_nd
        have y0 : wr.drew.cell? ⟨bs, 0, none⟩ = some (.pointer (some ⟨g, 0, none⟩)) := by have h1 := HAR.out.box; rw [hbs] at h1; exact h1
        have y1 : wr.drew.cell? ⟨g, 2, none⟩ = some (.map (some m)) := HSR.out.map_cell
        have y2 := (hlk wr.drew rfl).2
        have hpql : (pen l p.nd).length ≤ n := Nat.le_trans (List.length_filter_le _ _) hle
        clear hpen htk hbad hndw hndl hmem q1 q2 hlk hdr hg'
        gi_wp2
        refine wpIn_wide.2 ?_
        refine start_ (n := 11) (S := fun w' => w'.cell? ⟨bs, 0, none⟩ = some (.pointer (some ⟨g, 0, none⟩)) ∧ w'.cell? ⟨g, 2, none⟩ = some (.map (some m)) ∧ (Instr.lookup 53 (.map (some m)) (.int .i64 x) false).run Try.prog w' = .ok (.agg #[.int .i64 p.id, .int .i64 p.blk, .int .i64 p.off, .slice A2 p.by_.length k2, .slice B2 p.nd.length j2]) w') (ds := [8]) #[false, false, false, false, false, false, false, false, false, false, false] (by kernel_rfl) rfl rfl ⟨y0, y1, y2⟩ (fun hHeld => ?_)
        refine pure_ (i := 5) (N := some 34) (v := ?_) (a' := ?_) #[false, false, false, false, false, true, false, false, false, false, false] rfl rfl (by kernel_rfl) (fun _ _ _ h => h) (Or.inl ⟨by rfl, ?_⟩) ?_ ?_
        rotate_left
        · intro w'
          go_simp
          with_reducible rfl
        rotate_left
        · simp only [Act.put, List.setIfInBounds_toArray, List.set_cons_zero, List.set_cons_succ, i64_w, i32_w]
          rfl
        refine pure_ (i := 10) (N := some 39) (v := ?_) (a' := ?_) #[false, false, false, false, false, true, false, false, false, false, true] rfl rfl (by kernel_rfl) (fun _ _ _ h => h) (Or.inl ⟨by rfl, ?_⟩) ?_ ?_
        rotate_left
        · intro w'
          go_simp
          with_reducible rfl
        rotate_left
        · simp only [Act.put, List.setIfInBounds_toArray, List.set_cons_zero, List.set_cons_succ, i64_w, i32_w]
          rfl
        refine take_ (i := 0) (N := some 29) (v := ?_) (a' := ?_) #[true, false, false, false, false, true, false, false, false, false, true] rfl rfl (by kernel_rfl) (fun _ _ _ h => h) (Or.inl ⟨by rfl, ?_⟩) hHeld ?_ ?_
        rotate_left
        · rintro w' ⟨s0, s1, s2⟩
          go_simp
          with_reducible rfl
        rotate_left
        · simp only [Act.put, List.setIfInBounds_toArray, List.set_cons_zero, List.set_cons_succ, i64_w, i32_w]
          rfl
        refine take_ (i := 1) (N := some 30) (v := ?_) (a' := ?_) #[true, true, false, false, false, true, false, false, false, false, true] rfl rfl (by kernel_rfl) (fun _ _ _ h => h) (Or.inl ⟨by rfl, ?_⟩) hHeld ?_ ?_
        rotate_left
        · rintro w' ⟨s0, s1, s2⟩
          go_simp
          with_reducible rfl
        rotate_left
        · simp only [Act.put, List.setIfInBounds_toArray, List.set_cons_zero, List.set_cons_succ, i64_w, i32_w]
          rfl
        refine pure_ (i := 2) (N := some 31) (v := ?_) (a' := ?_) #[true, true, true, false, false, true, false, false, false, false, true] rfl rfl (by kernel_rfl) (fun _ _ _ h => h) (Or.inl ⟨by rfl, ?_⟩) ?_ ?_
        rotate_left
        · intro w'
          go_simp
          with_reducible rfl
        rotate_left
        · simp only [Act.put, List.setIfInBounds_toArray, List.set_cons_zero, List.set_cons_succ, i64_w, i32_w]
          rfl
        refine pure_ (i := 3) (N := some 32) (v := ?_) (a' := ?_) #[true, true, true, true, false, true, false, false, false, false, true] rfl rfl (by kernel_rfl) (fun _ _ _ h => h) (Or.inl ⟨by rfl, ?_⟩) ?_ ?_
        rotate_left
        · intro w'
          go_simp
          with_reducible rfl
        rotate_left
        · simp only [Act.put, List.setIfInBounds_toArray, List.set_cons_zero, List.set_cons_succ, i64_w, i32_w]
          rfl
        refine take_ (i := 4) (N := some 33) (v := ?_) (a' := ?_) #[true, true, true, true, true, true, false, false, false, false, true] rfl rfl (by kernel_rfl) (fun _ _ _ h => h) (Or.inl ⟨by rfl, ?_⟩) hHeld ?_ ?_
        rotate_left
        · rintro w' ⟨s0, s1, s2⟩
          go_simp
          with_reducible rfl
        rotate_left
        · simp only [Act.put, List.setIfInBounds_toArray, List.set_cons_zero, List.set_cons_succ, i64_w, i32_w]
          rfl
        refine take_ (i := 6) (N := some 35) (v := ?_) (a' := ?_) #[true, true, true, true, true, true, true, false, false, false, true] rfl rfl (by kernel_rfl) (fun _ _ _ h => h) (Or.inl ⟨by rfl, ?_⟩) hHeld ?_ ?_
        rotate_left
        · rintro w' ⟨s0, s1, s2⟩
          go_simp
          with_reducible rfl
        rotate_left
        · simp only [Act.put, List.setIfInBounds_toArray, List.set_cons_zero, List.set_cons_succ, i64_w, i32_w]
          rfl
        refine pure_ (i := 7) (N := some 36) (v := ?_) (a' := ?_) #[true, true, true, true, true, true, true, true, false, false, true] rfl rfl (by kernel_rfl) (fun _ _ _ h => h) (Or.inl ⟨by rfl, ?_⟩) ?_ ?_
        rotate_left
        · intro w'
          go_simp
          with_reducible rfl
        rotate_left
        · simp only [Act.put, List.setIfInBounds_toArray, List.set_cons_zero, List.set_cons_succ, i64_w, i32_w]
          rfl
        refine last_ (i := 8) (N := some 37) #[true, true, true, true, true, true, true, true, true, false, true] rfl rfl (by kernel_rfl) (by decide) (fun K hK => ?_)
        refine goes_ Try.func47 (by kernel_rfl) rfl #[.pointer (some ⟨g, 0, none⟩), .slice B2 p.nd.length j2] (by rfl) rfl rfl (by simp only [List.map_toArray, List.map_cons, List.map_nil]; rfl) ?_
        with_reducible refine (HPEN.out).mono ?_
        rintro e W4 ⟨v3, rfl, hr, hb⟩
        refine ⟨_, rfl, ?_⟩
        obtain ⟨AP, cP, hv3⟩ := Kd.R_slice hr
        subst hv3
        have HP := Aside0.mk hr
        have HB4 := Aside0.mk hb
        clear hr hb
        refine hK.out _ _ ?_
        clear hK K
        refine norm_ (a' := ?_) ?_ ?_
        rotate_left
        · show Act.put _ (some 37) _ = _
          simp only [Act.put, List.setIfInBounds_toArray, List.set_cons_zero, List.set_cons_succ, i64_w, i32_w]
          rfl
        refine pure_ (i := 9) (N := some 38) (v := ?_) (a' := ?_) #[true, true, true, true, true, true, true, true, true, true, true] rfl rfl (by kernel_rfl) (fun _ _ _ h => h) (Or.inl ⟨by rfl, ?_⟩) ?_ ?_
        rotate_left
        · intro w'
          go_simp
          with_reducible rfl
        rotate_left
        · simp only [Act.put, List.setIfInBounds_toArray, List.set_cons_zero, List.set_cons_succ, i64_w, i32_w]
          rfl
        refine done_ (by kernel_rfl) ?_

        clear hfn
        gi_wp2
        gi_loopw [39] (fun v39 wq => ∃ j : Nat, v39 = .int .i64 (j : Int) ∧ j ≤ (pen l p.nd).length ∧ Aside0 (((pen l p.nd).take j).any (fun n => !decide (n ∈ ls)) = false) ∧ Aside0 (Below W4.heap.size W4 wq)) (fun v39 _ => (pen l p.nd).length - (intOf v39).toNat)
        case atStart => exact ⟨0, rfl, Nat.zero_le _, ⟨rfl⟩, ⟨Below.refl _ _⟩⟩
        case round =>
          obtain ⟨j, rfl, hj, HNC, HQ⟩ := hrel
          rename World => wq
          have hqs := HQ.out.size
          have hq4 := HB4.out.size
          have hbq : Below wr.heap.size wr wq := (show Below wr.heap.size wr wr.drew from ⟨rfl, rfl, rfl, Nat.le_refl _, fun _ _ => rfl⟩).trans (HB4.out.trans (HQ.out.mono hq4))
          have HBQ := Aside0.mk hbq
          have HLQ := Aside0.mk (Kd.R_below HLR.out hbq)
          clear hbq
          by_cases hlj : j < (pen l p.nd).length
          · have t3 : decide ((j : Int) < ((pen l p.nd).length : Int)) = true := decide_eq_true (by omega)
            obtain ⟨ad2, hA2, z0⟩ := at_n (Kd.C_below (Kd.R_reads' HP.out).2.2 HQ.out) j hlj
            subst hA2
            have hg2 : (pen l p.nd).getD j 0 = (pen l p.nd)[j] := by simp [List.getD_eq_getElem?_getD, hlj]
            rw [hg2] at z0
            have htj : ((pen l p.nd).take (j + 1)).any (fun n => !decide (n ∈ ls)) = !decide ((pen l p.nd)[j] ∈ ls) := by
              rw [List.take_add_one, List.getElem?_eq_getElem hlj, List.any_append, HNC.out]
              simp
            have hmj := List.getElem_mem hlj
            generalize (pen l p.nd)[j] = z at *
            have HTJ := Aside0.mk htj
            have hcf := contains_f ls z (by omega)
            have HCF := Aside0.mk hcf
            clear htj hcf hg2
            by_cases hz : z ∈ ls
            · rw [decide_eq_true hz] at HCF HTJ
              gi_wp2_with (first
                | (refine ⟨trivial, ?_⟩; gi_at_call 22; refine (callsIn_wide.2 (slices_Contains_int_int.calls _ _ _ ls z true _ (Kd.R_reads' HLQ.out).2.2 (Kd.R_reads' HLQ.out).2.1 HCF.out)).mono ?_; rintro e W5 ⟨rfl, hd⟩; have HD := Aside0.mk hd.below; clear hd))
              exact ⟨⟨j + 1, by simp, hlj, ⟨HTJ.out⟩, ⟨below_step HQ.out HD.out hqs⟩⟩, by simp [intOf]; omega⟩
            · rw [decide_eq_false hz] at HCF HTJ
              have HE : Aside0 (doneE l last xs = 3) := ⟨by
                rw [HE0.out, if_pos]
                refine List.any_eq_true.2 ⟨x, hxm, ?_⟩
                have h1 : (pen l p.nd).any (fun n => !decide (n ∈ ls)) = true := List.any_eq_true.2 ⟨z, hmj, by simp [hz]⟩
                exact HBAD.out.trans h1⟩
              gi_wp2_with (first
                | (refine ⟨trivial, ?_⟩; gi_at_call 22; refine (callsIn_wide.2 (slices_Contains_int_int.calls _ _ _ ls z false _ (Kd.R_reads' HLQ.out).2.2 (Kd.R_reads' HLQ.out).2.1 HCF.out)).mono ?_; rintro e W5 ⟨rfl, hd⟩; have HD := Aside0.mk hd.below; clear hd))
              go_ret
              have hbz : Below W.heap.size W W5 := below_step (below_step HAR.out.lay HBQ.out (by omega)) HD.out (by have := HBQ.out.size; omega)
              refine ⟨by rw [HE.out]; rfl, ?_, Kept.of_below hbz⟩
              unfold doneR
              rw [HE.out, if_neg (by decide)]
              exact (H.out.below hbz).tight
          · obtain rfl : j = (pen l p.nd).length := by omega
            have t3 : decide (((pen l p.nd).length : Int) < ((pen l p.nd).length : Int)) = false := decide_eq_false (by omega)
            have hnc := HNC.out
            rw [List.take_length] at hnc
            have HNC2 := Aside0.mk hnc
            clear hnc HNC
            gi_wp2
            exact ⟨⟨i + 1, by simp, hlt, ⟨HTK.out.trans HNC2.out⟩, ⟨HW.out.trans (HBQ.out.mono hws)⟩⟩, by simp [intOf]; omega⟩
      · obtain rfl : i = ls.length := by omega
        have t1 : decide ((ls.length : Int) < (ls.length : Int)) = false := decide_eq_false (by omega)
        have hnb := HNB.out
        rw [List.take_length] at hnb
        have HE : Aside0 (doneE l last xs = 0) := ⟨by rw [HE0.out, hnb, if_neg (by decide)]⟩
        have HMD := Aside0.mk (HSR.out.mp)
        have HDD := Aside0.mk (HSR.out.dn)
        obtain ⟨D, h3, h4, h5⟩ := HMD.out
        obtain ⟨D2, h6, h7⟩ := HDD.out
        have H3 := Aside0.mk h3
        have H45 := Aside0.mk (And.intro h4 h5)
        have H6 := Aside0.mk h6
        have H7 := Aside0.mk h7
        have hgw0 := HSR.out.cells
        have HG0 := Aside0.mk hgw0
        clear h3 h4 h5 h6 h7 hnb hgw0 HNB HE0 HMD HDD HN HNW HO1
        gi_wp2
        gi_loopw [51] (fun v51 wq => ∃ (j : Nat) (Dm : DataW Value) (Dd : DataW Unit), v51 = .int .i64 (j : Int) ∧ j ≤ ls.length ∧ Aside0 (mapM wq m n Dm) ∧ Aside0 (mapD wq d (n + j) Dd) ∧ Aside0 (∀ k : Int, Maps.has Dm (.int .i64 k) = decide (k ∈ ids l ∧ k ∉ ls.take j)) ∧ Aside0 (∀ (k : Int) zd, Maps.has Dm (.int .i64 k) = true → Dm.atKey (.int .i64 k) zd = D.atKey (.int .i64 k) zd) ∧ Aside0 (∀ k : Int, Maps.has Dd (.int .i64 k) = decide (1 ≤ k ∧ k ≤ last ∧ (k ∉ ids l ∨ k ∈ ls.take j))) ∧ Aside0 (Kept (fun k => k = m ∨ k = d) wr wq)) (fun v51 _ => ls.length - (intOf v51).toNat)
        case atStart => exact ⟨0, D, D2, rfl, Nat.zero_le _, H3, H6, ⟨fun k => by rw [H45.out.1 k]; simp⟩, ⟨fun k zd _ => rfl⟩, ⟨fun k => by rw [H7.out k]; simp⟩, ⟨Kept.refl _ _⟩⟩
        case round =>
          obtain ⟨j, Dm, Dd, rfl, hj, HM, HDn, HHM, HAM, HHD, HK⟩ := hrel
          rename World => wq
          by_cases hlj : j < ls.length
          · have t3 : decide ((j : Int) < (ls.length : Int)) = true := decide_eq_true (by omega)
            have HLQ := Aside0.mk (Kept.R (Kd.R_bound HLR.out) HK.out (fun k hk e => by have h1 := hk.2.1; have h2 := HB2s; rcases e with e | e <;> omega))
            obtain ⟨ad2, hA2, z0⟩ := at_n (Kd.R_reads' HLQ.out).2.2 j hlj
            subst hA2
            have hg2 : ls.getD j 0 = ls[j] := by simp [List.getD_eq_getElem?_getD, hlj]
            rw [hg2] at z0
            have hzi := HPIN.out ls[j] (List.getElem_mem hlj)
            have htk : ∀ k : Int, k ∈ ls.take (j + 1) ↔ k ∈ ls.take j ∨ k = ls[j] := fun k => by
              rw [List.take_add_one, List.getElem?_eq_getElem hlj, List.mem_append]
              simp
            generalize ls[j] = z at *
            have HTK := Aside0.mk htk
            have hwz := wf_id hfi.out hzi
            have hkz := ids_mem hfi.out hzi
            have hkey : keyOf Try.prog 3 (.int .i64 z) = some (.int .i64 z) := Maps.keyOf_int_mk Try.underlying3 hwz
            have hgq := (HK.out.same g (by have := HG0.out; exact (Array.getElem?_eq_some_iff.1 this).1) (fun e => by rcases e with e | e; exact hgm.1 e; exact hgm.2 e)).trans HG0.out
            have cg2 := cell_of (i := 2) hgq rfl
            have hwb : wr.heap[bs]? = some (.cells #[.pointer (some ⟨g, 0, none⟩)] 23 (0, 0)) := by have h1 := HAR.out.1; rwa [hbs] at h1
            have hbq := (HK.out.same bs (Array.getElem?_eq_some_iff.1 hwb).1 (fun e => by rcases e with e | e <;> omega)).trans hwb
            have cbq := cell_of (i := 0) hbq rfl
            have HGQ := Aside0.mk hgq
            have HBQ := Aside0.mk hbq
            clear htk hg2 hgq hbq
            gi_wp2_with (first
              | (gi_at_delete; refine wpListIn_delete_own _ rfl _ _ 53 3 rfl 44 law Try.underlying53 patR m n Dm rfl HM.out (.int .i64 z) (.int .i64 z) rfl hkey ?_; intro w5 hm5 hturn5; have hg5 := hturn5.grown; have HM5 := Aside0.mk hm5; have HG5 := Aside0.mk hg5; have hcg1 := cell_of (i := 1) ((hg5.block g (Array.getElem?_eq_some_iff.1 HGQ.out).1 (fun e => by injection e with e; exact hgm.1 e)).trans HGQ.out) rfl; have hcb := cell_of (i := 0) ((hg5.block bs (Array.getElem?_eq_some_iff.1 HBQ.out).1 (fun e => by injection e with e; omega)).trans HBQ.out) rfl; have HD5 := Aside0.mk (own_at HDn.out (hg5.block d HDn.out.lt (fun e => by injection e with e; exact hne e.symm))); clear hm5 hturn5 hg5)
              | (gi_at_mapUpdate; refine wpListIn_mapUpdate_own _ rfl _ _ _ 52 rfl 3 78 law Try.underlying52 _ d (n + j) Dd rfl HD5.out (by unfold maxLen; omega) (.int .i64 z) (.agg #[]) (.int .i64 z) rfl rfl hkey (.agg []) [] unitElem_mk ?_; intro w6 hd6 hg6; have HD6 := Aside0.mk hd6; have HG6 := Aside0.mk hg6; clear hd6 hg6; go_frame))
            have hne2 : ∀ k : Int, k ≠ z → (Lit.int .i64 k) ≠ .int .i64 z := fun k hk hh => by injection hh with _ hh; exact hk hh
            have hkl : WideAt.IsKeyLit (Lit.int .i64 z) := trivial
            refine ⟨⟨j + 1, _, _, by simp, hlj, ⟨own_at HM5.out (HG6.out.block m HM5.out.lt (fun e => by injection e with e; exact hne e))⟩, HD6, ⟨fun k => ?_⟩, ⟨fun k zd hk => ?_⟩, ⟨fun k => ?_⟩,
              ⟨(HK.out.trans (Kept.of_grown (S := fun k => k = m) HG5.out (fun k e => by cases e; rfl)) (fun k e => .inl (.inl e))).trans (Kept.of_grown (S := fun k => k = d) HG6.out (fun k e => by cases e; rfl)) (fun k e => .inl (.inr e))⟩⟩, by simp [intOf]; omega⟩
            · by_cases e : k = z
              · subst e
                rw [Maps.has_del_same]
                exact (decide_eq_false (fun hh => hh.2 ((HTK.out k).2 (.inr rfl)))).symm
              · rw [Maps.has_del_other (hne2 k e), HHM.out k]
                refine decide_eq_decide.2 ?_
                rw [HTK.out k]
                exact ⟨fun h => ⟨h.1, fun h2 => by rcases h2 with h2 | h2; exact h.2 h2; exact e h2⟩, fun h => ⟨h.1, fun h2 => h.2 (.inl h2)⟩⟩
            · have e : k ≠ z := fun e => by subst e; rw [Maps.has_del_same] at hk; cases hk
              rw [Maps.has_del_other (hne2 k e)] at hk
              rw [Maps.atKey_del_other (hne2 k e)]
              exact HAM.out k zd hk
            · by_cases e : k = z
              · subst e
                rw [Maps.has_put_same HD5.out.isMap hkl]
                exact (decide_eq_true ⟨hkz.1, hkz.2, .inr ((HTK.out k).2 (.inr rfl))⟩).symm
              · rw [Maps.has_put_other (hne2 k e), HHD.out k]
                refine decide_eq_decide.2 ?_
                rw [HTK.out k]
                exact ⟨fun h => ⟨h.1, h.2.1, by rcases h.2.2 with h2 | h2; exact .inl h2; exact .inr (.inl h2)⟩, fun h => ⟨h.1, h.2.1, by rcases h.2.2 with h2 | h2 | h2; exact .inl h2; exact .inr h2; exact absurd h2 e⟩⟩
          · obtain rfl : j = ls.length := by omega
            have t3 : decide ((ls.length : Int) < (ls.length : Int)) = false := decide_eq_false (by omega)
            gi_wp2
            go_ret
            have hkw : Kept (fun k => k = g ∨ k = m ∨ k = d) W wq := (Kept.of_below (S := fun k => k = g ∨ k = m ∨ k = d) HAR.out.lay).trans HK.out (fun k e => .inl (.inr e))
            refine ⟨by rw [HE.out]; rfl, ?_, hkw⟩
            unfold doneR
            rw [HE.out, if_pos rfl]
            have hh : ∀ k : Int, k ∈ ids (doneL l xs) ↔ k ∈ ids l ∧ k ∉ ls := fun k => by
              rw [ids_done, HPX.out k]
              exact ⟨fun h => ⟨h.1, fun h2 => h.2 h2.2⟩, fun h => ⟨h.1, fun h2 => h.2 ⟨h.1, h2⟩⟩⟩
            have htl := List.take_length (l := ls)
            have hset : IsSet wq base g m d S (doneL l xs) last (n + ls.length) := by
              refine ⟨hfi.out.sub List.filter_sublist (fun p hp => hfi.out.high p (List.mem_filter.1 hp).1) hfi.out.last0 (Int.le_refl _), ?_, ⟨Dm, HM.out.mono (Nat.le_add_right _ _), fun k => ?_, fun p hp => ?_⟩, ⟨Dd, HDn.out, fun k => ?_⟩, hne, fun k hk => ⟨(H.out.low k hk).1, Nat.lt_of_lt_of_le (H.out.low k hk).2 hkw.size⟩, H.out.bg, H.out.bm, H.out.bd, H.out.off⟩
              · exact (HK.out.same g (Array.getElem?_eq_some_iff.1 HG0.out).1 (fun e => by rcases e with e | e; exact hgm.1 e; exact hgm.2 e)).trans HG0.out
              · rw [HHM.out k, htl]
                exact decide_eq_decide.2 (hh k).symm
              · obtain ⟨v, hv, hpv⟩ := H45.out.2 p (List.mem_filter.1 hp).1
                refine ⟨v, fun zd => ?_, hpv.kept HK.out (fun k hs e => ?_)⟩
                · rw [HAM.out p.id zd (by rw [HHM.out, htl]; exact decide_eq_true ((hh p.id).1 (List.mem_map_of_mem hp)))]
                  exact hv zd
                · have := H.out.off k hs
                  rcases e with e | e
                  · exact this.2.1 e
                  · exact this.2.2 e
              · rw [HHD.out k, htl]
                refine decide_eq_decide.2 ?_
                rw [hh k]
                constructor
                · rintro ⟨h1, h2, h3⟩
                  exact ⟨h1, h2, fun h4 => by rcases h3 with h3 | h3; exact h3 h4.1; exact h4.2 h3⟩
                · rintro ⟨h1, h2, h3⟩
                  refine ⟨h1, h2, ?_⟩
                  by_cases h4 : k ∈ ids l
                  · refine .inr ?_
                    false_or_by_contra
                    rename_i h5
                    exact h3 ⟨h4, h5⟩
                  · exact .inl h4
            exact hset.tight
end Go.Proofs.Ytijgfcpffjjlfaa.Pq
