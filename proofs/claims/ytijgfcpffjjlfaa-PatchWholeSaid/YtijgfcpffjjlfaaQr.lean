/- Written by a program of this session. (*Set).Closure. -/
import Derived.Test.YtijgfcpffjjlfaaQm
namespace Go.Proofs.Ytijgfcpffjjlfaa.Pq
open Go Go.RowKit Go.Shelf Go.Proofs Go.Maps Go.Sort Go.Proofs.Ytijgfcpffjjlfaa.XFb Go.Proofs.YtijgfcpffjjlfaaW.PrintWords Go.Proofs.YtijgfcpffjjlfaaW.PrintLast Go.Proofs.YtijgfcpffjjlfaaW.PrintMore
set_option linter.unusedVariables false
set_option linter.unusedSimpArgs false
/-- All that must be there until some are. -/
inductive Reach (l : List Pt) (xs : List Int) : Int → Prop where
  | start {i : Int} : i ∈ pen l xs → Reach l xs i
  | step {i j : Int} : Reach l xs i → j ∈ pen l (get l i).nd → Reach l xs j
theorem Reach.mem {l : List Pt} {xs : List Int} {i : Int} (h : Reach l xs i) : i ∈ ids l := by
  cases h with
  | start h => exact (pen_sub h).1
  | step _ h => exact (pen_sub h).1
theorem free_nd {l : List Pt} {last x : Int} (h : Fits l last) (hx : x ∈ ids l) : (∀ y ∈ (get l x).nd, (Lit.int .i64 y).wf = true) ∧ (get l x).nd.length ≤ 1000000000 := by
  have hm := get_id hx
  refine ⟨fun y hy => ?_, Fits.nd_len h hm.2⟩
  have h2 := h.ndl _ hm.2 y hy
  have h3 := h.high _ hm.2
  have h4 := h.lastm
  exact WalkArith.wf_i64 (by omega)
theorem RI_pre {W : World} {base : Nat} {S : Nat → Prop} {A : Option Addr} {c : Nat} {xs : List Int} {x : Int} {n : Nat} (h : RI W base S (.slice A n c) (xs ++ [x])) (hn : n = xs.length + 1) : RI W base S (.slice A xs.length c) xs := by
  have h0 := h.1
  rcases RI_cases h with ⟨hv, hx⟩ | ⟨g, cap, cur, hv, hbase, hb, r1, r2, r3, r4⟩
  · simp at hx
  · injection hv with h1 h2 h3
    subst h1; subst h3
    refine RI_mk ⟨by simp, .inr ⟨g, c, cur, rfl, hbase, hb, by simp at r1; omega, r2, r3, ?_⟩⟩ h0
    have h4 := congrArg (List.take xs.length) r4
    rw [List.take_take, List.length_append, Nat.min_eq_left (Nat.le_add_right _ _), List.map_append, List.take_left' (by simp)] at h4
    rw [Nat.mul_one]
    exact h4
/-- The keys of a set of numbers. -/
theorem keys_sorted {W : World} {b n : Nat} {D : DataW Unit} {M : List Int} (h : mapD W b n D) (hM : M.Nodup) (hh : ∀ i : Int, Maps.has D (.int .i64 i) = decide (i ∈ M)) : M.Perm (intKeys D) := by
  obtain ⟨es, hD, hpw, _⟩ := h.entries law
  obtain ⟨es', hD', hko⟩ := h.keysOf
  obtain rfl : es = es' := by rw [hD] at hD'; simpa using hD'
  subst hD
  exact perm_intKeys hpw (fun p hp => by obtain ⟨v, hv⟩ := hko p hp; obtain ⟨x, _, hx, _⟩ := Maps.keyOf_i64 Try.underlying3 hv; exact ⟨x, hx⟩) hM (fun x => by rw [hh x, decide_eq_true_eq])
abbrev KD : Nat := 78
set_option maxRecDepth 100000 in
set_option maxHeartbeats 2000000 in
theorem sortedD (W : World) (b nn : Nat) (D : DataW Unit) (h3 : mapD W b nn D) (hn : nn ≤ 1000000000) :
    CallsIn Fence.wide 0 Try.prog 57 #[.func (.func KD) #[] #[.pointer (some ⟨W.heap.size, 0, none⟩)]] (W.alloc (.cells #[.map (some b)] 52)) fun e w' => ∃ (v : Value) (ss : List Int), e = .returned v ∧ ss.Perm (intKeys D) ∧ RI w' W.heap.size (fun _ => True) v (ss.mergeSort (fun x y => decide (x ≤ y))) ∧ Below W.heap.size W w' := by
  have hsz := h3.size_le
  have hbl := h3.lt
  have hseq : SeqGives Fence.wide 2 Try.prog KD #[.pointer (some ⟨W.heap.size, 0, none⟩)] encZ (fun ss => ss.Perm (intKeys D)) (Maps.size D) (W.alloc (.cells #[.map (some b)] 52)) :=
    AnyZI.keys_gives (ρ := Try.keysD_ren) { Try.keysD with } Fence.wide _ trivial rfl (by omega) W.heap.size b nn D _ (by simp) (by simp) (by
      obtain ⟨es, clock, hb, Ft, hs, hD⟩ := h3
      exact ⟨es, clock, (Below.heap_alloc _ _ b hbl).trans hb, Ft, hs, hD⟩)
  have cS := AnyZI.sorted_in Try.sortedI Fence.wide 5 trivial trivial trivial trivial rfl (by omega) (sorts57 _) (enters_of Try.func48 (by kernel_rfl) rfl) KD #[.pointer (some ⟨W.heap.size, 0, none⟩)] trivial (enters_of Try.func78 (by kernel_rfl) rfl) _ _ (by unfold maxLen; omega) (by omega) _ hseq
  refine callsIn_wide.2 ((callsIn_wide.1 cS).mono ?_)
  rintro e w' ⟨v, ss, rfl, hS, hrow, hnil, hb⟩
  refine ⟨v, ss, rfl, hS, RI_mk ?_ (fun _ _ => trivial), ((Below.refl _ W).alloc (Nat.le_refl _) _).trans (hb.mono (by simp))⟩
  rw [List.length_mergeSort]
  exact own_weaken hrow (by simp)
def slLen : Value → Nat
  | .slice _ n _ => n
  | _ => 0
def mapSize (W : World) (b : Nat) : Nat := match W.heap[b]? with
  | some (.map es _) => es.size
  | _ => 0
theorem mapSize_eq {W : World} {b n : Nat} {D : DataW Unit} {M : List Int} (h : mapD W b n D) (hM : M.Nodup) (hh : ∀ i : Int, Maps.has D (.int .i64 i) = decide (i ∈ M)) : mapSize W b = M.length := by
  rw [(keys_sorted h hM hh).length_eq]
  obtain ⟨es, clock, hb, F, hs, rfl⟩ := h
  unfold mapSize
  rw [hb]
  show es.size = ((((es.toList.map (Go.WideElems.rg Try.prog 3 unitElem)).foldr DataW.insert [])).map _).length
  rw [List.length_map, length_sorted]
  simp
/-- What Closure tells. -/
def CloIs (W : World) (l : List Pt) (xs : List Int) (e : Ending) (W' : World) : Prop := ∃ (v : Value) (r : List Int), e = .returned v ∧ RI W' W.heap.size (fun _ => True) v r ∧ Rises r ∧ (∀ i, i ∈ r ↔ Reach l xs i) ∧ Below W.heap.size W W'
set_option maxRecDepth 100000 in
set_option maxHeartbeats 8000000 in
theorem closure_ok {W : World} {base g m d : Nat} {S : Nat → Prop} {l : List Pt} {last : Int} {n : Nat} (h : IsSet W base g m d S l last n) (hn : n ≤ 400) (A : Option Addr) (c : Nat) (xs : List Int) (hC : Kd.C (Kd.int .i64) W A xs.length xs) (hwf : ∀ x ∈ xs, (Lit.int .i64 x).wf = true) (hlen : xs.length ≤ 17592186044400) :
    Calls Try.prog 24 #[.pointer (some ⟨g, 0, none⟩), .slice A xs.length c] W fun e W' => CloIs W l xs e W' := by
  have H := Aside0.mk h
  have hfi := Aside0.mk h.fits
  have hle := h.len_le
  have HC := Aside0.mk hC
  have HWF := Aside0.mk hwf
  have HO := Aside0.mk (own_ok W g _ _ _ h.cells)
  have hmm : ∀ W : World, (Instr.makeMap 52 none).run Try.prog W = .ok (.map (some W.heap.size)) (W.alloc (.map #[] 0)) := fun _ => rfl
  obtain ⟨W1, hW1⟩ : ∃ W1, W.alloc (.map #[] 0) = W1 := ⟨_, rfl⟩
  have hb1 : Below W.heap.size W W1 := by rw [← hW1]; exact below_alloc (Below.refl _ _) _
  have hd1 := World.ownsMap_made W Try.prog 3 (unitElem (H := Unit))
  have hs1 : W1.heap.size = W.heap.size + 1 := by rw [← hW1]; simp
  rw [hW1] at hd1
  obtain ⟨mb, hmb⟩ : ∃ mb, W.heap.size = mb := ⟨_, rfl⟩
  rw [hmb] at hd1
  have HS1 := Aside0.mk (h.below hb1)
  have HB1 := Aside0.mk hb1
  have HD1 := Aside0.mk hd1
  have HC1 := Aside0.mk (Kd.C_below hC hb1)
  clear h hC hwf hb1 hd1
  refine (callsIn_wide (n := 1)).1 ?_
  refine callsIn_of_wp Try.func24 rfl trivial ?_ rfl
  simp only [Try.ntmps24, List.size_toArray, List.length_cons, List.length_nil, Nat.reduceAdd, Nat.reduceSub, Array.replicate_succ, Array.replicate_zero, List.push_toArray, List.append_toArray, List.nil_append, List.cons_append]
  gi_wp2_with (first
    | (refine ⟨trivial, ?_⟩; gi_at_call 39; refine (callsIn_wide.2 (HO.out)).mono ?_; rintro e w1 ⟨rfl, hw⟩; rw [hw]; clear hw)
    | (refine ⟨trivial, ?_⟩; gi_at_call 47; refine (callsIn_wide.2 (pending_ok HS1.out A c xs HC1.out HWF.out hlen)).mono ?_; rintro e W2 ⟨v2, rfl, hr, hb⟩; obtain ⟨A2, c2, rfl⟩ := Kd.R_slice hr; have HR2 := Aside0.mk hr; have HB2 := Aside0.mk hb; clear hr hb))
  have hs2 := HB2.out.size
  have HD2 := Aside0.mk (own_at HD1.out (HB2.out.block mb (by omega)))
  have HW2 := Aside0.mk (HB1.out.trans (HB2.out.mono (by omega)))
  gi_loopw [6] (fun v6 wr => ∃ (M op : List Int) (Dd : DataW Unit), Aside0 (mapD wr mb M.length Dd) ∧ Aside0 (∀ k : Int, Maps.has Dd (.int .i64 k) = decide (k ∈ M)) ∧ Aside0 (M.Nodup) ∧ Aside0 (RI wr W1.heap.size (fun _ => True) v6 op) ∧ Aside0 ((∀ k ∈ M, Reach l xs k) ∧ (∀ k ∈ op, Reach l xs k) ∧ (∀ k ∈ pen l xs, k ∈ M ∨ k ∈ op) ∧ (∀ i ∈ M, ∀ k ∈ pen l (get l i).nd, k ∈ M ∨ k ∈ op)) ∧ Aside0 (Below W.heap.size W wr) ∧ Aside0 (W1.heap.size ≤ wr.heap.size) ∧ Aside0 (op.length ≤ 400 * (M.length + 1)))
    (fun v6 wr => (n - mapSize wr mb) * (n + 1) + slLen v6)
  case atStart =>
    have hi : (∀ k ∈ ([] : List Int), Reach l xs k) ∧ (∀ k ∈ pen l xs, Reach l xs k) ∧ (∀ k ∈ pen l xs, k ∈ ([] : List Int) ∨ k ∈ pen l xs) ∧ (∀ i ∈ ([] : List Int), ∀ k ∈ pen l (get l i).nd, k ∈ ([] : List Int) ∨ k ∈ pen l xs) :=
      ⟨fun k hk => (by cases hk), fun k hk => Reach.start hk, fun k hk => Or.inr hk, fun k hk => (by cases hk)⟩
    have h1 : (pen l xs).length ≤ (ids l).length := List.length_filter_le _ _
    exact ⟨[], pen l xs, _, HD2, ⟨fun k => rfl⟩, ⟨List.nodup_nil⟩, ⟨Kd.R_lower HR2.out (Nat.le_refl _)⟩, Aside0.mk hi, HW2, ⟨hs2⟩, Aside0.mk (by simp only [List.length_nil]; omega)⟩
  case round =>
    obtain ⟨M, op, Dd, HD, HH, HND, HR, HI, HW, HZ, HBO⟩ := hrel
    have hMn : M.length ≤ n := Nat.le_trans (nodup_len M (ids l) HND.out (fun i hi => (HI.out.1 i hi).mem)) hle
    obtain ⟨A6, c6, hv6⟩ := Kd.R_slice HR.out
    subst hv6
    have hmsz := mapSize_eq HD.out HND.out HH.out
    have hzz := HZ.out
    rcases List.eq_nil_or_concat op with hop | ⟨op0, x, hop⟩
    · subst hop
      have t1 : decide ((0 : Int) < (([] : List Int).length : Int)) = false := by decide
      have cK : ∀ mb W, CallsIn Fence.wide 0 Try.prog 58 #[.map mb] W fun e w' => e = .returned (.func (.func KD) #[] #[.pointer (some ⟨W.heap.size, 0, none⟩)]) ∧ w' = W.alloc (.cells #[.map mb] 52) := fun mb W => AnyZI.keys_in Try.keysD Fence.wide 0 trivial rfl mb W
      have CK := Aside0.mk cK
      have CS := Aside0.mk (sortedD wr mb M.length Dd HD.out (by omega))
      clear cK
      gi_wp2_with (first
        | (refine ⟨trivial, ?_⟩; gi_at_call 58; refine (CK.out _ _).mono ?_; rintro e w' ⟨rfl, hw⟩; rw [hw]; clear hw)
        | (refine ⟨trivial, ?_⟩; gi_at_call 57; refine CS.out.mono ?_; rintro e w7 ⟨v7, ss, rfl, hS, hr, hb⟩; have HSS := Aside0.mk hS; have HR7 := Aside0.mk hr; have HB7 := Aside0.mk hb; clear hS hr hb))
      go_ret
      have hperm : (ss.mergeSort (fun x y => decide (x ≤ y))).Perm M := (List.mergeSort_perm _ _).trans (HSS.out.trans (keys_sorted HD.out HND.out HH.out).symm)
      have hnd : (ss.mergeSort (fun x y => decide (x ≤ y))).Nodup := (hperm.nodup_iff).2 HND.out
      have hfwd : ∀ i, Reach l xs i → i ∈ M := fun i hi => by
        induction hi with
        | start h => rcases HI.out.2.2.1 _ h with h1 | h1; exact h1; cases h1
        | step _ h ih => rcases HI.out.2.2.2 _ ih _ h with h1 | h1; exact h1; cases h1
      have hws := HW.out.size
      refine ⟨_, _, rfl, Kd.R_lower HR7.out hws, ?_, fun i => ?_, below_step HW.out HB7.out hws⟩
      · exact ((sorted_le ss).and hnd).imp (fun hh => by have h1 := hh.1; have h2 := hh.2; omega)
      · rw [hperm.mem_iff]
        exact ⟨HI.out.1 i, hfwd i⟩
    · rw [List.concat_eq_append] at hop
      subst hop
      obtain ⟨k, hk⟩ : ∃ k, op0.length = k := ⟨_, rfl⟩
      have hl1 : (op0 ++ [x]).length = k + 1 := by simp [hk]
      rw [hl1] at HR HBO
      try rw [hl1]
      have t1 : decide ((0 : Int) < ((k + 1 : Nat) : Int)) = true := decide_eq_true (by omega)
      have hw1 : ∀ q : Nat, q ≤ k → wrap64 (q : Int) = (q : Int) := fun q hq => by unfold wrap64; have := HBO.out; omega
      have hcr := Kd.R_reads' HR.out
      obtain ⟨ad, hAd, k0⟩ := at_n (n := k + 1) (by have h1 := hcr.2.2; first | exact h1 | (rw [hl1] at h1; exact h1)) k (by omega)
      subst hAd
      rw [show (op0 ++ [x]).getD k 0 = x by rw [← hk]; simp [List.getD_eq_getElem?_getD]] at k0
      have hcap : k + 1 ≤ c6 := by have := hcr.2.1; omega
      have hx := HI.out.2.1 x (by simp)
      have hxi := hx.mem
      have hwx := wf_id hfi.out hxi
      have hkey : keyOf Try.prog 3 (.int .i64 x) = some (.int .i64 x) := Maps.keyOf_int_mk Try.underlying3 hwx
      have hrun : (Instr.lookup 52 (.map (some mb)) (.int .i64 x) true).run Try.prog wr = .ok (.tuple #[.agg #[], .bool (decide (x ∈ M))]) wr := by
        obtain ⟨v, ps, r1, e1⟩ := HD.out.look_ok law Try.underlying52 (zero_unit wr) unitElem_mk hkey
        obtain ⟨rfl, _⟩ := unitElem_inv e1
        rw [HH.out x] at r1
        exact r1
      have HR0 := Aside0.mk (show RI wr W1.heap.size (fun _ => True) (.slice (some ad) k c6) op0 from by have h1 := RI_pre (x := x) HR.out (by omega); rwa [hk] at h1)
      have hbe : Below wr.heap.size wr (wr.alloc (.cells #[] 78)) := below_alloc (Below.refl _ _) _
      obtain ⟨W3, hW3⟩ : ∃ W3, wr.alloc (.cells #[] 78) = W3 := ⟨_, rfl⟩
      rw [hW3] at hbe
      have hs3 := hbe.size
      have HB3 := Aside0.mk hbe
      have HX := Aside0.mk hx
      by_cases hm : x ∈ M
      · rw [decide_eq_true hm] at hrun
        have HD3 := Aside0.mk (own_at HD.out (hbe.block mb (by omega)))
        have hms3 := mapSize_eq HD3.out HND.out HH.out
        have HII := Aside0.mk (show (∀ k ∈ M, Reach l xs k) ∧ (∀ k ∈ op0, Reach l xs k) ∧ (∀ k ∈ pen l xs, k ∈ M ∨ k ∈ op0) ∧ (∀ i ∈ M, ∀ k ∈ pen l (get l i).nd, k ∈ M ∨ k ∈ op0) from by
          have hc : ∀ k : Int, k ∈ M ∨ k ∈ op0 ++ [x] → k ∈ M ∨ k ∈ op0 := fun k hk => by
            rcases hk with hk | hk
            · exact .inl hk
            · rcases List.mem_append.1 hk with hk | hk
              · exact .inr hk
              · rw [List.mem_singleton.1 hk]; exact .inl hm
          exact ⟨HI.out.1, fun k hk => HI.out.2.1 k (List.mem_append_left _ hk), fun k hk => hc k (HI.out.2.2.1 k hk), fun i hi k hk => hc k (HI.out.2.2.2 i hi k hk)⟩)
        have HMS := Aside0.mk (And.intro hms3 hmsz)
        clear hbe hcr hkey hm hx hms3 hmsz
        gi_wp2
        exact ⟨⟨M, op0, Dd, HD3, HH, HND, ⟨Kd.R_below HR0.out HB3.out⟩, HII, ⟨below_step HW.out HB3.out HW.out.size⟩, ⟨by omega⟩, ⟨by have := HBO.out; omega⟩⟩, by rw [HMS.out.1, HMS.out.2]; simp only [slLen]; omega⟩
      · rw [decide_eq_false hm] at hrun
        have HD3 := Aside0.mk (own_at HD.out (hbe.block mb (by omega)))
        have HM := Aside0.mk hm
        have HKEY := Aside0.mk hkey
        have HSR := Aside0.mk (H.out.below HW.out)
        have hfn := field_nd
        have hw3 : Below W.heap.size W W3 := below_step HW.out HB3.out HW.out.size
        have HW3 := Aside0.mk hw3
        have hgl := H.out.ltg
        clear hbe hcr hkey hm hx hw3
        gi_wp2_with (first
          | (gi_at_mapUpdate; refine wpListIn_mapUpdate_own _ rfl _ _ _ 52 rfl 3 78 law Try.underlying52 _ mb M.length Dd rfl HD3.out (by unfold maxLen; omega) (.int .i64 x) (.agg #[]) (.int .i64 x) rfl rfl HKEY.out (.agg []) [] unitElem_mk ?_; intro w5 hd5 hg5; have HD5 := Aside0.mk hd5; have HG5 := Aside0.mk hg5; have HW5 := Aside0.mk (Below.grown HW3.out hg5 HW3.out.size (fun k hk => by cases hk; omega)); have HS5 := Aside0.mk (H.out.below HW5.out); have cg5 := HS5.out.map_cell; obtain ⟨A9, k9, B9, j9, r1, r2, q1, q2⟩ := HS5.out.look x hwx; have HQ2 := Aside0.mk q2; clear r1 q1 q2 hd5 hg5; generalize hgp : get l x = p at r2 HQ2; have HGP := Aside0.mk hgp; have hndw := free_nd hfi.out hxi; rw [hgp] at hndw; have HNDW := Aside0.mk hndw.1; have hndl := hndw.2; clear hndw hgp; have HR5 := Aside0.mk (show RI w5 W1.heap.size (fun _ => True) (.slice (some ad) k c6) op0 from Kd.R_mono (Kd.R_grown (Kd.R_bound (Kd.R_below HR0.out HB3.out)) HG5.out (fun k hk e => by cases e; have := hk.2.1; omega)) (fun _ _ => trivial)); go_frame)
          | (refine ⟨trivial, ?_⟩; gi_at_call 47; refine (callsIn_wide.2 (pending_ok HS5.out B9 j9 p.nd (Kd.R_reads' HQ2.out).2.2 HNDW.out (by omega))).mono ?_; rintro e W7 ⟨v7, rfl, hr, hb⟩; have HP7 := Aside0.mk hr; obtain ⟨A7, c7, hv7⟩ := Kd.R_slice hr; subst hv7; have HB7 := Aside0.mk hb; have HR7 := Aside0.mk (Kd.R_below HR5.out hb); have hb7s := hb.size; have hg5s := HG5.out.size; have hpl : (pen l p.nd).length ≤ n := (Nat.le_trans (List.length_filter_le _ _) hle); obtain ⟨v8, w8, hrun8, hr8, hg8, ho8⟩ := Ap.run_append_bytes (P := Try.prog) (W := W7) W1.heap.size 27 27 3 .i64 0 8 Try.underlying27 cinfo (by decide) (.slice (some ad) k c6) op0 (fun _ => True) (fun _ _ => trivial) HR7.out A7 c7 (pen l p.nd) (Kd.R_reads' HP7.out).2.2 (by omega) (by have := HBO.out; omega); have HR8 := Aside0.mk hr8; have HG8 := Aside0.mk hg8; clear hr hb hr8 hg8 ho8)
          | (gi_at_builtin; refine Ap.wpListIn_append_run _ rfl _ _ _ rfl _ _ rfl rfl _ _ hrun8 ?_))
        have hx := HX.out
        have hm := HM.out
        have hgp := HGP.out
        have hne : ∀ k : Int, k ∈ M → k ≠ x := fun k hk e => hm (e ▸ hk)
        have hM1 : (M ++ [x]).Nodup := List.nodup_append.2 ⟨HND.out, List.nodup_cons.2 ⟨List.not_mem_nil, List.nodup_nil⟩, fun a ha b hb => by rw [List.mem_singleton.1 hb]; exact hne a ha⟩
        have hl2 : (M ++ [x]).length = M.length + 1 := by simp
        have hMn1 : M.length + 1 ≤ n := by
          rw [← hl2]
          exact Nat.le_trans (nodup_len (M ++ [x]) (ids l) hM1 (fun i hi => by
            rcases List.mem_append.1 hi with hi | hi
            · exact (HI.out.1 i hi).mem
            · rw [List.mem_singleton.1 hi]; exact hxi)) hle
        have hb7 := HB7.out.block mb (by omega)
        have hb8 := HG8.out.block mb (by omega) (fun e => by have := Kd.R_base HR7.out mb e.symm; omega)
        have HD8 : mapD w8 mb (M ++ [x]).length (Dd.put (.int .i64 x) (.agg [])) := by rw [hl2]; exact own_at HD5.out (hb8.trans hb7)
        have HH8 : ∀ k : Int, Maps.has (Dd.put (.int .i64 x) (.agg [])) (.int .i64 k) = decide (k ∈ M ++ [x]) := fun k => by
          by_cases e : k = x
          · subst e
            rw [Maps.has_put_same HD.out.isMap (show WideAt.IsKeyLit (Lit.int .i64 k) from trivial)]
            simp
          · rw [Maps.has_put_other (by intro hh; injection hh with _ hh; exact e hh), HH.out k]
            simp [e]
        have hms8 := mapSize_eq HD8 hM1 HH8
        rw [hl2] at hms8
        have hg8s := HG8.out.size
        have hl3 : (op0 ++ pen l p.nd).length = k + (pen l p.nd).length := by rw [List.length_append, hk]
        obtain ⟨A8, c8, hv8⟩ := Kd.R_slice HR8.out
        subst hv8
        have hmov : ∀ k : Int, k ∈ M ∨ k ∈ op0 ++ [x] → k ∈ M ++ [x] ∨ k ∈ op0 ++ pen l p.nd := fun k hk => by
          rcases hk with hk | hk
          · exact .inl (List.mem_append_left _ hk)
          · rcases List.mem_append.1 hk with hk | hk
            · exact .inr (List.mem_append_left _ hk)
            · exact .inl (List.mem_append_right _ hk)
        refine ⟨⟨M ++ [x], op0 ++ pen l p.nd, _, ⟨HD8⟩, ⟨HH8⟩, ⟨hM1⟩, HR8, ⟨⟨fun k hk => ?_, fun k hk => ?_, fun k hk => hmov k (HI.out.2.2.1 k hk), fun i hi k hk => ?_⟩⟩, ⟨Below.grown (below_step HW5.out HB7.out HW5.out.size) HG8.out (by omega) (fun k hk => by have := Kd.R_base HR7.out k hk; omega)⟩, ⟨by omega⟩, ⟨by have h1 := HBO.out; rw [hl2, hl3]; clear HBO; omega⟩⟩, ?_⟩
        · rcases List.mem_append.1 hk with hk | hk
          · exact HI.out.1 k hk
          · rw [List.mem_singleton.1 hk]; exact hx
        · rcases List.mem_append.1 hk with hk | hk
          · exact HI.out.2.1 k (List.mem_append_left _ hk)
          · exact Reach.step hx (by rw [hgp]; exact hk)
        · rcases List.mem_append.1 hi with hi | hi
          · exact hmov k (HI.out.2.2.2 i hi k hk)
          · rw [List.mem_singleton.1 hi, hgp] at hk
            exact .inr (List.mem_append_right _ hk)
        · rw [hms8, hmsz]
          show _ + (op0 ++ pen l p.nd).length < _ + (k + 1)
          rw [hl3]
          obtain ⟨q, hq⟩ : ∃ q, n = M.length + 1 + q := ⟨n - (M.length + 1), by omega⟩
          have h1 : n - M.length = q + 1 := by omega
          have h2 : n - (M.length + 1) = q := by omega
          rw [h1, h2, Nat.succ_mul]
          generalize q * (n + 1) = z
          omega
end Go.Proofs.Ytijgfcpffjjlfaa.Pq
