/- Written by a program of this session. Crash of a disk, where all numbers are in the queue. -/
import Derived.Test.YtbopccjcehnfnaaDr
namespace Go.Proofs.Ytbopccjcehnfnaa.Dk
open Go Go.RowKit Go.Shelf Go.Proofs Go.Maps Go.Proofs.Ytbopccjcehnfnaa.Sp Go.Proofs.Ytbopccjcehnfnaa.XFb Go.Proofs.YtbopccjcehnfnaaW.PrintWords Go.Proofs.YtbopccjcehnfnaaW.PrintLast Go.Proofs.YtbopccjcehnfnaaW.PrintMore
set_option linter.unusedVariables false
set_option linter.unusedSimpArgs false
theorem R_mapo {α : Type} {d : Kd α} {e base g c : Nat} {es : Array MapEntry} {ok : Nat → Prop} {w : World} {v : Value} {xs : List α} (h : Kd.R d e w base ok v xs) (hm : w.heap[g]? = some (.map es c)) : Kd.R d e w base (fun k => ok k ∧ k ≠ g) v xs :=
  Kd.R_mono (Kd.R_bound h) (fun k hk => ⟨hk.1, by
    obtain ⟨_, _, _, q, hq, cells, hc⟩ := hk
    rintro rfl
    rw [hm] at hc
    cases hc⟩)
/-- The write of a number. -/
def wrOf (q : List S32) (id : Int) : S32 := q.getD (ixL (fun x : S32 => x.f0 == id) q 0).toNat z32
/-- Blocks behind the write of a number. -/
def crB (q : List S32) (bl : List (List Int)) (id : Int) : List (List Int) := bl.set (wrOf q id).f1.toNat (wrOf q id).f2
theorem crB_fits {bl : List (List Int)} {q : List S32} {last : Int} (h : Fits bl q last) (id : Int) (hi : 0 ≤ ixL (fun x : S32 => x.f0 == id) q 0) : Fits (crB q bl id) q last := by
  rcases ixL_range (fun x : S32 => x.f0 == id) q 0 with e | ⟨k, hk, e⟩
  · rw [e] at hi; exact absurd hi (by decide)
  · have hw : wrOf q id = q[k] := by unfold wrOf; rw [e]; simp [List.getD_eq_getElem?_getD, hk]
    have hl : (crB q bl id).length = bl.length := by unfold crB; rw [List.length_set]
    exact ⟨by rw [hl]; exact h.some, by rw [hl]; exact h.most, fun x hx => by
      unfold crB at hx
      rcases List.mem_or_eq_of_mem_set hx with hx | rfl
      · exact h.each x hx
      · rw [hw]; exact h.sent _ (List.getElem_mem _), h.queue, h.sent, fun s hs => by rw [hl]; exact h.in_ s hs, h.low, h.high⟩
theorem crB_all {q : List S32} {last : Int} (ids : List Int) (hi : ∀ i ∈ ids, 0 ≤ ixL (fun x : S32 => x.f0 == i) q 0) : ∀ (bl : List (List Int)), Fits bl q last → Fits (ids.foldl (crB q) bl) q last := by
  induction ids with
  | nil => exact fun bl h => h
  | cons a r ih => exact fun bl h => ih (fun i hj => hi i (List.mem_cons_of_mem _ hj)) _ (crB_fits h a (hi a (List.mem_cons_self ..)))
theorem run_clear {W : World} (m : Nat) (es : Array MapEntry) (c : Nat) (hm : W.heap[m]? = some (.map es c)) (ty : TypeId) :
    (Builtin.clear_ #[43] ty #[.map (some m)]).run Try.prog W = .ok (.tuple #[]) { W with heap := W.heap.setIfInBounds m (.map #[] c) } := by
  simp [Builtin.clear_, run_underlying Try.underlying43, MapKept.run_getObj_map hm, MapKept.run_setObj_map _ hm, Result.andThen]
set_option maxRecDepth 100000 in
set_option maxHeartbeats 8000000 in
theorem crash_ok {W : World} {base D m : Nat} {S : Nat → Prop} {bl : List (List Int)} {q : List S32} {mo : Obj} {last : Int} (h : IsDk W base D m S bl q mo last) (A : Option Addr) (c : Nat) (ids : List Int) (hC : ∀ W', Kept S W W' → Kd.C (Kd.int .i64) W' A ids.length ids) (hlen : ids.length ≤ 1000000000000000) (hall : ∀ i ∈ ids, 0 ≤ ixL (fun x : S32 => x.f0 == i) q 0) :
    Calls Try.prog 16 #[.pointer (some ⟨D, 0, none⟩), .slice A ids.length c] W fun e W' => e = .returned (.int .i64 0) ∧ (∃ ck, IsDk W' base D m (fun k => S k ∨ (W.heap.size ≤ k ∧ k < W'.heap.size)) (ids.foldl (crB q) bl) [] (.map #[] ck) last) ∧ Kept S W W' := by
  have hb0 := below_alloc (Below.refl W.heap.size W) (.cells #[.pointer (some ⟨D, 0, none⟩)] 24)
  have HB := Aside0.mk hb0
  have H := Aside0.mk (h.below hb0)
  have HC := Aside0.mk hC
  have hCa := hC _ (Kept.of_below hb0)
  have HCa := Aside0.mk hCa
  have HX := Aside0.mk (World.alloc_heap_new W (.cells #[.pointer (some ⟨D, 0, none⟩)] 24))
  have hX : (W.alloc (.cells #[.pointer (some ⟨D, 0, none⟩)] 24)).cell? ⟨W.heap.size, 0, none⟩ = some (.pointer (some ⟨D, 0, none⟩)) := by simp only [World.cell?, HX.out]; rfl
  have hok : decide (0 ≤ ixI (fun i : Int => decide (ixL (fun x : S32 => x.f0 == i) q 0 < 0)) ids 0) = false := decide_eq_false (by rw [ixI_none _ ids 0 (fun i hi => decide_eq_false (by have := hall i hi; omega))]; decide)
  have HALL := Aside0.mk hall
  have HF := Aside0.mk (fun (i : Nat) => crB_all (ids.take i) (fun j hj => hall j (List.mem_of_mem_take hj)) bl h.fits)
  have HSL := Aside0.mk h.low
  have HSD := Aside0.mk h.inD
  have HSM := Aside0.mk h.inM
  have hDlt := (h.low D h.inD).2
  clear h hC hb0 hall hCa
  refine (callsIn_wide (n := 1)).1 ?_
  refine callsIn_of_wp Try.func16 rfl trivial ?_ rfl
  simp only [Try.ntmps16, List.size_toArray, List.length_cons, List.length_nil, Nat.reduceAdd, Nat.reduceSub, Array.replicate_succ, Array.replicate_zero, List.push_toArray, List.append_toArray, List.nil_append, List.cons_append]
  gi_wp2_with (first
    | (refine ⟨trivial, ?_⟩; gi_at_call 32; refine (callsIn_wide.2 (made_ok H.out)).mono ?_; rintro e w0 ⟨rfl, hw⟩; rw [hw]; clear hw)
    | (refine ⟨trivial, ?_⟩; gi_at_call 36; refine (callsIn_wide.2 (containsCr H.out W.heap.size hX A c ids HCa.out hlen)).mono ?_; rintro e w1 ⟨rfl, hb⟩; rw [hok]; have HW := Aside0.mk (below_step HB.out hb); have HI1 := Aside0.mk (H.out.below hb); have HX1 := Aside0.mk ((hb.block _ (heap_lt HX.out)).trans HX.out); clear hb))
  gi_loopw [16] (fun v16 wr => ∃ i : Nat, v16 = .int .i64 (i : Int) ∧ i ≤ ids.length ∧ Aside0 (IsDk wr base D m (fun k => S k ∨ (W.heap.size ≤ k ∧ k < wr.heap.size)) ((ids.take i).foldl (crB q) bl) q mo last) ∧ Aside0 (Kept S W wr) ∧ Aside0 (wr.heap[W.heap.size]? = some (.cells #[.pointer (some ⟨D, 0, none⟩)] 24 (0, 0))))
    (fun v16 _ => ids.length - (intOf v16).toNat)
  case atStart =>
    have hi1 := HI1.out
    exact ⟨0, rfl, Nat.zero_le _, ⟨⟨hi1.fits, by obtain ⟨vB, vQ, h1, h2, h3⟩ := hi1.cells; exact ⟨vB, vQ, h1, Kd.R_mono h2 (fun k hk => .inl hk), Kd.R_mono h3 (fun k hk => .inl hk)⟩, hi1.map, hi1.isMap, .inl hi1.inD, .inl hi1.inM, fun k hk => by
      rcases hk with hk | hk
      · exact hi1.low k hk
      · exact ⟨by have := (HSL.out D HSD.out); omega, hk.2⟩⟩⟩, ⟨Kept.of_below HW.out⟩, ⟨HX1.out⟩⟩
  case round =>
    obtain ⟨i, rfl, hi, HI, HK, HXr⟩ := hrel
    by_cases hlt : i < ids.length
    · have t1 : decide ((i : Int) < (ids.length : Int)) = true := decide_eq_true (by omega)
      have ew : wrap64 ((i : Int) + 1) = ((i + 1 : Nat) : Int) := by rw [IntWalk.wrap64_in _ (by omega)]; omega
      obtain ⟨ad, hA, hcid⟩ := at_int (HC.out wr HK.out) i hlt
      have hg : ids.getD i 0 = ids[i] := by simp [List.getD_eq_getElem?_getD, hlt]
      rw [hg] at hcid
      have hid0 := HALL.out ids[i] (List.getElem_mem _)
      have htk : (ids.take (i + 1)).foldl (crB q) bl = crB q ((ids.take i).foldl (crB q) bl) ids[i] := by rw [List.take_add_one, List.getElem?_eq_getElem hlt, List.foldl_append]; rfl
      have HTK := Aside0.mk htk
      clear htk hg
      have HF2 := Aside0.mk (HF.out i)
      generalize (ids.take i).foldl (crB q) bl = bl2 at *
      subst hA
      obtain ⟨id, hid⟩ : ∃ id, ids[i] = id := ⟨_, rfl⟩
      rw [hid] at hcid hid0 HTK
      clear hid
      obtain ⟨k, hkq, hix⟩ : ∃ k : Nat, k < q.length ∧ ixL (fun x : S32 => x.f0 == id) q 0 = (k : Int) := by
        rcases ixL_range (fun x : S32 => x.f0 == id) q 0 with e | ⟨k, hk, e⟩
        · rw [e] at hid0; exact absurd hid0 (by decide)
        · exact ⟨k, hk, by rw [e]; omega⟩
      have hq64 := HF2.out.queue
      obtain ⟨s, hsk⟩ : ∃ s, q[k] = s := ⟨_, rfl⟩
      have hws : wrOf q id = s := by unfold wrOf; rw [hix, ← hsk]; simp [List.getD_eq_getElem?_getD, hkq]
      have HTK2 := Aside0.mk (HTK.out.trans (by unfold crB; rw [hws] : crB q bl2 id = bl2.set s.f1.toNat s.f2))
      have HIN := Aside0.mk (show 0 ≤ s.f1 ∧ s.f1 < bl2.length by rw [← hsk]; exact HF2.out.in_ _ (List.getElem_mem _))
      obtain ⟨hf, ⟨vB, vQ, hD, hB, hQ⟩, hm, hmm, hSD, hSm, hlow⟩ := HI.out
      obtain ⟨gB, cB, rfl, hgB1, hgB2, csB, hgBc⟩ := Kd.R_form hB (by have := hf.some; omega)
      obtain ⟨gQ, cQ, rfl, hgQ1, hgQ2, csQ, hgQc⟩ := Kd.R_form hQ (by omega)
      have hSB := hB.1 gB (by simp [Value.ownBlock])
      obtain ⟨cs, hcl, hM, hcell, _⟩ := Kd.R_elem hQ z32 (k : Int) (by omega) (by omega)
      rw [Int.toNat_natCast, show q.getD k z32 = s by rw [← hsk]; simp [List.getD_eq_getElem?_getD, hkq]] at hM
      obtain ⟨v2, rfl, hv2⟩ := k32_openM hM
      obtain ⟨A2, c2, rfl⟩ := Kd.R_slice hv2
      have hq0 := hcell 0 _ rfl
      have hq1 := hcell 1 _ rfl
      have hq2 := hcell 2 _ rfl
      rw [Int.toNat_natCast, show (k32 : Kd S32).sz = 3 from rfl, Nat.add_zero] at hq0
      rw [Int.toNat_natCast, show (k32 : Kd S32).sz = 3 from rfl] at hq1 hq2
      clear hcell hcl hM
      have hDr := (hlow D hSD).2
      have rx : ∀ W1, Below wr.heap.size wr W1 → W1.cell? ⟨W.heap.size, 0, none⟩ = some (.pointer (some ⟨D, 0, none⟩)) := fun W1 hb => by simp [World.cell?, hb.block _ (heap_lt HXr.out), HXr.out]
      have rd0 : ∀ W1, Below wr.heap.size wr W1 → W1.cell? ⟨D, 0, none⟩ = some (.slice (some ⟨gB, 0, none⟩) bl2.length cB) := fun W1 hb => by simp [World.cell?, hb.block _ hDr, hD]
      have rd1 : ∀ W1, Below wr.heap.size wr W1 → W1.cell? ⟨D, 1, none⟩ = some (.slice (some ⟨gQ, 0, none⟩) q.length cQ) := fun W1 hb => by simp [World.cell?, hb.block _ hDr, hD]
      have rq0 : ∀ W1, Below wr.heap.size wr W1 → W1.cell? ⟨gQ, k * 3, none⟩ = some (.int .i64 s.f0) := fun W1 hb => (hb.cell (p := ⟨gQ, k * 3, none⟩) hgQ2).trans hq0
      have rq1 : ∀ W1, Below wr.heap.size wr W1 → W1.cell? ⟨gQ, k * 3 + 1, none⟩ = some (.int .i64 s.f1) := fun W1 hb => (hb.cell (p := ⟨gQ, k * 3 + 1, none⟩) hgQ2).trans hq1
      have rq2 : ∀ W1, Below wr.heap.size wr W1 → W1.cell? ⟨gQ, k * 3 + 2, none⟩ = some (.slice A2 s.f2.length c2) := fun W1 hb => (hb.cell (p := ⟨gQ, k * 3 + 2, none⟩) hgQ2).trans hq2
      have HV2 := Aside0.mk hv2
      have HBL := Aside0.mk hB
      have HDk := Aside0.mk (And.intro hD (And.intro hgBc (And.intro hSB (And.intro hgB1 (And.intro hgB2 hmm)))))
      have p0 : (0 : Int) ≤ (k : Int) := by omega
      have p1 : (k : Int) < (q.length : Int) := by omega
      clear hq0 hq1 hq2 hv2 hB hQ hD hgBc hSB hgB1 hgB2 hmm hgQ1 hgQc hf hm hSm hSD hlow hws hid0 hq64
      gi_wp2
      have HB8 := Aside0.mk (below_drew (Below.refl wr.heap.size wr))
      refine wpIn_wide.2 ?_
      refine start_ (n := 11) (S := fun w' => w'.cell? ⟨W.heap.size, 0, none⟩ = some (.pointer (some ⟨D, 0, none⟩)) ∧ w'.cell? ⟨D, 1, none⟩ = some (.slice (some ⟨gQ, 0, none⟩) q.length cQ) ∧ w'.cell? ⟨gQ, k * 3, none⟩ = some (.int .i64 s.f0) ∧ w'.cell? ⟨gQ, k * 3 + 1, none⟩ = some (.int .i64 s.f1) ∧ w'.cell? ⟨gQ, k * 3 + 2, none⟩ = some (.slice A2 s.f2.length c2)) (ds := [10]) #[false, false, false, false, false, false, false, false, false, false, false] (by kernel_rfl) rfl rfl ⟨(rx _ HB8.out), (rd1 _ HB8.out), (rq0 _ HB8.out), (rq1 _ HB8.out), (rq2 _ HB8.out)⟩ (fun hHeld => ?_)
      generalize wr.drew = W2 at HB8 hHeld ⊢
      refine pure_ (i := 5) (N := some 25) (v := ?_) (a' := ?_) #[false, false, false, false, false, true, false, false, false, false, false] rfl rfl (by kernel_rfl) (fun _ _ _ h => h) (Or.inl ⟨by rfl, ?_⟩) ?_ ?_
      rotate_left
      · intro w'
        go_simp
        with_reducible rfl
      rotate_left
      · simp only [Act.put, List.setIfInBounds_toArray, List.set_cons_zero, List.set_cons_succ, i64_w, i32_w]
        rfl
      refine take_ (i := 0) (N := some 20) (v := ?_) (a' := ?_) #[true, false, false, false, false, true, false, false, false, false, false] rfl rfl (by kernel_rfl) (fun _ _ _ h => h) (Or.inl ⟨by rfl, ?_⟩) hHeld ?_ ?_
      rotate_left
      · rintro w' ⟨s0, s1, s2, s3, s4⟩
        go_simp
        with_reducible rfl
      rotate_left
      · simp only [Act.put, List.setIfInBounds_toArray, List.set_cons_zero, List.set_cons_succ, i64_w, i32_w]
        rfl
      refine pure_ (i := 1) (N := some 21) (v := ?_) (a' := ?_) #[true, true, false, false, false, true, false, false, false, false, false] rfl rfl (by kernel_rfl) (fun _ _ _ h => h) (Or.inl ⟨by rfl, ?_⟩) ?_ ?_
      rotate_left
      · intro w'
        go_simp
        with_reducible rfl
      rotate_left
      · simp only [Act.put, List.setIfInBounds_toArray, List.set_cons_zero, List.set_cons_succ, i64_w, i32_w]
        rfl
      refine pure_ (i := 2) (N := some 22) (v := ?_) (a' := ?_) #[true, true, true, false, false, true, false, false, false, false, false] rfl rfl (by kernel_rfl) (fun _ _ _ h => h) (Or.inl ⟨by rfl, ?_⟩) ?_ ?_
      rotate_left
      · intro w'
        go_simp
        with_reducible rfl
      rotate_left
      · simp only [Act.put, List.setIfInBounds_toArray, List.set_cons_zero, List.set_cons_succ, i64_w, i32_w]
        rfl
      refine take_ (i := 3) (N := some 23) (v := ?_) (a' := ?_) #[true, true, true, true, false, true, false, false, false, false, false] rfl rfl (by kernel_rfl) (fun _ _ _ h => h) (Or.inl ⟨by rfl, ?_⟩) hHeld ?_ ?_
      rotate_left
      · rintro w' ⟨s0, s1, s2, s3, s4⟩
        go_simp
        with_reducible rfl
      rotate_left
      · simp only [Act.put, List.setIfInBounds_toArray, List.set_cons_zero, List.set_cons_succ, i64_w, i32_w]
        rfl
      refine take_ (i := 4) (N := some 24) (v := ?_) (a' := ?_) #[true, true, true, true, true, true, false, false, false, false, false] rfl rfl (by kernel_rfl) (fun _ _ _ h => h) (Or.inl ⟨by rfl, ?_⟩) hHeld ?_ ?_
      rotate_left
      · rintro w' ⟨s0, s1, s2, s3, s4⟩
        go_simp
        with_reducible rfl
      rotate_left
      · simp only [Act.put, List.setIfInBounds_toArray, List.set_cons_zero, List.set_cons_succ, i64_w, i32_w]
        rfl
      refine join_ (σ := Nat) 1 #[true, true, true, true, true, true, true, true, true, true, false] (fun zz => [(26, .int .i64 (k : Int)), (27, .pointer (some ⟨gQ, k * 3, none⟩)), (28, .agg #[.int .i64 s.f0, .int .i64 s.f1, .slice A2 s.f2.length c2]), (7, .pointer (some ⟨zz, 0, none⟩))]) (fun z w' => w'.heap[z]? = some (.cells #[.int .i64 0, .int .i64 0, .slice none 0 0] 32 (0, 0)) ∧ wr.heap.size ≤ z ∧ Below wr.heap.size wr w') ?_ ?_
      rotate_left
      · intro hCont
        refine two_ (i := 6) (j := 9) (Ni := some 26) (Nj := some 7) #[true, true, true, true, true, true, true, false, false, false, false] #[true, true, true, true, true, true, false, false, false, true, false] rfl rfl rfl rfl (by kernel_rfl) (by decide) (by decide) (fun K hK => ?_) (fun K hK => ?_)
        · skip
          refine goes_ Try.func33 (by kernel_rfl) rfl #[.pointer (some ⟨D, 0, none⟩), .int .i64 id] (by rfl) rfl rfl (by simp only [List.map_toArray, List.map_cons, List.map_nil]; rfl) ?_
          with_reducible refine ((place_ok (HI.out.below HB8.out) id)).mono ?_
          rintro e w6 ⟨rfl, hb6⟩
          refine ⟨_, rfl, ?_⟩
          rw [hix]
          have nHB8_ := Aside0.mk (below_step HB8.out hb6)
          clear HB8
          have HB8 := nHB8_
          clear nHB8_
          clear hb6
          refine hK.out _ _ ⟨(rx _ HB8.out), (rd1 _ HB8.out), (rq0 _ HB8.out), (rq1 _ HB8.out), (rq2 _ HB8.out)⟩ (fun hHeld => ?_)
          clear hK K
          refine norm_ (a' := ?_) ?_ ?_
          rotate_left
          · show Act.put _ (some 26) _ = _
            simp only [Act.put, List.setIfInBounds_toArray, List.set_cons_zero, List.set_cons_succ, i64_w, i32_w]
            rfl
          refine pure_ (i := 7) (N := some 27) (v := ?_) (a' := ?_) #[true, true, true, true, true, true, true, true, false, false, false] rfl rfl (by kernel_rfl) (fun _ _ _ h => h) (Or.inl ⟨by rfl, ?_⟩) ?_ ?_
          rotate_left
          · intro w'
            go_simp
            with_reducible rfl
          rotate_left
          · simp only [Act.put, List.setIfInBounds_toArray, List.set_cons_zero, List.set_cons_succ, i64_w, i32_w]
            rfl
          refine take_ (i := 8) (N := some 28) (v := ?_) (a' := ?_) #[true, true, true, true, true, true, true, true, true, false, false] rfl rfl (by kernel_rfl) (fun _ _ _ h => h) (Or.inl ⟨by rfl, ?_⟩) hHeld ?_ ?_
          rotate_left
          · rintro w' ⟨s0, s1, s2, s3, s4⟩
            go_simp
            with_reducible rfl
          rotate_left
          · simp only [Act.put, List.setIfInBounds_toArray, List.set_cons_zero, List.set_cons_succ, i64_w, i32_w]
            rfl
          refine one_ (i := 9) (N := some 7) #[true, true, true, true, true, true, true, true, true, true, false] rfl rfl (by kernel_rfl) (by decide) (fun K hK => ?_)
          refine value_ (w1 := ?_) (v := ?_) (by rfl) rfl ?_ ?_
          rotate_left 2
          · go_simp
            constructor
            · rfl
            · rfl
          have HZ := Aside0.mk (alloc_new_of HB8.out (.cells #[.int .i64 0, .int .i64 0, .slice none 0 0] 32))
          have HLZ := Aside0.mk HB8.out.size
          have nHB8_ := Aside0.mk (below_alloc HB8.out (.cells #[.int .i64 0, .int .i64 0, .slice none 0 0] 32))
          clear HB8
          have HB8 := nHB8_
          clear nHB8_
          refine hK.out _ _ ⟨(rx _ HB8.out), (rd1 _ HB8.out), (rq0 _ HB8.out), (rq1 _ HB8.out), (rq2 _ HB8.out)⟩ (fun hHeld => ?_)
          clear hK K
          refine norm_ (a' := ?_) ?_ ?_
          rotate_left
          · show Act.put _ (some 7) _ = _
            simp only [Act.put, List.setIfInBounds_toArray, List.set_cons_zero, List.set_cons_succ, i64_w, i32_w]
            rfl
          exact norm_ (by simp only [putAll, Act.put, List.setIfInBounds_toArray, List.set_cons_zero, List.set_cons_succ]) (hCont (w6.heap.size) _ ⟨HZ.out, HLZ.out, HB8.out⟩)
        · skip
          refine value_ (w1 := ?_) (v := ?_) (by rfl) rfl ?_ ?_
          rotate_left 2
          · go_simp
            constructor
            · rfl
            · rfl
          have HZ := Aside0.mk (alloc_new_of HB8.out (.cells #[.int .i64 0, .int .i64 0, .slice none 0 0] 32))
          have HLZ := Aside0.mk HB8.out.size
          have nHB8_ := Aside0.mk (below_alloc HB8.out (.cells #[.int .i64 0, .int .i64 0, .slice none 0 0] 32))
          clear HB8
          have HB8 := nHB8_
          clear nHB8_
          refine hK.out _ _ ⟨(rx _ HB8.out), (rd1 _ HB8.out), (rq0 _ HB8.out), (rq1 _ HB8.out), (rq2 _ HB8.out)⟩ (fun hHeld => ?_)
          clear hK K
          refine norm_ (a' := ?_) ?_ ?_
          rotate_left
          · show Act.put _ (some 7) _ = _
            simp only [Act.put, List.setIfInBounds_toArray, List.set_cons_zero, List.set_cons_succ, i64_w, i32_w]
            rfl
          refine one_ (i := 6) (N := some 26) #[true, true, true, true, true, true, true, false, false, true, false] rfl rfl (by kernel_rfl) (by decide) (fun K hK => ?_)
          refine goes_ Try.func33 (by kernel_rfl) rfl #[.pointer (some ⟨D, 0, none⟩), .int .i64 id] (by rfl) rfl rfl (by simp only [List.map_toArray, List.map_cons, List.map_nil]; rfl) ?_
          with_reducible refine ((place_ok (HI.out.below HB8.out) id)).mono ?_
          rintro e w6 ⟨rfl, hb6⟩
          refine ⟨_, rfl, ?_⟩
          rw [hix]
          have nHZ_ := Aside0.mk ((hb6.block _ (heap_lt HZ.out)).trans HZ.out)
          clear HZ
          have HZ := nHZ_
          clear nHZ_
          have nHB8_ := Aside0.mk (below_step HB8.out hb6)
          clear HB8
          have HB8 := nHB8_
          clear nHB8_
          clear hb6
          refine hK.out _ _ ⟨(rx _ HB8.out), (rd1 _ HB8.out), (rq0 _ HB8.out), (rq1 _ HB8.out), (rq2 _ HB8.out)⟩ (fun hHeld => ?_)
          clear hK K
          refine norm_ (a' := ?_) ?_ ?_
          rotate_left
          · show Act.put _ (some 26) _ = _
            simp only [Act.put, List.setIfInBounds_toArray, List.set_cons_zero, List.set_cons_succ, i64_w, i32_w]
            rfl
          refine pure_ (i := 7) (N := some 27) (v := ?_) (a' := ?_) #[true, true, true, true, true, true, true, true, false, true, false] rfl rfl (by kernel_rfl) (fun _ _ _ h => h) (Or.inl ⟨by rfl, ?_⟩) ?_ ?_
          rotate_left
          · intro w'
            go_simp
            with_reducible rfl
          rotate_left
          · simp only [Act.put, List.setIfInBounds_toArray, List.set_cons_zero, List.set_cons_succ, i64_w, i32_w]
            rfl
          refine take_ (i := 8) (N := some 28) (v := ?_) (a' := ?_) #[true, true, true, true, true, true, true, true, true, true, false] rfl rfl (by kernel_rfl) (fun _ _ _ h => h) (Or.inl ⟨by rfl, ?_⟩) hHeld ?_ ?_
          rotate_left
          · rintro w' ⟨s0, s1, s2, s3, s4⟩
            go_simp
            with_reducible rfl
          rotate_left
          · simp only [Act.put, List.setIfInBounds_toArray, List.set_cons_zero, List.set_cons_succ, i64_w, i32_w]
            rfl
          exact norm_ (by simp only [putAll, Act.put, List.setIfInBounds_toArray, List.set_cons_zero, List.set_cons_succ]) (hCont (W2.heap.size) _ ⟨HZ.out, HLZ.out, HB8.out⟩)
      rintro z w3 ⟨hz3, hle3, hb3⟩
      have HZ := Aside0.mk hz3
      have HLZ := Aside0.mk hle3
      have HB8 := Aside0.mk hb3
      have z0 : w3.cell? ⟨z, 0, none⟩ = some (.int .i64 0) := by simp [World.cell?, hz3]
      have z1 : w3.cell? ⟨z, 1, none⟩ = some (.int .i64 0) := by simp [World.cell?, hz3]
      have z2 : w3.cell? ⟨z, 2, none⟩ = some (.slice none 0 0) := by simp [World.cell?, hz3]
      have zf : ∀ i, w3.frozen? ⟨z, i, none⟩ = false := fun i => by simp [World.frozen?, hz3]
      have hHeld : (w3.cell? ⟨W.heap.size, 0, none⟩ = some (.pointer (some ⟨D, 0, none⟩))) ∧ (w3.cell? ⟨D, 1, none⟩ = some (.slice (some ⟨gQ, 0, none⟩) q.length cQ)) ∧ (w3.cell? ⟨gQ, k * 3, none⟩ = some (.int .i64 s.f0)) ∧ (w3.cell? ⟨gQ, k * 3 + 1, none⟩ = some (.int .i64 s.f1)) ∧ (w3.cell? ⟨gQ, k * 3 + 2, none⟩ = some (.slice A2 s.f2.length c2)) := ⟨rx _ hb3, rd1 _ hb3, rq0 _ hb3, rq1 _ hb3, rq2 _ hb3⟩
      clear hz3 hle3 hb3
      refine norm_ (a' := ?_) ?_ ?_
      rotate_left
      · simp only [putAll, Act.put, List.setIfInBounds_toArray, List.set_cons_zero, List.set_cons_succ]
        rfl
      refine last_ (i := 10) (N := none) #[true, true, true, true, true, true, true, true, true, true, true] rfl rfl (by kernel_rfl) (by decide) (fun K hK => ?_)
      refine skip_ (w1 := ?_) (by rfl) rfl ?_ ?_
      rotate_left
      · go_simp
        rfl
      refine hK.out _ _ ?_
      clear hK K
      refine done_ (by kernel_rfl) ?_

      have HZ4 := Aside0.mk (Go.Proofs.Ytbopccjcehnfnaa.Nb.set_heap (Go.Proofs.Ytbopccjcehnfnaa.Nb.set_heap (Go.Proofs.Ytbopccjcehnfnaa.Nb.set_heap HZ.out (o := 0) (.int .i64 s.f0)) (o := 1) (.int .i64 s.f1)) (o := 2) (.slice A2 s.f2.length c2))
      have HB4 := Aside0.mk (((HB8.out.setCell (p := ⟨z, 0, none⟩) HLZ.out (.int .i64 s.f0)).setCell (p := ⟨z, 1, none⟩) HLZ.out (.int .i64 s.f1)).setCell (p := ⟨z, 2, none⟩) HLZ.out (.slice A2 s.f2.length c2))
      simp only [List.setIfInBounds_toArray, List.set_cons_zero, List.set_cons_succ] at HZ4
      clear z0 z1 z2 zf hHeld HB8 HZ
      generalize ((w3.setCell ⟨z, 0, none⟩ (.int .i64 s.f0)).setCell ⟨z, 1, none⟩ (.int .i64 s.f1)).setCell ⟨z, 2, none⟩ (.slice A2 s.f2.length c2) = W4 at *
      have HB4d := Aside0.mk (below_drew HB4.out)
      have HBL4 := Aside0.mk (Kd.R_below HBL.out HB4d.out)
      have HV4 := Aside0.mk (Kd.R_below HV2.out HB4d.out)
      have pz1 : 0 ≤ s.f1 := HIN.out.1
      have pz2 : s.f1 < (bl2.length : Int) := HIN.out.2
      have hcl : Calls Try.prog 29 #[.slice A2 s.f2.length c2] W4.drew (fun e w' => ∃ v0 : Value, e = .returned v0 ∧ Kd.R (Kd.int .u8) 5 w' W4.drew.heap.size (fun _ => True) v0 s.f2 ∧ Below W4.drew.heap.size W4.drew w') :=
        bytes_Clone.calls A2 c2 s.f2 s.f2 W4.drew (Kd.R_reads' HV4.out).2.2 (Kd.R_reads' HV4.out).2.1 (by unfold bytes_Clone.f; rw [if_pos (by have := HF2.out.sent s (by rw [← hsk]; exact List.getElem_mem _); omega)])
      have y0x := rx _ HB4d.out
      have y0d := rd0 _ HB4d.out
      have y0z : W4.drew.cell? ⟨z, 1, none⟩ = some (.int .i64 s.f1) := show W4.cell? _ = _ by simp [World.cell?, HZ4.out]
      have y0y : W4.drew.cell? ⟨z, 2, none⟩ = some (.slice A2 s.f2.length c2) := show W4.cell? _ = _ by simp [World.cell?, HZ4.out]
      have kx5 := fun (W1 : World) (hb : Below W4.drew.heap.size W4.drew W1) => rx W1 (below_step HB4d.out hb)
      have kd5 := fun (W1 : World) (hb : Below W4.drew.heap.size W4.drew W1) => rd0 W1 (below_step HB4d.out hb)
      have hz4l := heap_lt HZ4.out
      have kz5 : ∀ (W1 : World), Below W4.drew.heap.size W4.drew W1 → W1.cell? ⟨z, 1, none⟩ = some (.int .i64 s.f1) := fun W1 hb => (hb.cell (p := ⟨z, 1, none⟩) hz4l).trans y0z
      have ky5 : ∀ (W1 : World), Below W4.drew.heap.size W4.drew W1 → W1.cell? ⟨z, 2, none⟩ = some (.slice A2 s.f2.length c2) := fun W1 hb => (hb.cell (p := ⟨z, 2, none⟩) hz4l).trans y0y
      clear rx rd0 rd1 rq0 rq1 rq2 hcid t1
      gi_wp2
      refine wpIn_wide.2 ?_
      refine start_ (n := 11) (S := fun w' => w'.cell? ⟨W.heap.size, 0, none⟩ = some (.pointer (some ⟨D, 0, none⟩)) ∧ w'.cell? ⟨D, 0, none⟩ = some (.slice (some ⟨gB, 0, none⟩) bl2.length cB) ∧ w'.cell? ⟨z, 1, none⟩ = some (.int .i64 s.f1) ∧ w'.cell? ⟨z, 2, none⟩ = some (.slice A2 s.f2.length c2)) (ds := [10]) #[false, false, false, false, false, false, false, false, false, false, false] (by kernel_rfl) rfl rfl ⟨y0x, y0d, y0z, y0y⟩ (fun hHeld => ?_)
      refine pure_ (i := 4) (N := some 33) (v := ?_) (a' := ?_) #[false, false, false, false, true, false, false, false, false, false, false] rfl rfl (by kernel_rfl) (fun _ _ _ h => h) (Or.inl ⟨by rfl, ?_⟩) ?_ ?_
      rotate_left
      · intro w'
        go_simp
        with_reducible rfl
      rotate_left
      · simp only [Act.put, List.setIfInBounds_toArray, List.set_cons_zero, List.set_cons_succ, i64_w, i32_w]
        rfl
      refine pure_ (i := 6) (N := some 35) (v := ?_) (a' := ?_) #[false, false, false, false, true, false, true, false, false, false, false] rfl rfl (by kernel_rfl) (fun _ _ _ h => h) (Or.inl ⟨by rfl, ?_⟩) ?_ ?_
      rotate_left
      · intro w'
        go_simp
        with_reducible rfl
      rotate_left
      · simp only [Act.put, List.setIfInBounds_toArray, List.set_cons_zero, List.set_cons_succ, i64_w, i32_w]
        rfl
      refine take_ (i := 0) (N := some 29) (v := ?_) (a' := ?_) #[true, false, false, false, true, false, true, false, false, false, false] rfl rfl (by kernel_rfl) (fun _ _ _ h => h) (Or.inl ⟨by rfl, ?_⟩) hHeld ?_ ?_
      rotate_left
      · rintro w' ⟨s0, s1, s2, s3⟩
        go_simp
        with_reducible rfl
      rotate_left
      · simp only [Act.put, List.setIfInBounds_toArray, List.set_cons_zero, List.set_cons_succ, i64_w, i32_w]
        rfl
      refine pure_ (i := 1) (N := some 30) (v := ?_) (a' := ?_) #[true, true, false, false, true, false, true, false, false, false, false] rfl rfl (by kernel_rfl) (fun _ _ _ h => h) (Or.inl ⟨by rfl, ?_⟩) ?_ ?_
      rotate_left
      · intro w'
        go_simp
        with_reducible rfl
      rotate_left
      · simp only [Act.put, List.setIfInBounds_toArray, List.set_cons_zero, List.set_cons_succ, i64_w, i32_w]
        rfl
      refine pure_ (i := 2) (N := some 31) (v := ?_) (a' := ?_) #[true, true, true, false, true, false, true, false, false, false, false] rfl rfl (by kernel_rfl) (fun _ _ _ h => h) (Or.inl ⟨by rfl, ?_⟩) ?_ ?_
      rotate_left
      · intro w'
        go_simp
        with_reducible rfl
      rotate_left
      · simp only [Act.put, List.setIfInBounds_toArray, List.set_cons_zero, List.set_cons_succ, i64_w, i32_w]
        rfl
      refine take_ (i := 3) (N := some 32) (v := ?_) (a' := ?_) #[true, true, true, true, true, false, true, false, false, false, false] rfl rfl (by kernel_rfl) (fun _ _ _ h => h) (Or.inl ⟨by rfl, ?_⟩) hHeld ?_ ?_
      rotate_left
      · rintro w' ⟨s0, s1, s2, s3⟩
        go_simp
        with_reducible rfl
      rotate_left
      · simp only [Act.put, List.setIfInBounds_toArray, List.set_cons_zero, List.set_cons_succ, i64_w, i32_w]
        rfl
      refine take_ (i := 5) (N := some 34) (v := ?_) (a' := ?_) #[true, true, true, true, true, true, true, false, false, false, false] rfl rfl (by kernel_rfl) (fun _ _ _ h => h) (Or.inl ⟨by rfl, ?_⟩) hHeld ?_ ?_
      rotate_left
      · rintro w' ⟨s0, s1, s2, s3⟩
        go_simp
        with_reducible rfl
      rotate_left
      · simp only [Act.put, List.setIfInBounds_toArray, List.set_cons_zero, List.set_cons_succ, i64_w, i32_w]
        rfl
      refine take_ (i := 7) (N := some 36) (v := ?_) (a' := ?_) #[true, true, true, true, true, true, true, true, false, false, false] rfl rfl (by kernel_rfl) (fun _ _ _ h => h) (Or.inl ⟨by rfl, ?_⟩) hHeld ?_ ?_
      rotate_left
      · rintro w' ⟨s0, s1, s2, s3⟩
        go_simp
        with_reducible rfl
      rotate_left
      · simp only [Act.put, List.setIfInBounds_toArray, List.set_cons_zero, List.set_cons_succ, i64_w, i32_w]
        rfl
      refine one_ (i := 8) (N := some 37) #[true, true, true, true, true, true, true, true, true, false, false] rfl rfl (by kernel_rfl) (by decide) (fun K hK => ?_)
      refine goes_ Try.func29 (by kernel_rfl) rfl #[.slice A2 s.f2.length c2] (by rfl) rfl rfl (by simp only [List.map_toArray, List.map_cons, List.map_nil]; rfl) ?_
      with_reducible refine (hcl).mono ?_
      rintro e w5 ⟨v5, rfl, hr5, hb5⟩
      refine ⟨_, rfl, ?_⟩
      obtain ⟨A5, c5, rfl⟩ := Kd.R_slice hr5
      have HR5 := Aside0.mk hr5
      have HB5 := Aside0.mk hb5
      have HBL5 := Aside0.mk (Kd.R_below HBL4.out hb5)
      obtain ⟨csE, hclE, ⟨vE, rfl, hvE⟩, hcellE, hfroE⟩ := Kd.R_elem HBL5.out ([] : List Int) s.f1 HIN.out.1 HIN.out.2
      have y0 : w5.cell? ⟨gB, s.f1.toNat, none⟩ = some vE := (by have h := hcellE 0 vE rfl; rw [show s.f1.toNat * (Kd.slice 5 (Kd.int .u8)).sz + 0 = s.f1.toNat from Nat.mul_one _] at h; exact h)
      have y1 : w5.frozen? ⟨gB, s.f1.toNat, none⟩ = false := (by have h := hfroE 0; rw [show s.f1.toNat * (Kd.slice 5 (Kd.int .u8)).sz + 0 = s.f1.toNat from Nat.mul_one _] at h; exact h)
      have HCE := Aside0.mk (And.intro hclE hcellE)
      clear hr5 hb5 hfroE hvE hclE hcellE
      refine hK.out _ _ ⟨(kx5 _ HB5.out), (kd5 _ HB5.out), (kz5 _ HB5.out), (ky5 _ HB5.out)⟩ (fun hHeld => ?_)
      clear hK K
      refine norm_ (a' := ?_) ?_ ?_
      rotate_left
      · show Act.put _ (some 37) _ = _
        simp only [Act.put, List.setIfInBounds_toArray, List.set_cons_zero, List.set_cons_succ, i64_w, i32_w]
        rfl
      refine pure_ (i := 9) (N := some 38) (v := ?_) (a' := ?_) #[true, true, true, true, true, true, true, true, true, true, false] rfl rfl (by kernel_rfl) (fun _ _ _ h => h) (Or.inl ⟨by rfl, ?_⟩) ?_ ?_
      rotate_left
      · intro w'
        go_simp
        with_reducible rfl
      rotate_left
      · simp only [Act.put, List.setIfInBounds_toArray, List.set_cons_zero, List.set_cons_succ, i64_w, i32_w]
        rfl
      refine last_ (i := 10) (N := none) #[true, true, true, true, true, true, true, true, true, true, true] rfl rfl (by kernel_rfl) (by decide) (fun K hK => ?_)
      refine skip_ (w1 := ?_) (by rfl) rfl ?_ ?_
      rotate_left
      · go_simp
        rfl
      refine hK.out _ _ ?_
      clear hK K
      refine done_ (by kernel_rfl) ?_

      obtain ⟨hclE, hcellE⟩ := HCE.out
      obtain ⟨hDo, hgBc, hSB, hgB1, hgB2, hmm⟩ := HDk.out
      have hle4 : wr.heap.size ≤ W4.drew.heap.size := HB4d.out.size
      have hle5 : W4.drew.heap.size ≤ w5.heap.size := HB5.out.size
      have hleK : W.heap.size ≤ wr.heap.size := HK.out.size
      have hbw : base ≤ W.heap.size := by have := HSL.out D HSD.out; omega
      have hV5 : Kd.R (Kd.int .u8) 5 w5 base (fun k => W4.drew.heap.size ≤ k ∧ k < w5.heap.size) (.slice A5 s.f2.length c5) s.f2 := Kd.R_mono (Kd.R_lower (Kd.R_bound HR5.out) (by omega)) (fun k hk => ⟨hk.2.1, hk.2.2.1⟩)
      obtain ⟨hB6, hg6⟩ := Kd.R_seg (okp := fun k => W4.drew.heap.size ≤ k ∧ k < w5.heap.size) (j := 0) (seg := [.slice A5 s.f2.length c5]) (Kd.R_mono HBL5.out (fun k hk => hk.imp (fun h => h) (fun h => ⟨h.1, by omega⟩)) : Kd.R (Kd.slice 5 (Kd.int .u8)) 30 w5 base (fun k => S k ∨ (W.heap.size ≤ k ∧ k < w5.heap.size)) (.slice (some ⟨gB, 0, none⟩) bl2.length cB) bl2) s.f1 HIN.out.1 HIN.out.2 hclE hcellE (show (0 + 1 : Nat) ≤ 1 by decide) (x' := s.f2) ⟨_, rfl, hV5⟩ (fun k hk => ⟨.inr ⟨by omega, hk.2⟩, fun e => by omega⟩)
      have e4 : w5.setCells gB (s.f1.toNat * (Kd.slice 5 (Kd.int .u8)).sz + 0) [.slice A5 s.f2.length c5] = w5.setCell ⟨gB, s.f1.toNat, none⟩ (.slice A5 s.f2.length c5) := by
        show w5.setCell ⟨gB, s.f1.toNat * 1 + 0, none⟩ _ = _
        rw [Nat.mul_one, Nat.add_zero]
      rw [e4] at hB6 hg6
      have hb5 : Below wr.heap.size wr w5 := below_step HB4d.out HB5.out
      have hk6 : ∀ j, j < wr.heap.size → j ≠ gB → (w5.setCell ⟨gB, s.f1.toNat, none⟩ (.slice A5 s.f2.length c5)).heap[j]? = wr.heap[j]? := fun j hj hn => (Below.heap_setCell w5 ⟨gB, s.f1.toNat, none⟩ _ j hn).trans (hb5.block j hj)
      have hs6 : (w5.setCell ⟨gB, s.f1.toNat, none⟩ (.slice A5 s.f2.length c5)).heap.size = w5.heap.size := by simp [World.setCell]
      have HR6 := Aside0.mk (And.intro hB6 (And.intro hg6 (And.intro hk6 hs6)))
      clear hB6 hg6 hk6 hs6 e4 hV5 hclE hcellE hcl kx5 kd5 kz5 ky5 y0x y0d y0z y0y
      generalize w5.setCell ⟨gB, s.f1.toNat, none⟩ (.slice A5 s.f2.length c5) = W6 at *
      gi_wp2
      go_roundw
      case rel =>
        obtain ⟨hB6, hg6, hk6, hs6⟩ := HR6.out
        have hi := HI.out
        have hDB : D ≠ gB := fun e => by rw [e, hgBc] at hDo; simp at hDo
        have hmB : m ≠ gB := fun e => by obtain ⟨es, cc, rfl⟩ := hmm; have := hi.map; rw [e, hgBc] at this; simp at this
        have hXB : W.heap.size ≠ gB := fun e => by have := HXr.out; rw [e, hgBc] at this; simp at this
        obtain ⟨vB, vQ, hD1, hB1, hQ1⟩ := hi.cells
        have hQ6 := Kd.R_step (Kd.R_types hQ1 hgBc (by decide)) (fun j hj hlt => hk6 j hlt hj.2)
        rw [hDo] at hD1
        injection hD1 with hD1
        injection hD1 with hD1
        injection hD1 with hD1
        injection hD1 with e1 e2
        injection e2 with e2 e3
        subst e2
        refine ⟨i + 1, rfl, hlt, ⟨?_⟩, ⟨(HK.out.trans (Kept.of_below hb5) (fun j hj => .inl hj)).trans (Kept.of_grown (S := fun k => k = gB) hg6 (fun k hk => by injection hk with hk; exact hk.symm)) (fun j hj => by subst hj; exact hSB.imp (fun h => h) (fun h => h.1))⟩, ⟨(hk6 _ (heap_lt HXr.out) hXB).trans HXr.out⟩⟩
        rw [HTK2.out]
        exact ⟨HTK2.out ▸ HF.out (i + 1), ⟨_, _, (hk6 D (hi.low D hi.inD).2 hDB).trans hDo, Kd.R_mono hB6 (fun k hk => by rw [hs6]; exact hk), Kd.R_mono hQ6 (fun k hk => hk.1.imp (fun h => h) (fun h => ⟨h.1, by omega⟩))⟩, (hk6 m (hi.low m hi.inM).2 hmB).trans hi.map, hi.isMap, .inl HSD.out, .inl HSM.out, fun k hk => by
          rcases hk with hk | hk
          · exact ⟨(HSL.out k hk).1, by have := (HSL.out k hk).2; omega⟩
          · exact ⟨by omega, hk.2⟩⟩
      case measure =>
        show ids.length - ((i : Int) + 1).toNat < ids.length - ((i : Int)).toNat
        omega
    · obtain rfl : i = ids.length := by omega
      have t1 : decide ((ids.length : Int) < (ids.length : Int)) = false := decide_eq_false (by omega)
      have hi0 := HI.out
      rw [List.take_length] at hi0
      have HI2 := Aside0.mk hi0
      clear HI hi0
      obtain ⟨hf, ⟨vB, vQ, hD, hB, hQ⟩, hm, ⟨es, ck, rfl⟩, hSD, hSm, hlow⟩ := HI2.out
      have hDr := (hlow D hSD).2
      have hXD : W.heap.size ≠ D := fun e => by have := HXr.out; rw [e, hD] at this; simp at this
      have hmD : m ≠ D := fun e => by rw [e, hD] at hm; simp at hm
      have cx : wr.cell? ⟨W.heap.size, 0, none⟩ = some (.pointer (some ⟨D, 0, none⟩)) := by simp [World.cell?, HXr.out]
      obtain ⟨AB, cB, rfl⟩ := Kd.R_slice hB
      obtain ⟨AQ, cQ, rfl⟩ := Kd.R_slice hQ
      have cq : wr.cell? ⟨D, 1, none⟩ = some (.slice AQ q.length cQ) := by simp [World.cell?, hD]
      have fq : wr.frozen? ⟨D, 1, none⟩ = false := by simp [World.frozen?, hD]
      have hD7 : (wr.setCell ⟨D, 1, none⟩ (.slice none 0 0)).heap[D]? = some (.cells #[.slice AB (ids.foldl (crB q) bl).length cB, .slice none 0 0, .map (some m), .int .i64 last] 45 (0, 0)) := Go.Proofs.Ytbopccjcehnfnaa.Nb.set_heap hD _
      have cx7 : (wr.setCell ⟨D, 1, none⟩ (.slice none 0 0)).cell? ⟨W.heap.size, 0, none⟩ = some (.pointer (some ⟨D, 0, none⟩)) := by simp [World.cell?, Below.heap_setCell wr ⟨D, 1, none⟩ (.slice none 0 0) W.heap.size hXD, HXr.out]
      have cm7 : (wr.setCell ⟨D, 1, none⟩ (.slice none 0 0)).cell? ⟨D, 2, none⟩ = some (.map (some m)) := by simp [World.cell?, hD7]
      have hm7 : (wr.setCell ⟨D, 1, none⟩ (.slice none 0 0)).heap[m]? = some (.map es ck) := (Below.heap_setCell wr ⟨D, 1, none⟩ _ m hmD).trans hm
      have hrun := run_clear m es ck hm7
      have HB := Aside0.mk (Kd.R_types hB hD (by decide))
      have HF7 := Aside0.mk hf
      clear hB hQ hf HF HC HCa
      gi_wp2
      go_ret
      have hDm : D ≠ m := fun e => hmD e.symm
      have hm7l := heap_lt hm7
      have hs7 : (wr.setCell ⟨D, 1, none⟩ (.slice none 0 0)).heap.size = wr.heap.size := by simp [World.setCell]
      have h8 : ∀ j, j ≠ m → ({ (wr.setCell ⟨D, 1, none⟩ (.slice none 0 0)) with heap := (wr.setCell ⟨D, 1, none⟩ (.slice none 0 0)).heap.setIfInBounds m (.map #[] ck) } : World).heap[j]? = (wr.setCell ⟨D, 1, none⟩ (.slice none 0 0)).heap[j]? := fun j hj => Array.getElem?_setIfInBounds_ne (fun e => hj e.symm)
      have h8m : ({ (wr.setCell ⟨D, 1, none⟩ (.slice none 0 0)) with heap := (wr.setCell ⟨D, 1, none⟩ (.slice none 0 0)).heap.setIfInBounds m (.map #[] ck) } : World).heap[m]? = some (.map #[] ck) := Array.getElem?_setIfInBounds_self_of_lt hm7l
      have hs8 : ({ (wr.setCell ⟨D, 1, none⟩ (.slice none 0 0)) with heap := (wr.setCell ⟨D, 1, none⟩ (.slice none 0 0)).heap.setIfInBounds m (.map #[] ck) } : World).heap.size = wr.heap.size := by simp [hs7]
      have h87 : ∀ j, j ≠ m → j ≠ D → ({ (wr.setCell ⟨D, 1, none⟩ (.slice none 0 0)) with heap := (wr.setCell ⟨D, 1, none⟩ (.slice none 0 0)).heap.setIfInBounds m (.map #[] ck) } : World).heap[j]? = wr.heap[j]? := fun j h1 h2 => (h8 j h1).trans (Below.heap_setCell wr ⟨D, 1, none⟩ _ j h2)
      have hk8 : Kept (fun k => k = D ∨ k = m) wr ({ (wr.setCell ⟨D, 1, none⟩ (.slice none 0 0)) with heap := (wr.setCell ⟨D, 1, none⟩ (.slice none 0 0)).heap.setIfInBounds m (.map #[] ck) } : World) := ⟨rfl, rfl, rfl, by rw [hs8]; exact Nat.le_refl _, fun k hk hn => h87 k (fun e => hn (.inr e)) (fun e => hn (.inl e))⟩
      have hD8 := (h8 D hDm).trans hD7
      have key : (∃ ck2, IsDk ({ (wr.setCell ⟨D, 1, none⟩ (.slice none 0 0)) with heap := (wr.setCell ⟨D, 1, none⟩ (.slice none 0 0)).heap.setIfInBounds m (.map #[] ck) } : World) base D m (fun k => S k ∨ (W.heap.size ≤ k ∧ k < ({ (wr.setCell ⟨D, 1, none⟩ (.slice none 0 0)) with heap := (wr.setCell ⟨D, 1, none⟩ (.slice none 0 0)).heap.setIfInBounds m (.map #[] ck) } : World).heap.size)) (ids.foldl (crB q) bl) [] (.map #[] ck2) last) ∧ Kept S W ({ (wr.setCell ⟨D, 1, none⟩ (.slice none 0 0)) with heap := (wr.setCell ⟨D, 1, none⟩ (.slice none 0 0)).heap.setIfInBounds m (.map #[] ck) } : World) := by
        generalize ({ (wr.setCell ⟨D, 1, none⟩ (.slice none 0 0)) with heap := (wr.setCell ⟨D, 1, none⟩ (.slice none 0 0)).heap.setIfInBounds m (.map #[] ck) } : World) = W8 at *
        have hf := HF7.out
        exact ⟨⟨ck, ⟨hf.some, hf.most, hf.each, Nat.zero_le 64, (fun s hs => by cases hs), (fun s hs => by cases hs), hf.low, hf.high⟩, ⟨_, _, hD8, Kd.R_mono (Kd.R_step (R_mapo HB.out hm) (fun j hj hlt => h87 j hj.2 hj.1.2)) (fun k hk => by rw [hs8]; exact hk.1.1), Kd.R_nil _ _ _ _ _⟩, h8m, ⟨_, _, rfl⟩, .inl HSD.out, .inl HSM.out, fun k hk => by rw [hs8] at hk ⊢; exact hlow k hk⟩, HK.out.trans hk8 (fun j hj => .inl (by rcases hj with rfl | rfl; exact HSD.out; exact HSM.out))⟩
      exact ⟨rfl, key.1, key.2⟩
end Go.Proofs.Ytbopccjcehnfnaa.Dk
