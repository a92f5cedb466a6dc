/- Written by a program of this session. The reference's disk: Crash. -/
import Derived.Test.YtbopccjcehnfnaaXe
namespace Go.Proofs.Ytbopccjcehnfnaa.Dk
open Go Go.RowKit Go.Shelf Go.Proofs Go.Maps Go.Proofs.Ytbopccjcehnfnaa.Sp Go.Proofs.Ytbopccjcehnfnaa.XFb Go.Proofs.YtbopccjcehnfnaaW.PrintWords Go.Proofs.YtbopccjcehnfnaaW.PrintLast Go.Proofs.YtbopccjcehnfnaaW.PrintMore
set_option linter.unusedVariables false
set_option linter.unusedSimpArgs false
theorem infoint : (Try.prog.info? 3).map (fun i => (i.zero, i.size, i.bytes)) = some (some (.int .i64 0), 1, 8) := by kernel_rfl
theorem x_block {W : World} {base X : Nat} {S : Nat → Prop} {bl : List (List Int)} {q : List S32} {fl : List Int} {last : Int} (h : IsX W base X S bl q fl last) {g cap : Nat} (hc : W.cell? ⟨X, 0, none⟩ = some (.slice (some ⟨g, 0, none⟩) bl.length cap)) (i : Int) (h0 : 0 ≤ i) (h1 : i < bl.length) (A : Option Addr) (c : Nat) (x : List Int) (hx : x.length = 128) {okp : Nat → Prop}
    (hR : Kd.R (Kd.int .u8) 5 W base okp (.slice A x.length c) x) (hok : ∀ k, okp k → S k ∧ k ≠ g) :
    IsX (W.setCell ⟨g, i.toNat, none⟩ (.slice A x.length c)) base X S (bl.set i.toNat x) q fl last ∧ S g := by
  have h' := h
  obtain ⟨_, _, ⟨vB9, vQ9, vF9, hX9, hB9, hQ9, hF9⟩, _, _⟩ := h'
  have hvB9 : vB9 = .slice (some ⟨g, 0, none⟩) bl.length cap := by
    simp [World.cell?, hX9] at hc
    exact hc
  exact ⟨x_cellB h hX9 hB9 hQ9 hF9 g cap hvB9 i h0 h1 A c x hx hR hok, hB9.1 g (by rw [hvB9]; simp [Value.ownBlock])⟩
set_option maxRecDepth 100000 in
set_option maxHeartbeats 8000000 in
theorem x_crash_no {W : World} {base X : Nat} {S : Nat → Prop} {bl : List (List Int)} {q : List S32} {fl : List Int} {last : Int} (h : IsX W base X S bl q fl last) (A : Option Addr) (c : Nat) (ids : List Int) (hC : Kd.C (Kd.int .i64) W A ids.length ids) (hlen : ids.length ≤ 1000000000000000) (hno : ∃ i ∈ ids, ixL (fun x : S32 => x.f0 == i) q 0 < 0) :
    Calls Try.prog 47 #[.pointer (some ⟨X, 0, none⟩), .slice A ids.length c] W fun e W' => e = .returned (.int .i64 20) ∧ Below W.heap.size W W' := by
  have H := Aside0.mk h
  have HC := Aside0.mk (fun (W' : World) (hb : Below W.heap.size W W') => Kd.C_below hC hb)
  have HNO := Aside0.mk hno
  clear hno hC h
  refine (callsIn_wide (n := 1)).1 ?_
  refine callsIn_of_wp Try.func47 rfl trivial ?_ rfl
  simp only [Try.ntmps47, List.size_toArray, List.length_cons, List.length_nil, Nat.reduceAdd, Nat.reduceSub, Array.replicate_succ, Array.replicate_zero, List.push_toArray, List.append_toArray, List.nil_append, List.cons_append]
  gi_wp2
  gi_loopw [12] (fun v12 wr => ∃ i : Nat, v12 = .int .i64 (i : Int) ∧ i ≤ ids.length ∧ Aside0 (∀ j ∈ ids.take i, 0 ≤ ixL (fun x : S32 => x.f0 == j) q 0) ∧ Aside0 (Below W.heap.size W wr)) (fun v12 _ => ids.length - (intOf v12).toNat)
  case atStart => exact ⟨0, rfl, Nat.zero_le _, ⟨fun j hj => by cases hj⟩, ⟨Below.refl _ _⟩⟩
  case round =>
    obtain ⟨i, rfl, hi, HJ, HB⟩ := hrel
    by_cases hlt : i < ids.length
    · have t1 : decide ((i : Int) < (ids.length : Int)) = true := decide_eq_true (by omega)
      have ew : wrap64 ((i : Int) + 1) = ((i + 1 : Nat) : Int) := by rw [IntWalk.wrap64_in _ (by omega)]; omega
      obtain ⟨ad, hA, hcid⟩ := at_int (HC.out wr HB.out) i hlt
      have hg : ids.getD i 0 = ids[i] := by simp [List.getD_eq_getElem?_getD, hlt]
      rw [hg] at hcid
      have htk : ids.take (i + 1) = ids.take i ++ [ids[i]] := by rw [List.take_add_one, List.getElem?_eq_getElem hlt]; rfl
      have HTK := Aside0.mk htk
      have HME := Aside0.mk (List.getElem_mem hlt : ids[i] ∈ ids)
      generalize ids[i] = id at *
      subst hA
      clear hg htk
      obtain ⟨ix, hix⟩ : ∃ ix, ixL (fun x : S32 => x.f0 == id) q 0 = ix := ⟨_, rfl⟩
      have HIX := Aside0.mk hix
      clear hix
      have hcl := (x_find (H.out.below HB.out) id)
      rw [HIX.out] at hcl
      by_cases h0 : ix < 0
      · have t2 : decide (ix < 0) = true := decide_eq_true h0
        gi_wp2_with (first
          | (refine ⟨trivial, ?_⟩; gi_at_call 58; refine (callsIn_wide.2 hcl).mono ?_; rintro e w1 ⟨rfl, hb⟩; have HB1 := Aside0.mk (below_step HB.out hb); clear hb))
        go_ret
        exact ⟨rfl, HB1.out⟩
      · have t2 : decide (ix < 0) = false := decide_eq_false h0
        have HH0 := Aside0.mk h0
        clear h0
        gi_wp2_with (first
          | (refine ⟨trivial, ?_⟩; gi_at_call 58; refine (callsIn_wide.2 hcl).mono ?_; rintro e w1 ⟨rfl, hb⟩; have HB1 := Aside0.mk (below_step HB.out hb); clear hb))
        exact ⟨⟨i + 1, by simp, hlt, ⟨fun j hj => by
          rw [HTK.out] at hj
          rcases List.mem_append.1 hj with hj | hj
          · exact HJ.out j hj
          · rw [List.mem_singleton.1 hj, HIX.out]; have := HH0.out; omega⟩, HB1⟩, by simp [intOf]; omega⟩
    · obtain rfl : i = ids.length := by omega
      have t1 : decide ((ids.length : Int) < (ids.length : Int)) = false := decide_eq_false (by omega)
      exfalso
      obtain ⟨j, hj, hj2⟩ := HNO.out
      have := HJ.out j (by rw [List.take_length]; exact hj)
      omega
set_option maxRecDepth 100000 in
set_option maxHeartbeats 8000000 in
theorem x_crash {W : World} {base X : Nat} {S : Nat → Prop} {bl : List (List Int)} {q : List S32} {fl : List Int} {last : Int} (h : IsX W base X S bl q fl last) (A : Option Addr) (c : Nat) (ids : List Int) (hC : ∀ W', Kept S W W' → Kd.C (Kd.int .i64) W' A ids.length ids) (hlen : ids.length ≤ 1000000000000000) (hall : ∀ i ∈ ids, 0 ≤ ixL (fun x : S32 => x.f0 == i) q 0) :
    Calls Try.prog 47 #[.pointer (some ⟨X, 0, none⟩), .slice A ids.length c] W fun e W' => e = .returned (.int .i64 0) ∧ IsX W' base X (fun k => S k ∨ (W.heap.size ≤ k ∧ k < W'.heap.size)) (ids.foldl (crB q) bl) [] (List.replicate bl.length 0) last ∧ Kept S W W' := by
  have H := Aside0.mk h
  have HC := Aside0.mk (fun (W' : World) (hb : Below W.heap.size W W') => hC W' (Kept.of_below hb))
  have HCK := Aside0.mk hC
  have HALL := Aside0.mk hall
  have HF := Aside0.mk (fun (i : Nat) => crB_all (ids.take i) (fun j hj => hall j (List.mem_of_mem_take hj)) bl h.fits)
  have HSL := Aside0.mk h.low
  have HSX := Aside0.mk h.inX
  have HFL := Aside0.mk h.fails
  have hbl0 := h.fits.most
  have hmk : ∀ (W1 : World), (Instr.makeSlice 40 (.int .i64 (bl.length : Int)) (.int .i64 (bl.length : Int))).run Try.prog W1 = .ok (.slice (some ⟨W1.heap.size, 0, none⟩) bl.length bl.length) (W1.alloc (.cells (madeCells #[.int .i64 0] bl.length) 3)) := fun W1 => print_make 40 3 .i64 8 Try.underlying40 infoint (by decide) bl.length (by omega) W1
  have HMK := Aside0.mk hmk
  clear hC hall h hmk
  refine (callsIn_wide (n := 1)).1 ?_
  refine callsIn_of_wp Try.func47 rfl trivial ?_ rfl
  simp only [Try.ntmps47, List.size_toArray, List.length_cons, List.length_nil, Nat.reduceAdd, Nat.reduceSub, Array.replicate_succ, Array.replicate_zero, List.push_toArray, List.append_toArray, List.nil_append, List.cons_append]
  gi_wp2
  gi_loopw [12] (fun v12 wr => ∃ i : Nat, v12 = .int .i64 (i : Int) ∧ i ≤ ids.length ∧ Aside0 (∀ j ∈ ids.take i, 0 ≤ ixL (fun x : S32 => x.f0 == j) q 0) ∧ Aside0 (Below W.heap.size W wr)) (fun v12 _ => ids.length - (intOf v12).toNat)
  case atStart => exact ⟨0, rfl, Nat.zero_le _, ⟨fun j hj => by cases hj⟩, ⟨Below.refl _ _⟩⟩
  case round =>
    obtain ⟨i, rfl, hi, HJ, HB⟩ := hrel
    by_cases hlt : i < ids.length
    · have t1 : decide ((i : Int) < (ids.length : Int)) = true := decide_eq_true (by omega)
      have ew : wrap64 ((i : Int) + 1) = ((i + 1 : Nat) : Int) := by rw [IntWalk.wrap64_in _ (by omega)]; omega
      obtain ⟨ad, hA, hcid⟩ := at_int (HC.out wr HB.out) i hlt
      have hg : ids.getD i 0 = ids[i] := by simp [List.getD_eq_getElem?_getD, hlt]
      rw [hg] at hcid
      have htk : ids.take (i + 1) = ids.take i ++ [ids[i]] := by rw [List.take_add_one, List.getElem?_eq_getElem hlt]; rfl
      have HTK := Aside0.mk htk
      have HME := Aside0.mk (List.getElem_mem hlt : ids[i] ∈ ids)
      generalize ids[i] = id at *
      subst hA
      clear hg htk
      obtain ⟨ix, hix⟩ : ∃ ix, ixL (fun x : S32 => x.f0 == id) q 0 = ix := ⟨_, rfl⟩
      have HIX := Aside0.mk hix
      clear hix
      have hcl := (x_find (H.out.below HB.out) id)
      rw [HIX.out] at hcl
      by_cases h0 : ix < 0
      · have t2 : decide (ix < 0) = true := decide_eq_true h0
        exfalso
        have := HALL.out id HME.out
        rw [HIX.out] at this
        omega
      · have t2 : decide (ix < 0) = false := decide_eq_false h0
        have HH0 := Aside0.mk h0
        clear h0
        gi_wp2_with (first
          | (refine ⟨trivial, ?_⟩; gi_at_call 58; refine (callsIn_wide.2 hcl).mono ?_; rintro e w1 ⟨rfl, hb⟩; have HB1 := Aside0.mk (below_step HB.out hb); clear hb))
        exact ⟨⟨i + 1, by simp, hlt, ⟨fun j hj => by
          rw [HTK.out] at hj
          rcases List.mem_append.1 hj with hj | hj
          · exact HJ.out j hj
          · rw [List.mem_singleton.1 hj, HIX.out]; have := HH0.out; omega⟩, HB1⟩, by simp [intOf]; omega⟩
    · obtain rfl : i = ids.length := by omega
      have t1 : decide ((ids.length : Int) < (ids.length : Int)) = false := decide_eq_false (by omega)
      have HW := Aside0.mk HB.out
      clear HJ
      gi_wp2
      gi_loopw [23] (fun v23 wr => ∃ i : Nat, v23 = .int .i64 (i : Int) ∧ i ≤ ids.length ∧ Aside0 (IsX wr base X (fun k => S k ∨ (W.heap.size ≤ k ∧ k < wr.heap.size)) ((ids.take i).foldl (crB q) bl) q fl last) ∧ Aside0 (Kept S W wr)) (fun v23 _ => ids.length - (intOf v23).toNat)
      case atStart =>
        refine ⟨0, rfl, Nat.zero_le _, ⟨(H.out.below HW.out).grow (fun k hk => .inl hk) (fun k hk => ?_)⟩, ⟨Kept.of_below HW.out⟩⟩
        have hs := HW.out.size
        rcases hk with hk | hk
        · have := HSL.out k hk; omega
        · have := HSL.out X HSX.out; omega
      case round =>
        obtain ⟨i, rfl, hi, HI, HK⟩ := hrel
        clear HB HW
        by_cases hlt : i < ids.length
        · have t1 : decide ((i : Int) < (ids.length : Int)) = true := decide_eq_true (by omega)
          have ew : wrap64 ((i : Int) + 1) = ((i + 1 : Nat) : Int) := by rw [IntWalk.wrap64_in _ (by omega)]; omega
          obtain ⟨ad, hA, hcid⟩ := at_int (HCK.out wr HK.out) i hlt
          have hg : ids.getD i 0 = ids[i] := by simp [List.getD_eq_getElem?_getD, hlt]
          rw [hg] at hcid
          have hid0 := HALL.out ids[i] (List.getElem_mem _)
          have htk : (ids.take (i + 1)).foldl (crB q) bl = crB q ((ids.take i).foldl (crB q) bl) ids[i] := by rw [List.take_add_one, List.getElem?_eq_getElem hlt, List.foldl_append]; rfl
          have HTK := Aside0.mk htk
          clear htk hg
          have HF2 := Aside0.mk (HF.out i)
          generalize (ids.take i).foldl (crB q) bl = bl2 at *
          subst hA
          obtain ⟨id, hid⟩ : ∃ id, ids[i] = id := ⟨_, rfl⟩
          rw [hid] at hcid hid0 HTK
          clear hid
          obtain ⟨k, hkq, hix⟩ : ∃ k : Nat, k < q.length ∧ ixL (fun x : S32 => x.f0 == id) q 0 = (k : Int) := by
            rcases ixL_range (fun x : S32 => x.f0 == id) q 0 with e | ⟨k, hk, e⟩
            · rw [e] at hid0; exact absurd hid0 (by decide)
            · exact ⟨k, hk, by rw [e]; omega⟩
          obtain ⟨s, hsk⟩ : ∃ s, q[k] = s := ⟨_, rfl⟩
          have hws : wrOf q id = s := by unfold wrOf; rw [hix, ← hsk]; simp [List.getD_eq_getElem?_getD, hkq]
          have HTK2 := Aside0.mk (HTK.out.trans (by unfold crB; rw [hws] : crB q bl2 id = bl2.set s.f1.toNat s.f2))
          have HIN := Aside0.mk (show 0 ≤ s.f1 ∧ s.f1 < bl2.length by rw [← hsk]; exact HF2.out.in_ _ (List.getElem_mem _))
          have H128 := Aside0.mk (show s.f2.length = 128 by rw [← hsk]; exact HF2.out.sent _ (List.getElem_mem _))
          obtain ⟨hf, hfl2, ⟨vB, vQ, vF, hX, hB, hQ, hFr⟩, hiX, hlow⟩ := HI.out
          obtain ⟨gB, cB, rfl, hgB1, hgB2, csB, hgBc⟩ := Kd.R_form hB (by have := hf.some; omega)
          obtain ⟨gQ, cQ, A2, c2, rfl, hgQ2, _, hq0, hq1, hq2, hc2, hv2⟩ := at_sent hQ k hkq
          rw [hsk] at hq0 hq1 hq2 hc2 hv2
          have hXr := (hlow X hiX).2
          have rd0 : ∀ W1, Below wr.heap.size wr W1 → W1.cell? ⟨X, 0, none⟩ = some (.slice (some ⟨gB, 0, none⟩) bl2.length cB) := fun W1 hb => by simp [World.cell?, hb.block _ hXr, hX]
          have rd1 : ∀ W1, Below wr.heap.size wr W1 → W1.cell? ⟨X, 1, none⟩ = some (.slice (some ⟨gQ, 0, none⟩) q.length cQ) := fun W1 hb => by simp [World.cell?, hb.block _ hXr, hX]
          have rq0 : ∀ W1, Below wr.heap.size wr W1 → W1.cell? ⟨gQ, k * 3, none⟩ = some (.int .i64 s.f0) := fun W1 hb => (hb.cell (p := ⟨gQ, k * 3, none⟩) hgQ2).trans hq0
          have rq1 : ∀ W1, Below wr.heap.size wr W1 → W1.cell? ⟨gQ, k * 3 + 1, none⟩ = some (.int .i64 s.f1) := fun W1 hb => (hb.cell (p := ⟨gQ, k * 3 + 1, none⟩) hgQ2).trans hq1
          have rq2 : ∀ W1, Below wr.heap.size wr W1 → W1.cell? ⟨gQ, k * 3 + 2, none⟩ = some (.slice A2 s.f2.length c2) := fun W1 hb => (hb.cell (p := ⟨gQ, k * 3 + 2, none⟩) hgQ2).trans hq2
          have HV2 := Aside0.mk hv2
          have HBL := Aside0.mk hB
          have p0 : (0 : Int) ≤ (k : Int) := by omega
          have p1 : (k : Int) < (q.length : Int) := by omega
          clear hq0 hq1 hq2 hv2 hB hQ hX hFr hgB1 hgBc hf hlow hws hid0 hfl2
          gi_wp2
          have HB8 := Aside0.mk (below_drew (Below.refl wr.heap.size wr))
          refine wpIn_wide.2 ?_
          refine start_ (n := 11) (S := fun w' => w'.cell? ⟨X, 1, none⟩ = some (.slice (some ⟨gQ, 0, none⟩) q.length cQ) ∧ w'.cell? ⟨gQ, k * 3, none⟩ = some (.int .i64 s.f0) ∧ w'.cell? ⟨gQ, k * 3 + 1, none⟩ = some (.int .i64 s.f1) ∧ w'.cell? ⟨gQ, k * 3 + 2, none⟩ = some (.slice A2 s.f2.length c2)) (ds := [10]) #[false, false, false, false, false, false, false, false, false, false, false] (by kernel_rfl) rfl rfl ⟨(rd1 _ HB8.out), (rq0 _ HB8.out), (rq1 _ HB8.out), (rq2 _ HB8.out)⟩ (fun hHeld => ?_)
          generalize wr.drew = W2 at HB8 hHeld ⊢
          refine pure_ (i := 0) (N := some 27) (v := ?_) (a' := ?_) #[true, false, false, false, false, false, false, false, false, false, false] rfl rfl (by kernel_rfl) (fun _ _ _ h => h) (Or.inl ⟨by rfl, ?_⟩) ?_ ?_
          rotate_left
          · intro w'
            go_simp
            with_reducible rfl
          rotate_left
          · simp only [Act.put, List.setIfInBounds_toArray, List.set_cons_zero, List.set_cons_succ, i64_w, i32_w]
            rfl
          refine pure_ (i := 1) (N := some 28) (v := ?_) (a' := ?_) #[true, true, false, false, false, false, false, false, false, false, false] rfl rfl (by kernel_rfl) (fun _ _ _ h => h) (Or.inl ⟨by rfl, ?_⟩) ?_ ?_
          rotate_left
          · intro w'
            go_simp
            with_reducible rfl
          rotate_left
          · simp only [Act.put, List.setIfInBounds_toArray, List.set_cons_zero, List.set_cons_succ, i64_w, i32_w]
            rfl
          refine pure_ (i := 2) (N := some 29) (v := ?_) (a' := ?_) #[true, true, true, false, false, false, false, false, false, false, false] rfl rfl (by kernel_rfl) (fun _ _ _ h => h) (Or.inl ⟨by rfl, ?_⟩) ?_ ?_
          rotate_left
          · intro w'
            go_simp
            with_reducible rfl
          rotate_left
          · simp only [Act.put, List.setIfInBounds_toArray, List.set_cons_zero, List.set_cons_succ, i64_w, i32_w]
            rfl
          refine pure_ (i := 4) (N := some 31) (v := ?_) (a' := ?_) #[true, true, true, false, true, false, false, false, false, false, false] rfl rfl (by kernel_rfl) (fun _ _ _ h => h) (Or.inl ⟨by rfl, ?_⟩) ?_ ?_
          rotate_left
          · intro w'
            go_simp
            with_reducible rfl
          rotate_left
          · simp only [Act.put, List.setIfInBounds_toArray, List.set_cons_zero, List.set_cons_succ, i64_w, i32_w]
            rfl
          refine pure_ (i := 5) (N := some 32) (v := ?_) (a' := ?_) #[true, true, true, false, true, true, false, false, false, false, false] rfl rfl (by kernel_rfl) (fun _ _ _ h => h) (Or.inl ⟨by rfl, ?_⟩) ?_ ?_
          rotate_left
          · intro w'
            go_simp
            with_reducible rfl
          rotate_left
          · simp only [Act.put, List.setIfInBounds_toArray, List.set_cons_zero, List.set_cons_succ, i64_w, i32_w]
            rfl
          refine take_ (i := 3) (N := some 30) (v := ?_) (a' := ?_) #[true, true, true, true, true, true, false, false, false, false, false] rfl rfl (by kernel_rfl) (fun _ _ _ h => h) (Or.inl ⟨by rfl, ?_⟩) hHeld ?_ ?_
          rotate_left
          · rintro w' ⟨s0, s1, s2, s3⟩
            go_simp
            with_reducible rfl
          rotate_left
          · simp only [Act.put, List.setIfInBounds_toArray, List.set_cons_zero, List.set_cons_succ, i64_w, i32_w]
            rfl
          refine join_ (σ := Nat) 1 #[true, true, true, true, true, true, true, true, true, true, false] (fun zz => [(33, .int .i64 (k : Int)), (34, .pointer (some ⟨gQ, k * 3, none⟩)), (35, .agg #[.int .i64 s.f0, .int .i64 s.f1, .slice A2 s.f2.length c2]), (9, .pointer (some ⟨zz, 0, none⟩))]) (fun z w' => w'.heap[z]? = some (.cells #[.int .i64 0, .int .i64 0, .slice none 0 0] 32 (0, 0)) ∧ wr.heap.size ≤ z ∧ Below wr.heap.size wr w') ?_ ?_
          rotate_left
          · intro hCont
            refine two_ (i := 6) (j := 9) (Ni := some 33) (Nj := some 9) #[true, true, true, true, true, true, true, false, false, false, false] #[true, true, true, true, true, true, false, false, false, true, false] rfl rfl rfl rfl (by kernel_rfl) (by decide) (by decide) (fun K hK => ?_) (fun K hK => ?_)
            · skip
              refine goes_ Try.func58 (by kernel_rfl) rfl #[.pointer (some ⟨X, 0, none⟩), .int .i64 id] (by rfl) rfl rfl (by simp only [List.map_toArray, List.map_cons, List.map_nil]; rfl) ?_
              with_reducible refine ((x_find (HI.out.below HB8.out) id)).mono ?_
              rintro e w6 ⟨rfl, hb6⟩
              refine ⟨_, rfl, ?_⟩
              rw [hix]
              have nHB8_ := Aside0.mk (below_step HB8.out hb6)
              clear HB8
              have HB8 := nHB8_
              clear nHB8_
              clear hb6
              refine hK.out _ _ ⟨(rd1 _ HB8.out), (rq0 _ HB8.out), (rq1 _ HB8.out), (rq2 _ HB8.out)⟩ (fun hHeld => ?_)
              clear hK K
              refine norm_ (a' := ?_) ?_ ?_
              rotate_left
              · show Act.put _ (some 33) _ = _
                simp only [Act.put, List.setIfInBounds_toArray, List.set_cons_zero, List.set_cons_succ, i64_w, i32_w]
                rfl
              refine pure_ (i := 7) (N := some 34) (v := ?_) (a' := ?_) #[true, true, true, true, true, true, true, true, false, false, false] rfl rfl (by kernel_rfl) (fun _ _ _ h => h) (Or.inl ⟨by rfl, ?_⟩) ?_ ?_
              rotate_left
              · intro w'
                go_simp
                with_reducible rfl
              rotate_left
              · simp only [Act.put, List.setIfInBounds_toArray, List.set_cons_zero, List.set_cons_succ, i64_w, i32_w]
                rfl
              refine take_ (i := 8) (N := some 35) (v := ?_) (a' := ?_) #[true, true, true, true, true, true, true, true, true, false, false] rfl rfl (by kernel_rfl) (fun _ _ _ h => h) (Or.inl ⟨by rfl, ?_⟩) hHeld ?_ ?_
              rotate_left
              · rintro w' ⟨s0, s1, s2, s3⟩
                go_simp
                with_reducible rfl
              rotate_left
              · simp only [Act.put, List.setIfInBounds_toArray, List.set_cons_zero, List.set_cons_succ, i64_w, i32_w]
                rfl
              refine one_ (i := 9) (N := some 9) #[true, true, true, true, true, true, true, true, true, true, false] rfl rfl (by kernel_rfl) (by decide) (fun K hK => ?_)
              refine value_ (w1 := ?_) (v := ?_) (by rfl) rfl ?_ ?_
              rotate_left 2
              · go_simp
                constructor
                · rfl
                · rfl
              have HZ := Aside0.mk (alloc_new_of HB8.out (.cells #[.int .i64 0, .int .i64 0, .slice none 0 0] 32))
              have HLZ := Aside0.mk HB8.out.size
              have nHB8_ := Aside0.mk (below_alloc HB8.out (.cells #[.int .i64 0, .int .i64 0, .slice none 0 0] 32))
              clear HB8
              have HB8 := nHB8_
              clear nHB8_
              refine hK.out _ _ ⟨(rd1 _ HB8.out), (rq0 _ HB8.out), (rq1 _ HB8.out), (rq2 _ HB8.out)⟩ (fun hHeld => ?_)
              clear hK K
              refine norm_ (a' := ?_) ?_ ?_
              rotate_left
              · show Act.put _ (some 9) _ = _
                simp only [Act.put, List.setIfInBounds_toArray, List.set_cons_zero, List.set_cons_succ, i64_w, i32_w]
                rfl
              exact norm_ (by simp only [putAll, Act.put, List.setIfInBounds_toArray, List.set_cons_zero, List.set_cons_succ]) (hCont (w6.heap.size) _ ⟨HZ.out, HLZ.out, HB8.out⟩)
            · skip
              refine value_ (w1 := ?_) (v := ?_) (by rfl) rfl ?_ ?_
              rotate_left 2
              · go_simp
                constructor
                · rfl
                · rfl
              have HZ := Aside0.mk (alloc_new_of HB8.out (.cells #[.int .i64 0, .int .i64 0, .slice none 0 0] 32))
              have HLZ := Aside0.mk HB8.out.size
              have nHB8_ := Aside0.mk (below_alloc HB8.out (.cells #[.int .i64 0, .int .i64 0, .slice none 0 0] 32))
              clear HB8
              have HB8 := nHB8_
              clear nHB8_
              refine hK.out _ _ ⟨(rd1 _ HB8.out), (rq0 _ HB8.out), (rq1 _ HB8.out), (rq2 _ HB8.out)⟩ (fun hHeld => ?_)
              clear hK K
              refine norm_ (a' := ?_) ?_ ?_
              rotate_left
              · show Act.put _ (some 9) _ = _
                simp only [Act.put, List.setIfInBounds_toArray, List.set_cons_zero, List.set_cons_succ, i64_w, i32_w]
                rfl
              refine one_ (i := 6) (N := some 33) #[true, true, true, true, true, true, true, false, false, true, false] rfl rfl (by kernel_rfl) (by decide) (fun K hK => ?_)
              refine goes_ Try.func58 (by kernel_rfl) rfl #[.pointer (some ⟨X, 0, none⟩), .int .i64 id] (by rfl) rfl rfl (by simp only [List.map_toArray, List.map_cons, List.map_nil]; rfl) ?_
              with_reducible refine ((x_find (HI.out.below HB8.out) id)).mono ?_
              rintro e w6 ⟨rfl, hb6⟩
              refine ⟨_, rfl, ?_⟩
              rw [hix]
              have nHZ_ := Aside0.mk ((hb6.block _ (heap_lt HZ.out)).trans HZ.out)
              clear HZ
              have HZ := nHZ_
              clear nHZ_
              have nHB8_ := Aside0.mk (below_step HB8.out hb6)
              clear HB8
              have HB8 := nHB8_
              clear nHB8_
              clear hb6
              refine hK.out _ _ ⟨(rd1 _ HB8.out), (rq0 _ HB8.out), (rq1 _ HB8.out), (rq2 _ HB8.out)⟩ (fun hHeld => ?_)
              clear hK K
              refine norm_ (a' := ?_) ?_ ?_
              rotate_left
              · show Act.put _ (some 33) _ = _
                simp only [Act.put, List.setIfInBounds_toArray, List.set_cons_zero, List.set_cons_succ, i64_w, i32_w]
                rfl
              refine pure_ (i := 7) (N := some 34) (v := ?_) (a' := ?_) #[true, true, true, true, true, true, true, true, false, true, false] rfl rfl (by kernel_rfl) (fun _ _ _ h => h) (Or.inl ⟨by rfl, ?_⟩) ?_ ?_
              rotate_left
              · intro w'
                go_simp
                with_reducible rfl
              rotate_left
              · simp only [Act.put, List.setIfInBounds_toArray, List.set_cons_zero, List.set_cons_succ, i64_w, i32_w]
                rfl
              refine take_ (i := 8) (N := some 35) (v := ?_) (a' := ?_) #[true, true, true, true, true, true, true, true, true, true, false] rfl rfl (by kernel_rfl) (fun _ _ _ h => h) (Or.inl ⟨by rfl, ?_⟩) hHeld ?_ ?_
              rotate_left
              · rintro w' ⟨s0, s1, s2, s3⟩
                go_simp
                with_reducible rfl
              rotate_left
              · simp only [Act.put, List.setIfInBounds_toArray, List.set_cons_zero, List.set_cons_succ, i64_w, i32_w]
                rfl
              exact norm_ (by simp only [putAll, Act.put, List.setIfInBounds_toArray, List.set_cons_zero, List.set_cons_succ]) (hCont (W2.heap.size) _ ⟨HZ.out, HLZ.out, HB8.out⟩)
          rintro z w3 ⟨hz3, hle3, hb3⟩
          have HZ := Aside0.mk hz3
          have HLZ := Aside0.mk hle3
          have HB8 := Aside0.mk hb3
          have z0 : w3.cell? ⟨z, 0, none⟩ = some (.int .i64 0) := by simp [World.cell?, hz3]
          have z1 : w3.cell? ⟨z, 1, none⟩ = some (.int .i64 0) := by simp [World.cell?, hz3]
          have z2 : w3.cell? ⟨z, 2, none⟩ = some (.slice none 0 0) := by simp [World.cell?, hz3]
          have zf : ∀ i, w3.frozen? ⟨z, i, none⟩ = false := fun i => by simp [World.frozen?, hz3]
          have hHeld : (w3.cell? ⟨X, 1, none⟩ = some (.slice (some ⟨gQ, 0, none⟩) q.length cQ)) ∧ (w3.cell? ⟨gQ, k * 3, none⟩ = some (.int .i64 s.f0)) ∧ (w3.cell? ⟨gQ, k * 3 + 1, none⟩ = some (.int .i64 s.f1)) ∧ (w3.cell? ⟨gQ, k * 3 + 2, none⟩ = some (.slice A2 s.f2.length c2)) := ⟨rd1 _ hb3, rq0 _ hb3, rq1 _ hb3, rq2 _ hb3⟩
          clear hz3 hle3 hb3
          refine norm_ (a' := ?_) ?_ ?_
          rotate_left
          · simp only [putAll, Act.put, List.setIfInBounds_toArray, List.set_cons_zero, List.set_cons_succ]
            rfl
          refine last_ (i := 10) (N := none) #[true, true, true, true, true, true, true, true, true, true, true] rfl rfl (by kernel_rfl) (by decide) (fun K hK => ?_)
          refine skip_ (w1 := ?_) (by rfl) rfl ?_ ?_
          rotate_left
          · go_simp
            rfl
          refine hK.out _ _ ?_
          clear hK K
          refine done_ (by kernel_rfl) ?_

          have HZ4 := Aside0.mk (Go.Proofs.Ytbopccjcehnfnaa.Nb.set_heap (Go.Proofs.Ytbopccjcehnfnaa.Nb.set_heap (Go.Proofs.Ytbopccjcehnfnaa.Nb.set_heap HZ.out (o := 0) (.int .i64 s.f0)) (o := 1) (.int .i64 s.f1)) (o := 2) (.slice A2 s.f2.length c2))
          have HB4 := Aside0.mk (((HB8.out.setCell (p := ⟨z, 0, none⟩) HLZ.out (.int .i64 s.f0)).setCell (p := ⟨z, 1, none⟩) HLZ.out (.int .i64 s.f1)).setCell (p := ⟨z, 2, none⟩) HLZ.out (.slice A2 s.f2.length c2))
          simp only [List.setIfInBounds_toArray, List.set_cons_zero, List.set_cons_succ] at HZ4
          clear z0 z1 z2 zf hHeld HB8 HZ
          generalize ((w3.setCell ⟨z, 0, none⟩ (.int .i64 s.f0)).setCell ⟨z, 1, none⟩ (.int .i64 s.f1)).setCell ⟨z, 2, none⟩ (.slice A2 s.f2.length c2) = W4 at *
          have HB4d := Aside0.mk (below_drew HB4.out)
          have HBL4 := Aside0.mk (Kd.R_below HBL.out HB4d.out)
          have HV4 := Aside0.mk (Kd.R_below HV2.out HB4d.out)
          have pz1 : 0 ≤ s.f1 := HIN.out.1
          have pz2 : s.f1 < (bl2.length : Int) := HIN.out.2
          have hcl := bollardref02_copied.calls A2 c2 s.f2 s.f2 W4.drew (Kd.R_reads' HV4.out).2.2 hc2 (copied_f s.f2 (by have := H128.out; clear ew; omega))
          have y0d := rd0 _ HB4d.out
          have y0z : W4.drew.cell? ⟨z, 1, none⟩ = some (.int .i64 s.f1) := show W4.cell? _ = _ by simp [World.cell?, HZ4.out]
          have y0y : W4.drew.cell? ⟨z, 2, none⟩ = some (.slice A2 s.f2.length c2) := show W4.cell? _ = _ by simp [World.cell?, HZ4.out]
          have kd5 := fun (W1 : World) (hb : Below W4.drew.heap.size W4.drew W1) => rd0 W1 (below_step HB4d.out hb)
          have hz4l := heap_lt HZ4.out
          have kz5 : ∀ (W1 : World), Below W4.drew.heap.size W4.drew W1 → W1.cell? ⟨z, 1, none⟩ = some (.int .i64 s.f1) := fun W1 hb => (hb.cell (p := ⟨z, 1, none⟩) hz4l).trans y0z
          have ky5 : ∀ (W1 : World), Below W4.drew.heap.size W4.drew W1 → W1.cell? ⟨z, 2, none⟩ = some (.slice A2 s.f2.length c2) := fun W1 hb => (hb.cell (p := ⟨z, 2, none⟩) hz4l).trans y0y
          clear rd0 rd1 rq0 rq1 rq2 hcid t1
          gi_wp2
          refine wpIn_wide.2 ?_
          refine start_ (n := 11) (S := fun w' => w'.cell? ⟨X, 0, none⟩ = some (.slice (some ⟨gB, 0, none⟩) bl2.length cB) ∧ w'.cell? ⟨z, 1, none⟩ = some (.int .i64 s.f1) ∧ w'.cell? ⟨z, 2, none⟩ = some (.slice A2 s.f2.length c2)) (ds := [10]) #[false, false, false, false, false, false, false, false, false, false, false] (by kernel_rfl) rfl rfl ⟨y0d, y0z, y0y⟩ (fun hHeld => ?_)
          refine pure_ (i := 0) (N := some 36) (v := ?_) (a' := ?_) #[true, false, false, false, false, false, false, false, false, false, false] rfl rfl (by kernel_rfl) (fun _ _ _ h => h) (Or.inl ⟨by rfl, ?_⟩) ?_ ?_
          rotate_left
          · intro w'
            go_simp
            with_reducible rfl
          rotate_left
          · simp only [Act.put, List.setIfInBounds_toArray, List.set_cons_zero, List.set_cons_succ, i64_w, i32_w]
            rfl
          refine pure_ (i := 1) (N := some 37) (v := ?_) (a' := ?_) #[true, true, false, false, false, false, false, false, false, false, false] rfl rfl (by kernel_rfl) (fun _ _ _ h => h) (Or.inl ⟨by rfl, ?_⟩) ?_ ?_
          rotate_left
          · intro w'
            go_simp
            with_reducible rfl
          rotate_left
          · simp only [Act.put, List.setIfInBounds_toArray, List.set_cons_zero, List.set_cons_succ, i64_w, i32_w]
            rfl
          refine pure_ (i := 2) (N := some 38) (v := ?_) (a' := ?_) #[true, true, true, false, false, false, false, false, false, false, false] rfl rfl (by kernel_rfl) (fun _ _ _ h => h) (Or.inl ⟨by rfl, ?_⟩) ?_ ?_
          rotate_left
          · intro w'
            go_simp
            with_reducible rfl
          rotate_left
          · simp only [Act.put, List.setIfInBounds_toArray, List.set_cons_zero, List.set_cons_succ, i64_w, i32_w]
            rfl
          refine pure_ (i := 4) (N := some 40) (v := ?_) (a' := ?_) #[true, true, true, false, true, false, false, false, false, false, false] rfl rfl (by kernel_rfl) (fun _ _ _ h => h) (Or.inl ⟨by rfl, ?_⟩) ?_ ?_
          rotate_left
          · intro w'
            go_simp
            with_reducible rfl
          rotate_left
          · simp only [Act.put, List.setIfInBounds_toArray, List.set_cons_zero, List.set_cons_succ, i64_w, i32_w]
            rfl
          refine pure_ (i := 6) (N := some 42) (v := ?_) (a' := ?_) #[true, true, true, false, true, false, true, false, false, false, false] rfl rfl (by kernel_rfl) (fun _ _ _ h => h) (Or.inl ⟨by rfl, ?_⟩) ?_ ?_
          rotate_left
          · intro w'
            go_simp
            with_reducible rfl
          rotate_left
          · simp only [Act.put, List.setIfInBounds_toArray, List.set_cons_zero, List.set_cons_succ, i64_w, i32_w]
            rfl
          refine take_ (i := 3) (N := some 39) (v := ?_) (a' := ?_) #[true, true, true, true, true, false, true, false, false, false, false] rfl rfl (by kernel_rfl) (fun _ _ _ h => h) (Or.inl ⟨by rfl, ?_⟩) hHeld ?_ ?_
          rotate_left
          · rintro w' ⟨s0, s1, s2⟩
            go_simp
            with_reducible rfl
          rotate_left
          · simp only [Act.put, List.setIfInBounds_toArray, List.set_cons_zero, List.set_cons_succ, i64_w, i32_w]
            rfl
          refine take_ (i := 5) (N := some 41) (v := ?_) (a' := ?_) #[true, true, true, true, true, true, true, false, false, false, false] rfl rfl (by kernel_rfl) (fun _ _ _ h => h) (Or.inl ⟨by rfl, ?_⟩) hHeld ?_ ?_
          rotate_left
          · rintro w' ⟨s0, s1, s2⟩
            go_simp
            with_reducible rfl
          rotate_left
          · simp only [Act.put, List.setIfInBounds_toArray, List.set_cons_zero, List.set_cons_succ, i64_w, i32_w]
            rfl
          refine take_ (i := 7) (N := some 43) (v := ?_) (a' := ?_) #[true, true, true, true, true, true, true, true, false, false, false] rfl rfl (by kernel_rfl) (fun _ _ _ h => h) (Or.inl ⟨by rfl, ?_⟩) hHeld ?_ ?_
          rotate_left
          · rintro w' ⟨s0, s1, s2⟩
            go_simp
            with_reducible rfl
          rotate_left
          · simp only [Act.put, List.setIfInBounds_toArray, List.set_cons_zero, List.set_cons_succ, i64_w, i32_w]
            rfl
          refine one_ (i := 8) (N := some 44) #[true, true, true, true, true, true, true, true, true, false, false] rfl rfl (by kernel_rfl) (by decide) (fun K hK => ?_)
          refine goes_ Try.func53 (by kernel_rfl) rfl #[.slice A2 s.f2.length c2] (by rfl) rfl rfl (by simp only [List.map_toArray, List.map_cons, List.map_nil]; rfl) ?_
          with_reducible refine (hcl).mono ?_
          rintro e w5 ⟨v5, rfl, hr5, hb5⟩
          refine ⟨_, rfl, ?_⟩
          obtain ⟨A5, c5, rfl⟩ := Kd.R_slice hr5
          have HR5 := Aside0.mk hr5
          have HB5 := Aside0.mk hb5
          obtain ⟨vE, y0, y1⟩ := at_block (Kd.R_below HBL4.out hb5) s.f1 pz1 pz2
          clear hr5 hb5
          refine hK.out _ _ ⟨(kd5 _ HB5.out), (kz5 _ HB5.out), (ky5 _ HB5.out)⟩ (fun hHeld => ?_)
          clear hK K
          refine norm_ (a' := ?_) ?_ ?_
          rotate_left
          · show Act.put _ (some 44) _ = _
            simp only [Act.put, List.setIfInBounds_toArray, List.set_cons_zero, List.set_cons_succ, i64_w, i32_w]
            rfl
          refine pure_ (i := 9) (N := some 45) (v := ?_) (a' := ?_) #[true, true, true, true, true, true, true, true, true, true, false] rfl rfl (by kernel_rfl) (fun _ _ _ h => h) (Or.inl ⟨by rfl, ?_⟩) ?_ ?_
          rotate_left
          · intro w'
            go_simp
            with_reducible rfl
          rotate_left
          · simp only [Act.put, List.setIfInBounds_toArray, List.set_cons_zero, List.set_cons_succ, i64_w, i32_w]
            rfl
          refine last_ (i := 10) (N := none) #[true, true, true, true, true, true, true, true, true, true, true] rfl rfl (by kernel_rfl) (by decide) (fun K hK => ?_)
          refine skip_ (w1 := ?_) (by rfl) rfl ?_ ?_
          rotate_left
          · go_simp
            rfl
          refine hK.out _ _ ?_
          clear hK K
          refine done_ (by kernel_rfl) ?_

          have hle4 : wr.heap.size ≤ W4.drew.heap.size := HB4d.out.size
          have hle5 : W4.drew.heap.size ≤ w5.heap.size := HB5.out.size
          have hleK : W.heap.size ≤ wr.heap.size := HK.out.size
          have hbw : base ≤ W.heap.size := by have := HSL.out X HSX.out; clear ew; omega
          have hb5 : Below wr.heap.size wr w5 := below_step HB4d.out HB5.out
          have hi5 := (HI.out.below hb5).grow (S' := fun k => S k ∨ (W.heap.size ≤ k ∧ k < w5.heap.size)) (fun k hk => hk.imp (fun h => h) (fun h => ⟨h.1, by clear ew; omega⟩)) (fun k hk => by
            clear ew
            rcases hk with hk | hk
            · have := HSL.out k hk; omega
            · omega)
          obtain ⟨hi6, hSB⟩ := x_block hi5 (kd5 w5 HB5.out) s.f1 pz1 pz2 A5 c5 s.f2 H128.out (okp := fun k => W4.drew.heap.size ≤ k ∧ k < w5.heap.size) (Kd.R_mono (Kd.R_lower (Kd.R_bound HR5.out) (by clear ew; omega)) (fun k hk => ⟨hk.2.1, hk.2.2.1⟩)) (fun k hk => ⟨.inr ⟨by clear ew; omega, hk.2⟩, by clear ew; omega⟩)
          have hs6 : (w5.setCell ⟨gB, s.f1.toNat, none⟩ (.slice A5 s.f2.length c5)).heap.size = w5.heap.size := by simp [World.setCell]
          have hK6 : Kept S W (w5.setCell ⟨gB, s.f1.toNat, none⟩ (.slice A5 s.f2.length c5)) := (HK.out.trans (Kept.of_below (S := S) hb5) (fun j hj => .inl hj)).trans (kept_set w5 ⟨gB, s.f1.toNat, none⟩ _ (fun k => k = gB) rfl) (fun j hj => by
            rcases hSB with h | h
            · exact .inl (by rw [hj]; exact h)
            · exact .inr (by rw [hj]; exact h.1))
          rw [← hs6] at hi6
          have HI6 := Aside0.mk hi6
          have HK6 := Aside0.mk hK6
          clear hi6 hK6 hs6 hi5 hcl kd5 kz5 ky5 y0d y0z y0y
          generalize w5.setCell ⟨gB, s.f1.toNat, none⟩ (.slice A5 s.f2.length c5) = W6 at *
          gi_wp2
          exact ⟨⟨i + 1, by simp, hlt, ⟨by rw [HTK2.out]; exact HI6.out⟩, HK6⟩, by simp [intOf]; clear ew; omega⟩
        · obtain rfl : i = ids.length := by omega
          have t1 : decide ((ids.length : Int) < (ids.length : Int)) = false := decide_eq_false (by omega)
          have hi2 := HI.out
          rw [List.take_length] at hi2
          have hblen : (ids.foldl (crB q) bl).length = bl.length := hi2.fails.symm.trans HFL.out
          obtain ⟨bl2, hbl2⟩ : ∃ b2, ids.foldl (crB q) bl = b2 := ⟨_, rfl⟩
          rw [hbl2] at hi2 hblen
          have HBL2 := Aside0.mk hbl2
          clear hbl2
          obtain ⟨hf, hfl2, ⟨vB, vQ, vF, hX, hB, hQ, hFr⟩, hiX, hlow⟩ := hi2
          have hsX := HSX.out
          have hlX := HSL.out X hsX
          have hkz := HK.out.size
          obtain ⟨AB, cB, rfl⟩ := Kd.R_slice hB
          obtain ⟨AQ, cQ, rfl⟩ := Kd.R_slice hQ
          have cq : wr.cell? ⟨X, 1, none⟩ = some (.slice AQ q.length cQ) := by simp [World.cell?, hX]
          have fq : wr.frozen? ⟨X, 1, none⟩ = false := by simp [World.frozen?, hX]
          have hX7 : (wr.setCell ⟨X, 1, none⟩ (.slice none 0 0)).heap[X]? = some (.cells #[.slice AB bl2.length cB, .slice none 0 0, vF, .int .i64 last] 81 (0, 0)) := Go.Proofs.Ytbopccjcehnfnaa.Nb.set_heap hX _
          have c07 : (wr.setCell ⟨X, 1, none⟩ (.slice none 0 0)).cell? ⟨X, 0, none⟩ = some (.slice AB bl2.length cB) := by simp [World.cell?, hX7]
          have hs7 : (wr.setCell ⟨X, 1, none⟩ (.slice none 0 0)).heap.size = wr.heap.size := by simp [World.setCell]
          have hi7 := x_putQ hX hB (Kd.R_nil k32 32 wr base (fun k => S k ∨ (W.heap.size ≤ k ∧ k < wr.heap.size))) hFr ⟨hf.some, hf.most, hf.each, Nat.zero_le 64, (fun s hs => by cases hs), (fun s hs => by cases hs), hf.low, hf.high⟩ hfl2 hiX hlow
          have hK7 : Kept S W (wr.setCell ⟨X, 1, none⟩ (.slice none 0 0)) := HK.out.trans (kept_set wr ⟨X, 1, none⟩ _ S hsX) (fun j hj => .inl hj)
          have hXl7 : X < (wr.setCell ⟨X, 1, none⟩ (.slice none 0 0)).heap.size := heap_lt hX7
          have HX7 := Aside0.mk hX7
          have HI7 := Aside0.mk hi7
          have HK7 := Aside0.mk hK7
          have HL7 := Aside0.mk hlow
          have HBN := Aside0.mk hblen
          have hmk7 := HMK.out
          rw [← hblen] at hmk7
          rw [← hblen] at hbl0
          have HB7 := Aside0.mk hbl0
          have hX8 : ((wr.setCell ⟨X, 1, none⟩ (.slice none 0 0)).alloc (.cells (madeCells #[.int .i64 0] bl2.length) 3)).heap[X]? = _ := (heap_alloc_old _ _ _ hXl7).trans HX7.out
          have c28 : ((wr.setCell ⟨X, 1, none⟩ (.slice none 0 0)).alloc (.cells (madeCells #[.int .i64 0] bl2.length) 3)).cell? ⟨X, 2, none⟩ = some vF := by simp [World.cell?, hX8]
          have f28 : ((wr.setCell ⟨X, 1, none⟩ (.slice none 0 0)).alloc (.cells (madeCells #[.int .i64 0] bl2.length) 3)).frozen? ⟨X, 2, none⟩ = false := by simp [World.frozen?, hX8]
          have HX8 := Aside0.mk hX8
          clear hX8 hX7 hi7 hK7 hB hQ hFr hX hf hfl2 hlow hblen HI HK
          gi_wp2
          go_ret
          have hi8 := HI7.out.below (below_alloc (Below.refl _ _) (.cells (madeCells #[.int .i64 0] bl2.length) 3))
          have hr8 : Kd.R (Kd.int .i64) 3 ((wr.setCell ⟨X, 1, none⟩ (.slice none 0 0)).alloc (.cells (madeCells #[.int .i64 0] bl2.length) 3)) base (fun k => S k ∨ (W.heap.size ≤ k ∧ k < wr.heap.size + 1)) (.slice (some ⟨wr.heap.size, 0, none⟩) bl2.length bl2.length) (List.replicate bl2.length 0) := by
            have h1 := own_made' (wr.setCell ⟨X, 1, none⟩ (.slice none 0 0)) base 3 .i64 bl2.length (by rw [hs7]; omega) (by omega)
            rw [hs7] at h1
            exact Kd.R_of_own h1 (fun k hk => by simp [Value.ownBlock] at hk; subst hk; exact .inr ⟨by omega, by omega⟩)
          obtain ⟨hf8, hfl8, ⟨vB8, vQ8, vF8, hX8, hB8, hQ8, hF8⟩, hiX8, hl8⟩ := hi8
          have hz8 : ((wr.setCell ⟨X, 1, none⟩ (.slice none 0 0)).alloc (.cells (madeCells #[.int .i64 0] bl2.length) 3)).heap.size = wr.heap.size + 1 := by simp [World.setCell]
          have hi9 := x_putF (S := fun k => S k ∨ (W.heap.size ≤ k ∧ k < wr.heap.size + 1)) hX8 (Kd.R_mono hB8 (fun k hk => hk.imp (fun h => h) (fun h => ⟨h.1, by omega⟩))) (Kd.R_mono hQ8 (fun k hk => hk.imp (fun h => h) (fun h => ⟨h.1, by omega⟩))) hr8 hf8 (by rw [List.length_replicate]) (.inl hsX) (fun k hk => by
            rw [hz8]
            rcases hk with hk | hk
            · have := HSL.out k hk; omega
            · omega)
          have hK9 : Kept S W (((wr.setCell ⟨X, 1, none⟩ (.slice none 0 0)).alloc (.cells (madeCells #[.int .i64 0] bl2.length) 3)).setCell ⟨X, 2, none⟩ (.slice (some ⟨wr.heap.size, 0, none⟩) bl2.length bl2.length)) := (HK7.out.trans (Kept.of_below (S := S) (below_alloc (Below.refl _ _) _)) (fun j hj => .inl hj)).trans (kept_set _ ⟨X, 2, none⟩ _ S hsX) (fun j hj => .inl hj)
          rw [HBL2.out]
          refine ⟨rfl, ?_, ?_⟩
          · rw [← HBN.out]
            have e9 : wr.heap.size + 1 = (((wr.setCell ⟨X, 1, none⟩ (.slice none 0 0)).alloc (.cells (madeCells #[.int .i64 0] bl2.length) 3)).setCell ⟨X, 2, none⟩ (.slice (some ⟨wr.heap.size, 0, none⟩) bl2.length bl2.length)).heap.size := by simp [World.setCell]
            rw [e9] at hi9
            first | exact hi9 | (simp only [hs7]; exact hi9) | (rw [← hs7] at hi9; exact hi9)
          · first | exact hK9 | (simp only [hs7]; exact hK9) | (rw [← hs7] at hK9; exact hK9)

end Go.Proofs.Ytbopccjcehnfnaa.Dk
