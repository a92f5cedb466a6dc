/- Written by a program of this session. crash.ids, keep, Sets and Of of a disk. -/
import Derived.Test.YtlkijnnoalfblaaQc
import Derived.Laws.BitsLemmas
namespace Go.Proofs.Ytlkijnnoalfblaa.Dk
open Go Go.RowKit Go.Shelf Go.Proofs Go.Maps Go.Proofs.Ytlkijnnoalfblaa.Sp Go.Proofs.Ytlkijnnoalfblaa.XFb Go.Proofs.YtlkijnnoalfblaaW.PrintWords Go.Proofs.YtlkijnnoalfblaaW.PrintLast Go.Proofs.YtlkijnnoalfblaaW.PrintMore
set_option linter.unusedVariables false
set_option linter.unusedSimpArgs false
theorem cinfo : (Try.prog.info? 3).map (fun i => (i.zero, i.size, i.bytes)) = some (some (.int .i64 0), 1, 8) := by kernel_rfl
theorem cinfos : (Try.prog.info? 33).map (fun i => (i.zero, i.size, i.bytes)) = some (some (.slice none 0 0), 1, 24) := by kernel_rfl
/-- Those of some whose places, from i on, are such. -/
def keepL (p : Nat → Bool) : List Int → Nat → List Int
  | [], _ => []
  | x :: r, i => if p i = true then x :: keepL p r (i + 1) else keepL p r (i + 1)
theorem keepL_snoc (p : Nat → Bool) (x : Int) : ∀ (l : List Int) (i : Nat), keepL p (l ++ [x]) i = keepL p l i ++ (if p (i + l.length) = true then [x] else [])
  | [], i => by simp [keepL]
  | y :: r, i => by
    rw [List.cons_append]
    unfold keepL
    rw [keepL_snoc p x r (i + 1), show i + 1 + r.length = i + (y :: r).length by simp; omega]
    split <;> simp
theorem keepL_len (p : Nat → Bool) : ∀ (l : List Int) (i : Nat), (keepL p l i).length ≤ l.length
  | [], _ => Nat.le_refl _
  | y :: r, i => by
    unfold keepL
    have := keepL_len p r (i + 1)
    split <;> simp <;> omega
def bitP (k : Int) (i : Nat) : Bool := decide (k / 2 ^ i % 2 = 1)
theorem and1_i (z : Int) (h0 : 0 ≤ z) (h1 : z < 4096) : bits BinOp.and IntKind.i64 z 1 = z % 2 := bits_mask .i64 63 (by decide) (fun n h0 h1 => by rw [IntKind.wrap_i64]; omega) 1 (by decide) z h0 (by omega)
theorem and1_u (z : Int) (h0 : 0 ≤ z) (h1 : z < 18446744073709551616) : bits BinOp.and IntKind.u64 z 1 = z % 2 := bits_mask .u64 64 (by decide) (fun n h0 h1 => by rw [IntKind.wrap_u64]; omega) 1 (by decide) z h0 (by omega)
theorem div_le (k : Int) (i : Nat) (h0 : 0 ≤ k) : 0 ≤ k / 2 ^ i ∧ k / 2 ^ i ≤ k := ⟨Int.ediv_nonneg h0 (Int.le_of_lt (Int.pow_pos (by decide))), Int.ediv_le_self _ h0⟩
theorem at_n {w : World} {A : Option Addr} {n : Nat} {xs : List Int} (h : Kd.C (Kd.int .i64) w A n xs) (i : Nat) (h1 : i < n) : ∃ ad, A = some ad ∧ w.cell? (ad.add i) = some (.int .i64 (xs.getD i 0)) := at_int h i h1
set_option maxRecDepth 100000 in
set_option maxHeartbeats 8000000 in
theorem ids_ok {W : World} {base D m : Nat} {S : Nat → Prop} {bl : List (List Int)} {q : List S49} {mo : Obj} {last : Int} (h : IsDk W base D m S bl q mo last) :
    Calls Try.prog 25 #[.pointer (some ⟨D, 0, none⟩)] W fun e W' => ∃ v, e = .returned v ∧ Kd.R (Kd.int .i64) 3 W' W.heap.size (fun _ => True) v (q.map fun s => s.f0) ∧ Below W.heap.size W W' := by
  have H := Aside0.mk h
  have hq64 := h.fits.queue
  clear h
  refine (callsIn_wide (n := 1)).1 ?_
  refine callsIn_of_wp Try.func25 rfl trivial ?_ rfl
  simp only [Try.ntmps25, List.size_toArray, List.length_cons, List.length_nil, Nat.reduceAdd, Nat.reduceSub, Array.replicate_succ, Array.replicate_zero, List.push_toArray, List.append_toArray, List.nil_append, List.cons_append]
  gi_wp2_with (first
    | (refine ⟨trivial, ?_⟩; gi_at_call 7; refine (callsIn_wide.2 (queue_ok H.out)).mono ?_; rintro e w1 ⟨v1, rfl, hs, hb⟩; obtain ⟨AQ, cQ, rfl⟩ := Kd.R_slice (Kd.S_R hs); have HQ := Aside0.mk (Kd.S_R hs); have HB1 := Aside0.mk hb; clear hs hb))
  gi_loopw [3, 9] (fun v3 v9 wr => ∃ i : Nat, v9 = .int .i64 (i : Int) ∧ i ≤ q.length ∧ Aside0 (Kd.R (Kd.int .i64) 3 wr w1.heap.size (fun _ => True) v3 ((q.take i).map fun s => s.f0)) ∧ Aside0 (Below w1.heap.size w1 wr)) (fun _ v9 _ => q.length - (intOf v9).toNat)
  case atStart => exact ⟨0, rfl, Nat.zero_le _, ⟨Kd.R_nil _ _ _ _ _⟩, ⟨Below.refl _ _⟩⟩
  case round =>
    obtain ⟨i, rfl, hi, HR, HW⟩ := hrel
    by_cases hlt : i < q.length
    · have t1 : decide ((i : Int) < (q.length : Int)) = true := decide_eq_true (by omega)
      obtain ⟨ad, A2, c2, hA, k0, k1, k2, _, _⟩ := at_T49 (Kd.C_below (Kd.R_reads' HQ.out).2.2 HW.out) (i : Int) (by omega) (by omega)
      subst hA
      simp only [Int.toNat_natCast] at k0 k1 k2
      have htk : ((q.take (i + 1)).map fun s => s.f0) = ((q.take i).map fun s => s.f0) ++ [(rd_T49 q (i : Int)).f0] := by rw [List.take_add_one, List.getElem?_eq_getElem hlt, List.map_append, rd32_get q i hlt]; rfl
      generalize rd_T49 q (i : Int) = s at *
      have HTK := Aside0.mk htk
      have hlen : ((q.take i).map fun s => s.f0).length = i := by rw [List.length_map, List.length_take]; omega
      generalize ((q.take i).map fun s => s.f0) = L at *
      obtain ⟨v6, w6, hrun, hr6, hg6, ho6⟩ := Ap.run_append_one (P := Try.prog) (Kd.int .i64) (W := wr.alloc (.cells #[.int .i64 s.f0, .int .i64 s.f1, .slice A2 s.f2.length c2] 49)) w1.heap.size 33 33 3 (.int .i64 0) 8 Try.underlying33 cinfo rfl (by decide) (by decide) u3 L s.f0 [.int .i64 s.f0] (fun _ => True) (fun _ => False) rfl (fun k hk => hk.elim) (fun _ _ => trivial) (Kd.R_alloc HR.out (.cells #[.int .i64 s.f0, .int .i64 s.f1, .slice A2 s.f2.length c2] 49)) (by have := HW.out.size; simp; omega) (by omega)
      rw [World.size_alloc] at hrun
      have HR6 := Aside0.mk hr6
      have HW6 := Aside0.mk (Below.grown (below_alloc HW.out (.cells #[.int .i64 s.f0, .int .i64 s.f1, .slice A2 s.f2.length c2] 49)) hg6 (by have := HW.out.size; simp; omega) (fun k hk => Kd.R_base HR.out k hk))
      clear htk hr6 hg6 ho6 hlen
      gi_wp2_with (first
        | (gi_at_builtin; refine Ap.wpListIn_append_run _ rfl _ _ _ rfl _ _ rfl rfl _ _ hrun ?_))
      exact ⟨⟨i + 1, by simp, hlt, ⟨by rw [HTK.out]; exact HR6.out⟩, HW6⟩, by simp [intOf]; omega⟩
    · obtain rfl : i = q.length := by omega
      have t1 : decide ((q.length : Int) < (q.length : Int)) = false := decide_eq_false (by omega)
      have hr := HR.out
      rw [List.take_length] at hr
      have HR2 := Aside0.mk hr
      clear hr
      gi_wp2
      go_ret
      exact ⟨_, rfl, Kd.R_lower HR2.out HB1.out.size, below_step HB1.out HW.out⟩
set_option maxRecDepth 100000 in
set_option maxHeartbeats 8000000 in
theorem clS (b : Nat) (k : Int) (i : Nat) (W : World) (hb : W.cell? ⟨b, 0, none⟩ = some (.int .i64 k)) (hk : 0 ≤ k ∧ k < 4096) (hi : i < 64) :
    Calls Try.prog 28 #[.int .i64 (i : Int), .pointer (some ⟨b, 0, none⟩)] W fun e w' => e = .returned (.bool (bitP k i)) ∧ w' = W := by
  refine (callsIn_wide (n := 1)).1 ?_
  refine callsIn_of_wp Try.func28 rfl trivial ?_ rfl
  simp only [Try.ntmps28, List.size_toArray, List.length_cons, List.length_nil, Nat.reduceAdd, Nat.reduceSub, Array.replicate_succ, Array.replicate_zero, List.push_toArray, List.append_toArray, List.nil_append, List.cons_append]
  unfold bitP
  gi_wp2
  go_ret
  refine ⟨?_, rfl⟩
  have hz := div_le k i hk.1
  show Ending.returned (Value.bool (bits BinOp.and IntKind.i64 (k / 2 ^ i) 1 == 1)) = _
  rw [and1_i _ hz.1 (by omega)]
  congr 2
set_option maxRecDepth 100000 in
set_option maxHeartbeats 8000000 in
theorem keepS (b : Nat) (k : Int) (A : Option Addr) (c : Nat) (l : List Int) (W : World) (hC : Kd.C (Kd.int .i64) W A l.length l) (hl : l.length ≤ 64) (hb : W.cell? ⟨b, 0, none⟩ = some (.int .i64 k)) (hk : 0 ≤ k ∧ k < 4096) :
    Calls Try.prog 27 #[.slice A l.length c, .func (.func 28) #[] #[.pointer (some ⟨b, 0, none⟩)]] W fun e W' => ∃ v, e = .returned v ∧ Kd.R (Kd.int .i64) 3 W' W.heap.size (fun _ => True) v (keepL (bitP k) l 0) ∧ Below W.heap.size W W' := by
  have HC := Aside0.mk hC
  have hkb := fun (W1 : World) (h1 : Below W.heap.size W W1) => (h1.cell (p := ⟨b, 0, none⟩) (World.block_lt_of_cell? W _ hb)).trans hb
  clear hC hb
  refine (callsIn_wide (n := 1)).1 ?_
  refine callsIn_of_wp Try.func27 rfl trivial ?_ rfl
  simp only [Try.ntmps27, List.size_toArray, List.length_cons, List.length_nil, Nat.reduceAdd, Nat.reduceSub, Array.replicate_succ, Array.replicate_zero, List.push_toArray, List.append_toArray, List.nil_append, List.cons_append]
  gi_wp2
  gi_loopw [5, 10] (fun v5 v10 wr => ∃ i : Nat, v10 = .int .i64 (i : Int) ∧ i ≤ l.length ∧ Aside0 (Kd.R (Kd.int .i64) 3 wr W.heap.size (fun _ => True) v5 (keepL (bitP k) (l.take i) 0)) ∧ Aside0 (Below W.heap.size W wr)) (fun _ v10 _ => l.length - (intOf v10).toNat)
  case atStart => exact ⟨0, rfl, Nat.zero_le _, ⟨Kd.R_nil _ _ _ _ _⟩, ⟨Below.refl _ _⟩⟩
  case round =>
    obtain ⟨i, rfl, hi, HR, HW⟩ := hrel
    by_cases hlt : i < l.length
    · have t1 : decide ((i : Int) < (l.length : Int)) = true := decide_eq_true (by omega)
      obtain ⟨ad, hA, hcid⟩ := at_int (Kd.C_below HC.out HW.out) i hlt
      subst hA
      have hg : l.getD i 0 = l[i] := by simp [List.getD_eq_getElem?_getD, hlt]
      rw [hg] at hcid
      have htk : keepL (bitP k) (l.take (i + 1)) 0 = keepL (bitP k) (l.take i) 0 ++ (if bitP k i = true then [l[i]] else []) := by
        rw [List.take_add_one, List.getElem?_eq_getElem hlt]
        show keepL (bitP k) (l.take i ++ [l[i]]) 0 = _
        rw [keepL_snoc, List.length_take, Nat.zero_add, Nat.min_eq_left (by omega)]
      have hlen : (keepL (bitP k) (l.take i) 0).length ≤ i := Nat.le_trans (keepL_len _ _ _) (by rw [List.length_take]; omega)
      generalize l[i] = x at *
      generalize keepL (bitP k) (l.take i) 0 = L at *
      have HTK := Aside0.mk htk
      have hcl := clS b k i wr (hkb wr HW.out) hk (by omega)
      clear htk hg
      cases hp : bitP k i with
      | true =>
        rw [hp] at hcl
        have htk := HTK.out
        rw [hp, if_pos rfl] at htk
        have HTK2 := Aside0.mk htk
        obtain ⟨v6, w6, hrun, hr6, hg6, ho6⟩ := Ap.run_append_one (P := Try.prog) (Kd.int .i64) (W := wr) W.heap.size 33 33 3 (.int .i64 0) 8 Try.underlying33 cinfo rfl (by decide) (by decide) u5 L x [.int .i64 x] (fun _ => True) (fun _ => False) rfl (fun k hk => hk.elim) (fun _ _ => trivial) HR.out HW.out.size (by omega)
        have HR6 := Aside0.mk hr6
        have HW6 := Aside0.mk (Below.grown HW.out hg6 HW.out.size (fun k hk => Kd.R_base HR.out k hk))
        clear hr6 hg6 ho6 hlen htk HTK hp
        gi_wp2_with (first
          | (refine ⟨trivial, ?_⟩; gi_at_call 28; refine (callsIn_wide.2 hcl).mono ?_; rintro e w1 ⟨rfl, hw⟩; rw [hw]; clear hw)
          | (gi_at_builtin; refine Ap.wpListIn_append_run _ rfl _ _ _ rfl _ _ rfl rfl _ _ hrun ?_))
        exact ⟨⟨i + 1, by simp, hlt, ⟨by rw [HTK2.out]; exact HR6.out⟩, HW6⟩, by simp [intOf]; omega⟩
      | false =>
        rw [hp] at hcl
        have htk := HTK.out
        rw [hp, if_neg (by decide), List.append_nil] at htk
        have HTK2 := Aside0.mk htk
        clear htk HTK hp
        gi_wp2_with (first
          | (refine ⟨trivial, ?_⟩; gi_at_call 28; refine (callsIn_wide.2 hcl).mono ?_; rintro e w1 ⟨rfl, hw⟩; rw [hw]; clear hw))
        exact ⟨⟨i + 1, by simp, hlt, ⟨by rw [HTK2.out]; exact HR.out⟩, HW⟩, by simp [intOf]; omega⟩
    · obtain rfl : i = l.length := by omega
      have t1 : decide ((l.length : Int) < (l.length : Int)) = false := decide_eq_false (by omega)
      have hr := HR.out
      rw [List.take_length] at hr
      have HR2 := Aside0.mk hr
      clear hr
      gi_wp2
      go_ret
      exact ⟨_, rfl, HR2.out, HW.out⟩
set_option maxRecDepth 100000 in
set_option maxHeartbeats 8000000 in
theorem clO (b : Nat) (k : Int) (i : Nat) (W : World) (hb : W.cell? ⟨b, 0, none⟩ = some (.int .u64 k)) (hk : 0 ≤ k ∧ k < 18446744073709551616) (hi : i < 64) :
    Calls Try.prog 30 #[.int .i64 (i : Int), .pointer (some ⟨b, 0, none⟩)] W fun e w' => e = .returned (.bool (bitP k i)) ∧ w' = W := by
  refine (callsIn_wide (n := 1)).1 ?_
  refine callsIn_of_wp Try.func30 rfl trivial ?_ rfl
  simp only [Try.ntmps30, List.size_toArray, List.length_cons, List.length_nil, Nat.reduceAdd, Nat.reduceSub, Array.replicate_succ, Array.replicate_zero, List.push_toArray, List.append_toArray, List.nil_append, List.cons_append]
  unfold bitP
  gi_wp2
  go_ret
  refine ⟨?_, rfl⟩
  have hz := div_le k i hk.1
  show Ending.returned (Value.bool (bits BinOp.and IntKind.u64 (k / 2 ^ i) 1 == 1)) = _
  rw [and1_u _ hz.1 (by omega)]
  congr 2
set_option maxRecDepth 100000 in
set_option maxHeartbeats 8000000 in
theorem keepO (b : Nat) (k : Int) (A : Option Addr) (c : Nat) (l : List Int) (W : World) (hC : Kd.C (Kd.int .i64) W A l.length l) (hl : l.length ≤ 64) (hb : W.cell? ⟨b, 0, none⟩ = some (.int .u64 k)) (hk : 0 ≤ k ∧ k < 18446744073709551616) :
    Calls Try.prog 27 #[.slice A l.length c, .func (.func 30) #[] #[.pointer (some ⟨b, 0, none⟩)]] W fun e W' => ∃ v, e = .returned v ∧ Kd.R (Kd.int .i64) 3 W' W.heap.size (fun _ => True) v (keepL (bitP k) l 0) ∧ Below W.heap.size W W' := by
  have HC := Aside0.mk hC
  have hkb := fun (W1 : World) (h1 : Below W.heap.size W W1) => (h1.cell (p := ⟨b, 0, none⟩) (World.block_lt_of_cell? W _ hb)).trans hb
  clear hC hb
  refine (callsIn_wide (n := 1)).1 ?_
  refine callsIn_of_wp Try.func27 rfl trivial ?_ rfl
  simp only [Try.ntmps27, List.size_toArray, List.length_cons, List.length_nil, Nat.reduceAdd, Nat.reduceSub, Array.replicate_succ, Array.replicate_zero, List.push_toArray, List.append_toArray, List.nil_append, List.cons_append]
  gi_wp2
  gi_loopw [5, 10] (fun v5 v10 wr => ∃ i : Nat, v10 = .int .i64 (i : Int) ∧ i ≤ l.length ∧ Aside0 (Kd.R (Kd.int .i64) 3 wr W.heap.size (fun _ => True) v5 (keepL (bitP k) (l.take i) 0)) ∧ Aside0 (Below W.heap.size W wr)) (fun _ v10 _ => l.length - (intOf v10).toNat)
  case atStart => exact ⟨0, rfl, Nat.zero_le _, ⟨Kd.R_nil _ _ _ _ _⟩, ⟨Below.refl _ _⟩⟩
  case round =>
    obtain ⟨i, rfl, hi, HR, HW⟩ := hrel
    by_cases hlt : i < l.length
    · have t1 : decide ((i : Int) < (l.length : Int)) = true := decide_eq_true (by omega)
      obtain ⟨ad, hA, hcid⟩ := at_int (Kd.C_below HC.out HW.out) i hlt
      subst hA
      have hg : l.getD i 0 = l[i] := by simp [List.getD_eq_getElem?_getD, hlt]
      rw [hg] at hcid
      have htk : keepL (bitP k) (l.take (i + 1)) 0 = keepL (bitP k) (l.take i) 0 ++ (if bitP k i = true then [l[i]] else []) := by
        rw [List.take_add_one, List.getElem?_eq_getElem hlt]
        show keepL (bitP k) (l.take i ++ [l[i]]) 0 = _
        rw [keepL_snoc, List.length_take, Nat.zero_add, Nat.min_eq_left (by omega)]
      have hlen : (keepL (bitP k) (l.take i) 0).length ≤ i := Nat.le_trans (keepL_len _ _ _) (by rw [List.length_take]; omega)
      generalize l[i] = x at *
      generalize keepL (bitP k) (l.take i) 0 = L at *
      have HTK := Aside0.mk htk
      have hcl := clO b k i wr (hkb wr HW.out) hk (by omega)
      clear htk hg
      cases hp : bitP k i with
      | true =>
        rw [hp] at hcl
        have htk := HTK.out
        rw [hp, if_pos rfl] at htk
        have HTK2 := Aside0.mk htk
        obtain ⟨v6, w6, hrun, hr6, hg6, ho6⟩ := Ap.run_append_one (P := Try.prog) (Kd.int .i64) (W := wr) W.heap.size 33 33 3 (.int .i64 0) 8 Try.underlying33 cinfo rfl (by decide) (by decide) u5 L x [.int .i64 x] (fun _ => True) (fun _ => False) rfl (fun k hk => hk.elim) (fun _ _ => trivial) HR.out HW.out.size (by omega)
        have HR6 := Aside0.mk hr6
        have HW6 := Aside0.mk (Below.grown HW.out hg6 HW.out.size (fun k hk => Kd.R_base HR.out k hk))
        clear hr6 hg6 ho6 hlen htk HTK hp
        gi_wp2_with (first
          | (refine ⟨trivial, ?_⟩; gi_at_call 30; refine (callsIn_wide.2 hcl).mono ?_; rintro e w1 ⟨rfl, hw⟩; rw [hw]; clear hw)
          | (gi_at_builtin; refine Ap.wpListIn_append_run _ rfl _ _ _ rfl _ _ rfl rfl _ _ hrun ?_))
        exact ⟨⟨i + 1, by simp, hlt, ⟨by rw [HTK2.out]; exact HR6.out⟩, HW6⟩, by simp [intOf]; omega⟩
      | false =>
        rw [hp] at hcl
        have htk := HTK.out
        rw [hp, if_neg (by decide), List.append_nil] at htk
        have HTK2 := Aside0.mk htk
        clear htk HTK hp
        gi_wp2_with (first
          | (refine ⟨trivial, ?_⟩; gi_at_call 30; refine (callsIn_wide.2 hcl).mono ?_; rintro e w1 ⟨rfl, hw⟩; rw [hw]; clear hw))
        exact ⟨⟨i + 1, by simp, hlt, ⟨by rw [HTK2.out]; exact HR.out⟩, HW⟩, by simp [intOf]; omega⟩
    · obtain rfl : i = l.length := by omega
      have t1 : decide ((l.length : Int) < (l.length : Int)) = false := decide_eq_false (by omega)
      have hr := HR.out
      rw [List.take_length] at hr
      have HR2 := Aside0.mk hr
      clear hr
      gi_wp2
      go_ret
      exact ⟨_, rfl, HR2.out, HW.out⟩
/-- How many sets there are. -/
def cntS (n : Nat) (most : Int) : Nat := min most.toNat (2 ^ n)
theorem sets_f (n : Nat) (most : Int) (hn : n < 12) (hm : 0 ≤ most ∧ most ≤ 4096) : crash_sets.f (n : Int) most = some (cntS n most : Int) := by
  unfold crash_sets.f
  rw [if_pos (by omega), if_pos (by omega)]
  have h2 : (2 : Nat) ^ n ≤ 2048 := Nat.le_trans (Nat.pow_le_pow_right (by decide) (show n ≤ 11 by omega)) (by decide)
  have h3 : shl .i64 1 (n : Int) = ((2 ^ n : Nat) : Int) := by
    unfold shl
    rw [Int.toNat_natCast, Nat.min_eq_left (show n ≤ IntKind.i64.bits by simp [IntKind.bits]; omega), Int.one_mul, IntKind.wrap_i64]
    have h4 : ((2 : Int) ^ n) = ((2 ^ n : Nat) : Int) := by simp
    rw [h4]
    generalize (2 : Nat) ^ n = z at *
    omega
  rw [h3]
  unfold cntS
  generalize (2 : Nat) ^ n = z at *
  congr 1
  unfold mx mn
  split <;> split <;> omega
def setsL (I : List Int) (k : Nat) : List (List Int) := (List.range k).map (fun (j : Nat) => keepL (bitP (j : Int)) I 0)
theorem setsL_succ (I : List Int) (k : Nat) : setsL I (k + 1) = setsL I k ++ [keepL (bitP (k : Int)) I 0] := by
  unfold setsL
  rw [List.range_succ, List.map_append]
  rfl
theorem setsL_len (I : List Int) (k : Nat) : (setsL I k).length = k := by unfold setsL; simp
set_option maxRecDepth 100000 in
set_option maxHeartbeats 8000000 in
theorem sets_ok {W : World} {base D m : Nat} {S : Nat → Prop} {bl : List (List Int)} {q : List S49} {mo : Obj} {last : Int} (h : IsDk W base D m S bl q mo last) (most : Int) (hm : 0 ≤ most ∧ most ≤ 4096) (hq : q.length < 12) :
    Calls Try.prog 6 #[.pointer (some ⟨D, 0, none⟩), .int .i64 most] W fun e W' => ∃ v, e = .returned v ∧ Kd.R (Kd.slice 3 (Kd.int .i64)) 33 W' W.heap.size (fun _ => True) v (setsL (q.map fun s => s.f0) (cntS q.length most)) ∧ Below W.heap.size W W' := by
  have H := Aside0.mk h
  have hbl := h.fits.some
  have t0 : ((bl.length : Int) == 0) = false := by rw [beq_eq_false_iff_ne]; omega
  have HS := Aside0.mk (sets_f q.length most hq hm)
  have hcm : cntS q.length most ≤ 4096 := by unfold cntS; omega
  obtain ⟨I, hI⟩ : ∃ I, (q.map fun s => s.f0) = I := ⟨_, rfl⟩
  have hIl : I.length = q.length := by rw [← hI, List.length_map]
  have hids := ids_ok h
  rw [hI] at hids ⊢
  rw [← hIl] at HS hcm hq ⊢
  obtain ⟨cnt, hcnt⟩ : ∃ c, cntS I.length most = c := ⟨_, rfl⟩
  rw [hcnt] at HS hcm ⊢
  clear hcnt
  have HIDS := Aside0.mk hids
  clear h hI hids hIl
  refine (callsIn_wide (n := 1)).1 ?_
  refine callsIn_of_wp Try.func6 rfl trivial ?_ rfl
  simp only [Try.ntmps6, List.size_toArray, List.length_cons, List.length_nil, Nat.reduceAdd, Nat.reduceSub, Array.replicate_succ, Array.replicate_zero, List.push_toArray, List.append_toArray, List.nil_append, List.cons_append]
  gi_wp2_with (first
    | (refine ⟨trivial, ?_⟩; gi_at_call 24; refine (callsIn_wide.2 (blocks_ok H.out)).mono ?_; rintro e w0 ⟨rfl, hw⟩; rw [hw]; clear hw)
    | (refine ⟨trivial, ?_⟩; gi_at_call 25; refine (callsIn_wide.2 (HIDS.out)).mono ?_; rintro e w1 ⟨v1, rfl, hr, hb⟩; obtain ⟨AI, cI, rfl⟩ := Kd.R_slice hr; have HI := Aside0.mk hr; have HB1 := Aside0.mk hb; clear hr hb)
    | (refine ⟨trivial, ?_⟩; gi_at_call 26; refine (callsIn_wide.2 (crash_sets.calls (I.length : Int) most _ _ HS.out)).mono ?_; rintro e w2 ⟨rfl, hb⟩; have HI2 := Aside0.mk (Kd.R_below HI.out hb); have HB2 := Aside0.mk (below_step HB1.out hb); clear hb))
  gi_loopw [6, 17] (fun v6 v17 wr => ∃ k : Nat, v17 = .int .i64 (k : Int) ∧ k ≤ cnt ∧ Aside0 (Kd.R (Kd.slice 3 (Kd.int .i64)) 33 wr w2.heap.size (fun _ => True) v6 (setsL I k)) ∧ Aside0 (Below w2.heap.size w2 wr)) (fun _ v17 _ => cnt - (intOf v17).toNat)
  case atStart => exact ⟨0, rfl, Nat.zero_le _, ⟨Kd.R_nil _ _ _ _ _⟩, ⟨Below.refl _ _⟩⟩
  case round =>
    obtain ⟨k, rfl, hk, HR, HW⟩ := hrel
    by_cases hlt : k < cnt
    · have t1 : decide ((k : Int) < (cnt : Int)) = true := decide_eq_true (by omega)
      have hb0 := below_alloc (Below.refl wr.heap.size wr) (.cells #[.int .i64 (k : Int)] 3)
      have hcb : (wr.alloc (.cells #[.int .i64 (k : Int)] 3)).cell? ⟨wr.heap.size, 0, none⟩ = some (.int .i64 (k : Int)) := by have h := World.alloc_heap_new wr (.cells #[.int .i64 (k : Int)] 3); simp only [World.cell?, h]; rfl
      have hkp := keepS wr.heap.size (k : Int) AI cI I (wr.alloc (.cells #[.int .i64 (k : Int)] 3)) (Kd.C_below (Kd.R_reads' HI2.out).2.2 (HW.out.trans (below_base HW.out.size hb0))) (by omega) hcb (by omega)
      have HB0 := Aside0.mk hb0
      have HSL := Aside0.mk (setsL_len I k)
      clear hb0 hcb
      gi_wp2_with (first
        | (refine ⟨trivial, ?_⟩; gi_at_call 27; refine (callsIn_wide.2 hkp).mono ?_; rintro e w3 ⟨v3, rfl, hr, hb⟩; obtain ⟨A3, c3, rfl⟩ := Kd.R_slice hr; obtain ⟨L3, hL3⟩ : ∃ L3, keepL (bitP (k : Int)) I 0 = L3 := ⟨_, rfl⟩; rw [hL3] at hr ⊢; have HL3 := Aside0.mk hL3; have hb3 := below_step HB0.out hb; obtain ⟨v6, w6, hrun, hr6, hg6, ho6⟩ := Ap.run_append_one (P := Try.prog) (Kd.slice 3 (Kd.int .i64)) (W := w3) w2.heap.size 29 29 33 (.slice none 0 0) 24 Try.underlying29 cinfos rfl (by decide) (by decide) u6 (setsL I k) L3 [.slice A3 L3.length c3] (fun _ => True) (fun z => (wr.alloc (.cells #[.int .i64 (k : Int)] 3)).heap.size ≤ z) ⟨_, rfl, Kd.R_lower (Kd.R_mono (Kd.R_bound hr) (fun k hk => hk.2.1)) (Nat.le_trans HW.out.size HB0.out.size)⟩ (fun z hz => ⟨trivial, fun e => by have h1 := Kd.R_lt HR.out z e.symm; have h2 := HB0.out.size; omega⟩) (fun _ _ => trivial) (Kd.R_below HR.out hb3) (by have h1 := HW.out.size; have h2 := hb3.size; omega) (by rw [HSL.out]; omega); have HR6 := Aside0.mk hr6; have HW6 := Aside0.mk (Below.grown (below_step HW.out hb3) hg6 (by have h1 := HW.out.size; have h2 := hb3.size; omega) (fun k hk => Kd.R_base HR.out k hk)); clear hr hb hb3 hr6 hg6 ho6 hkp hL3)
        | (gi_at_builtin; refine Ap.wpListIn_append_run _ rfl _ _ _ rfl _ _ rfl rfl _ _ hrun ?_))
      exact ⟨⟨k + 1, by simp, hlt, ⟨by rw [setsL_succ, HL3.out]; exact HR6.out⟩, HW6⟩, by simp [intOf]; omega⟩
    · obtain rfl : k = cnt := by omega
      have t1 : decide ((k : Int) < (k : Int)) = false := decide_eq_false (by omega)
      gi_wp2
      go_ret
      exact ⟨u6, rfl, Kd.R_lower HR.out HB2.out.size, below_step HB2.out HW.out⟩
set_option maxRecDepth 100000 in
set_option maxHeartbeats 8000000 in
theorem of_ok {W : World} {base D m : Nat} {S : Nat → Prop} {bl : List (List Int)} {q : List S49} {mo : Obj} {last : Int} (h : IsDk W base D m S bl q mo last) (mask : Int) (hm : 0 ≤ mask ∧ mask < 18446744073709551616) :
    Calls Try.prog 9 #[.pointer (some ⟨D, 0, none⟩), .int .u64 mask] W fun e W' => ∃ v, e = .returned v ∧ Kd.R (Kd.int .i64) 3 W' W.heap.size (fun _ => True) v (keepL (bitP mask) (q.map fun s => s.f0) 0) ∧ Below W.heap.size W W' := by
  have hb0 := below_alloc (Below.refl W.heap.size W) (.cells #[.int .u64 mask] 36)
  have hcb := World.alloc_heap_new W (.cells #[.int .u64 mask] 36)
  have hzl : W.heap.size < (W.alloc (.cells #[.int .u64 mask] 36)).heap.size := by simp
  obtain ⟨I, hI⟩ : ∃ I, (q.map fun s => s.f0) = I := ⟨_, rfl⟩
  have hIl : I.length ≤ 64 := by rw [← hI, List.length_map]; exact h.fits.queue
  have hids := ids_ok (h.below hb0)
  rw [hI] at hids ⊢
  have HIDS := Aside0.mk hids
  have HB0 := Aside0.mk hb0
  have HCB := Aside0.mk hcb
  clear h hI hids hb0 hcb
  refine (callsIn_wide (n := 1)).1 ?_
  refine callsIn_of_wp Try.func9 rfl trivial ?_ rfl
  simp only [Try.ntmps9, List.size_toArray, List.length_cons, List.length_nil, Nat.reduceAdd, Nat.reduceSub, Array.replicate_succ, Array.replicate_zero, List.push_toArray, List.append_toArray, List.nil_append, List.cons_append]
  gi_wp2_with (first
    | (refine ⟨trivial, ?_⟩; gi_at_call 25; refine (callsIn_wide.2 (HIDS.out)).mono ?_; rintro e w1 ⟨v1, rfl, hr, hb⟩; obtain ⟨AI, cI, rfl⟩ := Kd.R_slice hr; have HI := Aside0.mk hr; have HB1 := Aside0.mk (below_step HB0.out hb); have hcc : w1.cell? ⟨W.heap.size, 0, none⟩ = some (.int .u64 mask) := (by simp [World.cell?, (hb.block _ hzl).trans HCB.out]); clear hr hb)
    | (refine ⟨trivial, ?_⟩; gi_at_call 27; refine (callsIn_wide.2 (keepO W.heap.size mask AI cI I w1 (Kd.R_reads' HI.out).2.2 hIl hcc hm)).mono ?_; rintro e w2 ⟨v2, rfl, hr, hb⟩; have HR := Aside0.mk hr; have HB2 := Aside0.mk (below_step HB1.out hb); have HS1 := Aside0.mk HB1.out.size; clear hr hb))
  go_ret
  exact ⟨_, rfl, Kd.R_lower HR.out HS1.out, HB2.out⟩
end Go.Proofs.Ytlkijnnoalfblaa.Dk
