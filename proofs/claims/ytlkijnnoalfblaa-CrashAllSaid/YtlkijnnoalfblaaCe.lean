/- Written by a program of this session. CrashEach: each set of a queue is there once, and Of tells the one of its number. -/
import Derived.Test.YtlkijnnoalfblaaCd
import Derived.Test.YtlkijnnoalfblaaOpW
namespace Go.Proofs.Ytlkijnnoalfblaa.Dk
open Go Go.RowKit Go.Shelf Go.Proofs Go.Maps Go.Proofs.Ytlkijnnoalfblaa.Sp Go.Proofs.Ytlkijnnoalfblaa.XFb Go.Proofs.YtlkijnnoalfblaaW.PrintWords Go.Proofs.YtlkijnnoalfblaaW.PrintLast Go.Proofs.YtlkijnnoalfblaaW.PrintMore
set_option linter.unusedVariables false
set_option linter.unusedSimpArgs false
theorem keepL_sub (p : Nat → Bool) : ∀ (l : List Int) (i : Nat), ∀ x ∈ keepL p l i, x ∈ l
  | [], _, x, h => by cases h
  | y :: r, i, x, h => by
    unfold keepL at h
    split at h
    · rcases List.mem_cons.1 h with rfl | h
      · exact List.mem_cons_self ..
      · exact List.mem_cons_of_mem _ (keepL_sub p r _ x h)
    · exact List.mem_cons_of_mem _ (keepL_sub p r _ x h)
theorem keep_inj (p q : Nat → Bool) : ∀ (l : List Int) (i : Nat), l.Nodup → keepL p l i = keepL q l i → ∀ j, j < l.length → p (i + j) = q (i + j)
  | [], _, _, _, j, hj => by cases hj
  | x :: r, i, hn, h, j, hj => by
    rw [List.nodup_cons] at hn
    unfold keepL at h
    have key : p i = q i ∧ keepL p r (i + 1) = keepL q r (i + 1) := by
      cases hp : p i <;> cases hq : q i <;> rw [hp, hq] at h <;> simp at h
      · exact ⟨rfl, h⟩
      · exact absurd (keepL_sub p r (i + 1) x (by rw [h]; exact List.mem_cons_self ..)) hn.1
      · exact absurd (keepL_sub q r (i + 1) x (by rw [← h]; exact List.mem_cons_self ..)) hn.1
      · exact ⟨rfl, h⟩
    cases j with
    | zero => exact key.1
    | succ j =>
      have := keep_inj p q r (i + 1) hn.2 key.2 j (by simpa using hj)
      rwa [show i + 1 + j = i + (j + 1) by omega] at this
theorem bit_half (k : Int) (j : Nat) : bitP (k / 2) j = bitP k (j + 1) := by
  unfold bitP
  rw [Int.ediv_ediv_of_nonneg (by decide), show (2 : Int) * 2 ^ j = 2 ^ (j + 1) by rw [Int.pow_succ]; exact Int.mul_comm _ _]
theorem bits_inj : ∀ (n : Nat) (k t : Int), 0 ≤ k → k < 2 ^ n → 0 ≤ t → t < 2 ^ n → (∀ j, j < n → bitP k j = bitP t j) → k = t
  | 0, k, t, h1, h2, h3, h4, _ => by simp at h2 h4; omega
  | n + 1, k, t, h1, h2, h3, h4, h => by
    rw [Int.pow_succ] at h2 h4
    have h0 := h 0 (by omega)
    unfold bitP at h0
    simp only [Int.pow_zero, Int.ediv_one, decide_eq_decide] at h0
    have hh := bits_inj n (k / 2) (t / 2) (by omega) (by omega) (by omega) (by omega) (fun j hj => by rw [bit_half, bit_half]; exact h (j + 1) (by omega))
    omega
theorem sets_apart {I : List Int} (hn : I.Nodup) {k t : Nat} (hk : k < 2 ^ I.length) (ht : t < k) : keepL (bitP (k : Int)) I 0 ≠ keepL (bitP (t : Int)) I 0 := fun h => by
  have hb := keep_inj _ _ I 0 hn h
  have e2 : ((2 : Int) ^ I.length) = ((2 ^ I.length : Nat) : Int) := by simp
  have := bits_inj I.length (k : Int) (t : Int) (by omega) (by rw [e2]; omega) (by omega) (by rw [e2]; omega) (fun j hj => by have := hb j hj; rwa [Nat.zero_add] at this)
  omega
theorem eqi_any (l m : List Int) (hm : l.length = m.length) (hl : l.length ≤ 140737488355328) (d : Nat) : ∀ (k i : Nat), i + d = l.length → d < k → slices_Equal_int_int.l0 k l m (l.length : Int) (i : Int) = some (decide (l.drop i = m.drop i)) := by
  induction d with
  | zero =>
    intro k i hi hk
    obtain ⟨k, rfl⟩ : ∃ m, k = m + 1 := ⟨k - 1, by omega⟩
    simp only [slices_Equal_int_int.l0]
    rw [if_neg (by omega), List.drop_eq_nil_of_le (by omega), List.drop_eq_nil_of_le (by omega)]
    simp
  | succ d ih =>
    intro k i hi hk
    obtain ⟨k, rfl⟩ : ∃ m, k = m + 1 := ⟨k - 1, by omega⟩
    simp only [slices_Equal_int_int.l0]
    have hil : i < l.length := by omega
    have him : i < m.length := by omega
    rw [if_pos (by omega), if_pos (by omega), if_pos (by omega), if_pos (by omega), List.drop_eq_getElem_cons hil, List.drop_eq_getElem_cons him, show rd l (i : Int) = l[i] by simp [rd, List.getD_eq_getElem?_getD, hil], show rd m (i : Int) = m[i] by simp [rd, List.getD_eq_getElem?_getD, him]]
    by_cases he : l[i] = m[i]
    · rw [if_pos he, show wrap64 ((i : Int) + 1) = ((i + 1 : Nat) : Int) by unfold wrap64; omega, ih k (i + 1) (by omega) (by omega), he]
      congr 1
      exact decide_eq_decide.2 ⟨fun e => by rw [e], fun e => (List.cons.inj e).2⟩
    · rw [if_neg he]
      congr 1
      exact (decide_eq_false (fun e => he (List.cons.inj e).1)).symm
theorem eqi_dec (l m : List Int) (hl : l.length ≤ 140737488355328) (k : Nat) (hk : l.length < k) : slices_Equal_int_int.f k l m = some (decide (l = m)) := by
  unfold slices_Equal_int_int.f
  by_cases hm : l.length = m.length
  · rw [if_pos (by omega)]
    have := eqi_any l m hm hl l.length k 0 (by omega) hk
    simpa using this
  · rw [if_neg (by omega)]
    have : l ≠ m := fun e => hm (by rw [e])
    simp [this]
theorem at_irows {w : World} {A : Option Addr} {n : Nat} {xs : List (List Int)} (h : Kd.C (Kd.slice 3 (Kd.int .i64)) w A n xs) (i : Nat) (h1 : i < n) : ∃ ad A0 c0, A = some ad ∧ w.cell? (ad.add i) = some (.slice A0 (xs.getD i []).length c0) ∧ (xs.getD i []).length ≤ c0 ∧ (Kd.int .i64).C w A0 (xs.getD i []).length (xs.getD i []) := by
  obtain ⟨ad, c, e, _, hK, hc0⟩ := Kd.C_get h ([] : List Int) (i : Int) (by omega) (by omega)
  rw [Int.toNat_natCast] at hK hc0
  have hc : ∀ j u, c[j]? = some u → w.cell? (ad.add (i * 1 + j)) = some u := hc0
  obtain ⟨A0, c0, rfl, l0, g0⟩ := hK
  exact ⟨ad, A0, c0, e, by have hq := hc 0 _ rfl; rwa [Nat.mul_one, Nat.add_zero] at hq, l0, g0⟩
theorem setsL_get (I : List Int) (n k : Nat) (h : k < n) : (setsL I n).getD k [] = keepL (bitP (k : Int)) I 0 := by
  unfold setsL
  simp [List.getD_eq_getElem?_getD, h]
theorem modU (n : Int) (k : Nat) (h1 : 1 ≤ k) (h2 : k ≤ 2048) : ∃ b : Int, wrap64 ((IntKind.u64.wrap n).tmod (k : Int)) = b ∧ 0 ≤ b ∧ b < k := by
  rw [u64_w, Int.tmod_eq_emod_of_nonneg (by omega)]
  have h3 := Int.emod_nonneg (n % 18446744073709551616) (show (k : Int) ≠ 0 by omega)
  have h4 := Int.emod_lt_of_pos (n % 18446744073709551616) (show (0 : Int) < k by omega)
  generalize n % 18446744073709551616 % (k : Int) = z at *
  exact ⟨z, IntWalk.wrap64_in _ (by omega), h3, h4⟩
attribute [local go_sem] max2_int min2_int max_two min_two max_three min_three max_four min_four
set_option maxRecDepth 100000 in
set_option maxHeartbeats 8000000 in
theorem CrashEach_walk (A0 : Option Addr) (c0 : Nat) (xs : List (List Int)) (A : Option Addr) (c : Nat) (l : List DoC) (most : Int) (w : World) (hC0 : Kd.C (Kd.slice 5 (Kd.int .u8)) w A0 xs.length xs) (hc0 : xs.length ≤ c0) (hx0 : ∀ x ∈ xs, x.length ≤ 140737488351232) (hl0 : xs.length < 5864062014805)
    (hC : Kd.C kDoC w A l.length l) (hc : l.length ≤ c) (hl : l.length ≤ 1000000000000000) :
    Calls Try.prog 3 #[.slice A0 xs.length c0, .slice A l.length c, .int .i64 most] w fun e w' => e = .returned (.bool true) ∧ Below w.heap.size w w' := by
  obtain ⟨n6, hn6⟩ : ∃ n6, min l.length 6 = n6 := ⟨_, rfl⟩
  have hle6 : n6 ≤ 6 := by omega
  have hlel : n6 ≤ l.length := by omega
  have hlec : n6 ≤ c := by omega
  have hmin : (if (6 : Int) < (l.length : Int) then (6 : Int) else (l.length : Int)) = (n6 : Int) := by split <;> omega
  have hl6 : (l.take n6).length = n6 := by rw [List.length_take]; omega
  have hbo := both_ok A0 c0 xs A c (l.take n6) w hC0 hc0 hx0 hl0 (by rw [hl6]; exact C_pre hC n6 hlel) (by omega)
  rw [hl6] at hbo
  have HBO := Aside0.mk hbo
  clear hC0 hC hx0 hl6 hbo hn6
  obtain ⟨mm, em, hm0, hm1⟩ := modU most 70 (by decide) (by decide)
  have em' : wrap64 ((IntKind.u64.wrap most).tmod 70) = mm := em
  clear em
  refine (callsIn_wide (n := 1)).1 ?_
  refine callsIn_of_wp Try.func3 rfl trivial ?_ rfl
  simp only [Try.ntmps3, List.size_toArray, List.length_cons, List.length_nil, Nat.reduceAdd, Nat.reduceSub, Array.replicate_succ, Array.replicate_zero, List.push_toArray, List.append_toArray, List.nil_append, List.cons_append]
  gi_wp2
  refine ⟨trivial, ?_⟩
  gi_at_call 5
  refine (callsIn_wide.2 HBO.out).mono ?_
  rintro e w1 ⟨hb, rfl | ⟨D, X, m, S, q, last, FL, base, rfl, hd, hnd, hql, hbase⟩⟩
  · have HB := Aside0.mk hb
    clear hb
    gi_wp2
    go_ret
    exact ⟨rfl, HB.out⟩
  · have HB1 := Aside0.mk hb
    obtain ⟨mo, hdk⟩ := hd.dk
    have HD := Aside0.mk hdk
    have HND := Aside0.mk hnd
    have hq6 : q.length ≤ 6 := by omega
    clear hb hd hdk hnd hql HBO
    obtain ⟨I, hI⟩ : ∃ I, (q.map fun s => s.f0) = I := ⟨_, rfl⟩
    have hIl : I.length = q.length := by rw [← hI, List.length_map]
    have hsets := sets_ok HD.out mm ⟨hm0, by omega⟩ (by omega)
    rw [hI] at hsets
    obtain ⟨cnt, hcnt⟩ : ∃ n, cntS q.length mm = n := ⟨_, rfl⟩
    rw [hcnt] at hsets
    have HSETS := Aside0.mk hsets
    have hp64 : (2 : Nat) ^ q.length ≤ 64 := Nat.le_trans (Nat.pow_le_pow_right (by decide) hq6) (by decide)
    have hc70 : cnt ≤ 64 := by rw [← hcnt]; unfold cntS; omega
    have HCNT := Aside0.mk (show cnt ≤ 2 ^ I.length by rw [← hcnt, hIl]; unfold cntS; omega)
    have HNDI := Aside0.mk (show I.Nodup by rw [← hI]; exact HND.out)
    have HOF := Aside0.mk (fun (W : World) (hb : Below w1.heap.size w1 W) (mask : Int) (hm : 0 ≤ mask ∧ mask < 18446744073709551616) => (by have h1 := of_ok (HD.out.below hb) mask hm; rw [hI] at h1; exact h1 : Calls Try.prog 9 #[.pointer (some ⟨D, 0, none⟩), .int .u64 mask] W fun e W' => ∃ v, e = .returned v ∧ Kd.R (Kd.int .i64) 3 W' W.heap.size (fun _ => True) v (keepL (bitP mask) I 0) ∧ Below W.heap.size W W'))
    have hIl6 : I.length ≤ 6 := by omega
    have HLEN := Aside0.mk (setsL_len I cnt)
    obtain ⟨P, hP⟩ : ∃ P : Nat, 2 ^ q.length = P := ⟨_, rfl⟩
    rw [hP] at hp64
    have hmn : (if (P : Int) < mm then (P : Int) else mm) = (cnt : Int) := by
      rw [← hcnt]
      unfold cntS
      rw [hP]
      clear em' hP hcnt
      split <;> omega
    have hpw : wrap64 ((2 : Int) ^ q.length) = (P : Int) := by
      have e2 : ((2 : Int) ^ q.length) = (P : Int) := by rw [← hP]; simp
      rw [e2, IntWalk.wrap64_in _ (by clear em' hP hcnt e2; omega)]
    have HPW := Aside0.mk hpw
    have HMN := Aside0.mk hmn
    clear hsets hI hIl hcnt hP hp64 hpw hmn hmin
    gi_wp2_with (first
      | (refine ⟨trivial, ?_⟩; gi_at_call 6; refine (callsIn_wide.2 (HSETS.out)).mono ?_; rintro e w2 ⟨v2, rfl, hr, hb⟩; obtain ⟨AS, cS, hv2⟩ := Kd.R_slice hr; rw [HLEN.out] at hv2; subst hv2; have HR2 := Aside0.mk hr; have HB2 := Aside0.mk hb; clear hr hb)
      | (refine ⟨trivial, ?_⟩; gi_at_call 7; refine (callsIn_wide.2 (queue_ok (HD.out.below HB2.out))).mono ?_; rintro e w3 ⟨v3, rfl, hs, hb⟩; obtain ⟨AQ, cQ, rfl⟩ := Kd.R_slice (Kd.S_R hs); have HB3 := Aside0.mk (below_step HB2.out hb); have HR3 := Aside0.mk (Kd.R_below HR2.out hb); clear hs hb em'; have hpw := HPW.out; have hmn := HMN.out))
    clear HPW HMN HSETS hpw hmn
    have hcS : cnt ≤ cS := (Kd.R_reads' HR3.out).2.1
    have HCS := Aside0.mk (Kd.R_reads' HR3.out).2.2
    have HWW := Aside0.mk (below_step HB1.out HB3.out)
    gi_loopw [51] (fun v51 wr => ∃ k : Nat, v51 = .int .i64 (k : Int) ∧ k ≤ cnt ∧ Aside0 (Below w3.heap.size w3 wr)) (fun v51 _ => cnt - (intOf v51).toNat)
    case atStart => exact ⟨0, rfl, Nat.zero_le _, ⟨Below.refl _ _⟩⟩
    case round =>
      obtain ⟨k, rfl, hk, HW⟩ := hrel
      by_cases hlt : k < cnt
      · have t1 : decide ((k : Int) < (cnt : Int)) = true := decide_eq_true (by omega)
        obtain ⟨ad, Ak, ck, hA, k00, lk, gk⟩ := at_irows HCS.out k (by rw [HLEN.out]; exact hlt)
        rw [setsL_get I cnt k hlt] at k00 lk gk
        subst hA
        have k0 := (HW.out.cell (World.block_lt_of_cell? w3 _ k00)).trans k00
        clear k00
        obtain ⟨s, hs⟩ : ∃ s, keepL (bitP (k : Int)) I 0 = s := ⟨_, rfl⟩
        have hsl : s.length ≤ 6 := by have := keepL_len (bitP (k : Int)) I 0; rw [hs] at this; omega
        rw [hs] at k0 lk gk
        have hof := HOF.out wr (below_step HB3.out HW.out) (k : Int) (by omega)
        rw [hs] at hof
        have HGK := Aside0.mk gk
        have HS := Aside0.mk hs
        have hku : IntKind.u64.wrap (k : Int) = (k : Int) := by rw [u64_w]; omega
        have hkS : k ≤ cS := by omega
        clear gk hs
        gi_wp2_with (first
          | (refine ⟨trivial, ?_⟩; gi_at_call 9; refine (callsIn_wide.2 hof).mono ?_; rintro e w5 ⟨v5, rfl, hr, hb⟩; obtain ⟨A5, c5, rfl⟩ := Kd.R_slice hr; have HR5 := Aside0.mk hr; have HW5 := Aside0.mk (below_step HW.out hb); have HGK5 := Aside0.mk (Kd.C_below HGK.out HW5.out); have heq := slices_Equal_int_int.calls (s.length + 1) Ak ck s A5 c5 s true w5 HGK5.out lk (Kd.R_reads' HR5.out).2.2 (Kd.R_reads' HR5.out).2.1 (by rw [eqi_dec s s (by omega) _ (Nat.lt_succ_self _)]; simp); clear hr hb hof)
          | (refine ⟨trivial, ?_⟩; gi_at_call 8; refine (callsIn_wide.2 heq).mono ?_; rintro e w6 ⟨rfl, hd⟩; have HW6 := Aside0.mk (below_drawn HW5.out hd); clear hd heq))
        gi_loopw [67] (fun v67 wr2 => ∃ t : Nat, v67 = .int .i64 (t : Int) ∧ t ≤ k ∧ Aside0 (Below w3.heap.size w3 wr2)) (fun v67 _ => k - (intOf v67).toNat)
        case atStart => exact ⟨0, rfl, Nat.zero_le _, HW6⟩
        case round =>
          rename World => wz
          obtain ⟨t, rfl, ht, HT⟩ := hrel
          by_cases hlt2 : t < k
          · have t3 : decide ((t : Int) < (k : Int)) = true := decide_eq_true (by omega)
            obtain ⟨ad2, At, ct, hA2, m0, lt, gt⟩ := at_irows (Kd.C_below HCS.out HT.out) t (by rw [HLEN.out]; omega)
            rw [setsL_get I cnt t (by omega)] at m0 lt gt
            injection hA2 with hA2
            subst hA2
            have hne : s ≠ keepL (bitP (t : Int)) I 0 := by rw [← HS.out]; exact sets_apart HNDI.out (Nat.lt_of_lt_of_le hlt HCNT.out) hlt2
            generalize keepL (bitP (t : Int)) I 0 = s2 at *
            have hkk : Kd.C (Kd.int .i64) wz Ak s.length s := Kd.C_below HGK.out HT.out
            have heq2 := slices_Equal_int_int.calls (s.length + 1) Ak ck s At ct s2 false wz hkk lk gt lt (by rw [eqi_dec s s2 (by omega) _ (Nat.lt_succ_self _)]; simp [hne])
            clear hkk gt hne
            gi_wp2_with (first
              | (refine ⟨trivial, ?_⟩; gi_at_call 8; refine (callsIn_wide.2 heq2).mono ?_; rintro e w7 ⟨rfl, hd⟩; have HT7 := Aside0.mk (below_drawn HT.out hd); clear hd heq2))
            exact ⟨⟨t + 1, by simp, hlt2, HT7⟩, by simp [intOf]; omega⟩
          · obtain rfl : t = k := by omega
            have t3 : decide ((t : Int) < (t : Int)) = false := decide_eq_false (by omega)
            gi_wp2
            exact ⟨⟨t + 1, by simp, hlt, HT⟩, by simp [intOf]; omega⟩
      · obtain rfl : k = cnt := by omega
        have t1 : decide ((k : Int) < (k : Int)) = false := decide_eq_false (by omega)
        gi_wp2
        go_ret
        exact ⟨rfl, below_step HWW.out HW.out⟩
theorem opensW_DoC : Open.OpensW Try.prog kDoC (fun x : DoC => (Lit.int .i64 x.1).wf = true ∧ (∀ y ∈ x.2, (Lit.int .u8 y).wf = true) ∧ x.2.length * 1 ≤ 140737488351232) 58 :=
  Open.opensW_struct Try.underlying58 (by kernel_rfl)
    (Open.fieldsW_cons rfl (by kernel_rfl) (Open.opensW_of (Open.opens_int Try.underlying3))
      (Open.fieldsW_one rfl (by kernel_rfl) (Open.opensW_slice (B := 1) Try.underlying47 (by kernel_rfl) (by kernel_rfl) (Open.opensW_of (Open.opens_int Try.underlying5)))) (by decide))
theorem opensW_img : Open.OpensW Try.prog (Kd.slice 5 (Kd.int .u8)) (fun x : List Int => (∀ y ∈ x, (Lit.int .u8 y).wf = true) ∧ x.length * 1 ≤ 140737488351232) 47 := Open.opensW_slice (B := 1) Try.underlying47 (by kernel_rfl) (by kernel_rfl) (Open.opensW_of (Open.opens_int Try.underlying5))
theorem CrashEach_row (A0 : Option Addr) (c0 : Nat) (xs : List (List Int)) (A : Option Addr) (c : Nat) (l : List DoC) (most : Int) (w : World) (hC0 : Kd.C (Kd.slice 5 (Kd.int .u8)) w A0 xs.length xs) (hc0 : xs.length ≤ c0) (hF0 : ∀ x ∈ xs, (fun x : List Int => (∀ y ∈ x, (Lit.int .u8 y).wf = true) ∧ x.length * 1 ≤ 140737488351232) x) (hY0 : xs.length * 24 ≤ 140737488351232)
    (hC : Kd.C kDoC w A l.length l) (hc : l.length ≤ c) (_ : ∀ x ∈ l, (fun x : DoC => (Lit.int .i64 x.1).wf = true ∧ (∀ y ∈ x.2, (Lit.int .u8 y).wf = true) ∧ x.2.length * 1 ≤ 140737488351232) x) (hl : l.length * 32 ≤ 140737488351232) (_ : (Lit.int .i64 most).wf = true) :
    Calls Try.prog 3 #[.slice A0 xs.length c0, .slice A l.length c, .int .i64 most] w fun e w' => e = .returned (.bool true) ∧ Below w.heap.size w w' := CrashEach_walk A0 c0 xs A c l most w hC0 hc0 (fun x hx => by have := (hF0 x hx).2; omega) (by omega) hC hc (by omega)
end Go.Proofs.Ytlkijnnoalfblaa.Dk
