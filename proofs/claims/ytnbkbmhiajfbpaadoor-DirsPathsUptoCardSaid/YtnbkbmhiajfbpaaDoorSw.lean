/- Written by a program of this session. The walks of the laws DirsPaths and DirsJoined. -/
import Derived.Test.YtnbkbmhiajfbpaaDoorSb
namespace Go.Proofs.YtnbkbmhiajfbpaaDoor.Sp
open Go Go.RowKit Go.Shelf Go.Proofs Go.Proofs.YtnbkbmhiajfbpaaDoor.XDp Go.Proofs.YtnbkbmhiajfbpaaDoorW.PrintWords Go.Proofs.YtnbkbmhiajfbpaaDoorW.PrintLast
set_option linter.unusedVariables false
set_option linter.unusedSimpArgs false

theorem eqs_l (l : List ByteArray) (hl : l.length ≤ 140737488355328) (d : Nat) : ∀ (k i : Nat), i + d = l.length → d < k → slices_Equal_string_string.l0 k l l (l.length : Int) (i : Int) = some true := by
  induction d with
  | zero =>
    intro k i hi hk
    obtain ⟨k, rfl⟩ : ∃ m, k = m + 1 := ⟨k - 1, by omega⟩
    simp only [slices_Equal_string_string.l0]
    rw [if_neg (by omega)]
  | succ d ih =>
    intro k i hi hk
    obtain ⟨k, rfl⟩ : ∃ m, k = m + 1 := ⟨k - 1, by omega⟩
    simp only [slices_Equal_string_string.l0]
    rw [if_pos (by omega), if_pos (by omega), if_pos (by omega), if_pos (by omega), if_pos trivial, show wrap64 ((i : Int) + 1) = ((i + 1 : Nat) : Int) by unfold wrap64; omega]
    exact ih k (i + 1) (by omega) (by omega)
theorem eqs_ok (A B : Option Addr) (c d : Nat) (xs : List (List UInt8)) (hl : xs.length ≤ 140737488355328) (W : World) (h1 : Kd.C Kd.string W A xs.length (xs.map mk)) (h2 : Kd.C Kd.string W B xs.length (xs.map mk)) (hc : xs.length ≤ c) (hd : xs.length ≤ d) :
    Calls Tryd.prog 9 #[.slice A xs.length c, .slice B xs.length d] W fun e w' => e = .returned (.bool true) ∧ ∃ q, w' = W.drewN q := by
  have hlen : (xs.map mk).length = xs.length := List.length_map ..
  have hf : slices_Equal_string_string.f (xs.length + 1) (xs.map mk) (xs.map mk) = some true := by
    unfold slices_Equal_string_string.f
    rw [if_pos rfl]
    exact eqs_l _ (by omega) (xs.map mk).length _ 0 (by omega) (by omega)
  have := slices_Equal_string_string.calls (xs.length + 1) A c (xs.map mk) B d (xs.map mk) true W (by rw [hlen]; exact h1) (by omega) (by rw [hlen]; exact h2) (by omega) hf
  rw [hlen] at this
  refine this.mono ?_
  rintro e w' ⟨rfl, hq⟩
  obtain ⟨q, hq⟩ := hq
  exact ⟨rfl, q, hq⟩
theorem splitL_len (p : List UInt8) : (splitL p).1.length ≤ 32 := by
  unfold splitL
  split
  · simp
  · split
    · simp only
      split
      · split
        · simp
        · simp only; omega
      · simp
    · simp
theorem baseOf_len (r : List (List UInt8) × Int) (h : r.1.length ≤ 32) : (baseOf r).1.length ≤ 32 := by
  unfold baseOf
  split
  · simp
  · split
    · simp
    · simp only [List.length_dropLast]; omega
theorem one_ab : splitL (⟨#[47, 97, 47, 98]⟩ : ByteArray).data.toList = ([[97], [98]], 0) := by decide +kernel
theorem ab_ok (w : World) : Calls Tryd.prog 5 #[.string ⟨#[47, 97, 47, 98]⟩] w fun e w' => ∃ A c, e = .returned (.tuple #[.slice A 2 c, .int .i64 0]) ∧ 2 ≤ c ∧ Below w.heap.size w w' := by
  have := split_ok ⟨#[47, 97, 47, 98]⟩ (by decide) w
  rw [one_ab] at this
  refine this.mono ?_
  rintro e w' ⟨A, c, rfl, h1, h2, h3⟩
  exact ⟨A, c, rfl, h1, h3⟩

set_option maxRecDepth 100000 in
set_option maxHeartbeats 8000000 in
theorem DirsPaths_walk (p : ByteArray) (w : World) (hp : p.size < 1000000000) :
    Calls Tryd.prog 3 #[.string p] w fun e w' => e = .returned (.bool true) ∧ Below w.heap.size w w' := by
  have S1 := split_ok p hp
  have S2 := rsplit_ok p hp
  have S3 := base_ok p hp
  have S4 := rbase_ok p hp
  have hl1 := splitL_len p.data.toList
  have hl2 := baseOf_len _ hl1
  have S5 := fun A B c d => eqs_ok A B c d (splitL p.data.toList).1 (by omega)
  have S6 := fun A B c d => eqs_ok A B c d (baseOf (splitL p.data.toList)).1 (by omega)
  have S7 := ab_ok
  have HB := Aside0.mk (Below.refl w.heap.size w)
  refine (callsIn_wide (n := 3)).1 ?_
  refine callsIn_of_wp Tryd.func3 rfl trivial ?_ rfl
  simp only [Tryd.ntmps3, List.size_toArray, List.length_cons, List.length_nil, Nat.reduceAdd, Nat.reduceSub, Array.replicate_succ, Array.replicate_zero, List.push_toArray, List.append_toArray, List.nil_append, List.cons_append]
  gi_wp2_with (first | (refine ⟨trivial, ?_⟩; gi_at_call 5; refine (callsIn_wide.2 (S1 _)).mono ?_; clear S1; rintro e w' ⟨A1, c1, rfl, k1, hC, hb⟩; have L1 := Aside0.mk hC; clear hC; have n_ := Aside0.mk (HB.out.trans (hb.mono HB.out.size)); clear HB; have HB := n_; clear n_; clear hb) | (refine ⟨trivial, ?_⟩; gi_at_call 6; refine (callsIn_wide.2 (S2 _)).mono ?_; clear S2; rintro e w' ⟨A2, c2, rfl, k2, hC, hb⟩; have n_ := Aside0.mk (Kd.C_below L1.out hb); clear L1; have L1 := n_; clear n_; have n_ := Aside0.mk (HB.out.trans (hb.mono HB.out.size)); clear HB; have HB := n_; clear n_; clear hb; have L2 := Aside0.mk hC; clear hC) | (refine ⟨trivial, ?_⟩; gi_at_call 7; refine (callsIn_wide.2 (S3 _)).mono ?_; clear S3; rintro e w' ⟨A3, c3, rfl, k3, hC, hb⟩; have n_ := Aside0.mk (Kd.C_below L1.out hb); clear L1; have L1 := n_; clear n_; have n_ := Aside0.mk (Kd.C_below L2.out hb); clear L2; have L2 := n_; clear n_; have n_ := Aside0.mk (HB.out.trans (hb.mono HB.out.size)); clear HB; have HB := n_; clear n_; clear hb; have L3 := Aside0.mk hC; clear hC) | (refine ⟨trivial, ?_⟩; gi_at_call 8; refine (callsIn_wide.2 (S4 _)).mono ?_; clear S4; rintro e w' ⟨A4, c4, rfl, k4, hC, hb⟩; have n_ := Aside0.mk (Kd.C_below L1.out hb); clear L1; have L1 := n_; clear n_; have n_ := Aside0.mk (Kd.C_below L2.out hb); clear L2; have L2 := n_; clear n_; have n_ := Aside0.mk (Kd.C_below L3.out hb); clear L3; have L3 := n_; clear n_; have n_ := Aside0.mk (HB.out.trans (hb.mono HB.out.size)); clear HB; have HB := n_; clear n_; clear hb; have L4 := Aside0.mk hC; clear hC) | (refine ⟨trivial, ?_⟩; gi_at_call 9; refine (callsIn_wide.2 (S5 A1 A2 c1 c2 _ L1.out L2.out k1 k2)).mono ?_; clear S5; rintro e w' ⟨rfl, q, hq⟩; rw [hq]; clear hq; have n_ := Aside0.mk (Kd.C_drewN L1.out q); clear L1; have L1 := n_; clear n_; have n_ := Aside0.mk (Kd.C_drewN L2.out q); clear L2; have L2 := n_; clear n_; have n_ := Aside0.mk (Kd.C_drewN L3.out q); clear L3; have L3 := n_; clear n_; have n_ := Aside0.mk (Kd.C_drewN L4.out q); clear L4; have L4 := n_; clear n_; have n_ := pw_below_drewN HB.out q; (try simp only [World.drewN_drewN] at n_); clear HB; have HB := Aside0.mk n_; clear n_) | (refine ⟨trivial, ?_⟩; gi_at_call 9; refine (callsIn_wide.2 (S6 A3 A4 c3 c4 _ L3.out L4.out k3 k4)).mono ?_; clear S6; rintro e w' ⟨rfl, q, hq⟩; rw [hq]; clear hq; have n_ := pw_below_drewN HB.out q; (try simp only [World.drewN_drewN] at n_); clear HB; have HB := Aside0.mk n_; clear n_) | (refine ⟨trivial, ?_⟩; gi_at_call 5; refine (callsIn_wide.2 (S7 _)).mono ?_; clear S7; rintro e w' ⟨A5, c5, rfl, k5, hb⟩; have n_ := Aside0.mk (HB.out.trans (hb.mono HB.out.size)); clear HB; have HB := n_; clear n_; clear hb))
  go_ret
  exact ⟨rfl, HB.out⟩

/-- The names, each behind a '/', put together. -/
def joinL (xs : List (List UInt8)) : List UInt8 := xs.flatMap fun x => 47 :: x
theorem joinL_snoc (xs : List (List UInt8)) (x : List UInt8) : joinL (xs ++ [x]) = joinL xs ++ 47 :: x := by simp [joinL]
theorem mk_append (a b : List UInt8) : mk a ++ mk b = mk (a ++ b) := by
  apply ba_ext
  rw [ByteArray.data_append, Array.toList_append]
  rfl

theorem splitL_err (p : List UInt8) (xs : List (List UInt8)) (k : Int) (h : splitL p = (xs, k)) (hk : k ≠ 0) : xs = [] := by
  unfold splitL at h
  split at h
  · cases h; exact absurd rfl hk
  · split at h
    · simp only at h
      split at h
      · split at h
        · cases h; rfl
        · cases h; exact absurd rfl hk
      · cases h; rfl
    · cases h; rfl
theorem splitL_join (p : List UInt8) (xs : List (List UInt8)) (h : splitL p = (xs, 0)) : (xs = [] ∧ p = [47]) ∨ (xs ≠ [] ∧ joinL xs = p) := by
  unfold splitL at h
  split at h
  next h1 => cases h; exact .inl ⟨rfl, h1⟩
  next h1 =>
    split at h
    next h2 =>
      simp only at h
      split at h
      next h3 =>
        split at h
        next => cases h
        next =>
          cases h
          refine .inr ⟨fun e => ?_, ?_⟩
          · have := cutsL_pos [] p.tail; rw [e] at this; cases this
          · unfold joinL
            rw [cutsL_join]
            cases p with
            | nil => cases h2
            | cons a t => simp at h2; subst h2; rfl
      next => cases h
    next => cases h
theorem joinL_take (xs : List (List UInt8)) (i : Nat) (h : i < xs.length) : joinL (xs.take (i + 1)) = joinL (xs.take i) ++ 47 :: xs[i] := by
  rw [List.take_succ_eq_append_getElem h, joinL_snoc]
theorem joinL_take_le (xs : List (List UInt8)) (i : Nat) : (joinL (xs.take i)).length ≤ (joinL xs).length := by
  conv => rhs; rw [← List.take_append_drop i xs]
  unfold joinL
  rw [List.flatMap_append, List.length_append]
  omega
theorem last_cell (w : World) (A : Option Addr) (ys : List (List UInt8)) (x : List UInt8) (h : Kd.C Kd.string w A (ys.length + 1) ((ys ++ [x]).map mk)) : ∃ ad, A = some ad ∧ w.cell? (ad.add ys.length) = some (.string (mk x)) := by
  obtain ⟨ad, rfl, hcell⟩ := Kd.at_string h (ys.length : Int) (by omega) (by omega)
  rw [rd_mk (ys ++ [x]) ys.length (by simp), Int.toNat_natCast] at hcell
  rw [show (ys ++ [x])[ys.length]'(by simp) = x by simp] at hcell
  exact ⟨ad, rfl, hcell⟩

set_option maxRecDepth 100000 in
set_option maxHeartbeats 8000000 in
theorem DirsJoined_walk (p : ByteArray) (w : World) (hp : p.size < 1000000000) :
    Calls Tryd.prog 4 #[.string p] w fun e w' => e = .returned (.bool true) ∧ Below w.heap.size w w' := by
  have S1 := split_ok p hp
  have S2 := rsplit_ok p hp
  have S3 := base_ok p hp
  have hl1 := splitL_len p.data.toList
  obtain ⟨xs, k, hr⟩ : ∃ xs k, splitL p.data.toList = (xs, k) := ⟨_, _, rfl⟩
  simp only [hr] at S1 S2 S3 hl1
  have htl := Lib.toList_data p
  have HB := Aside0.mk (Below.refl w.heap.size w)
  by_cases hk : k = 0
  · subst hk
    have hj := splitL_join _ _ hr
    have t1 : ((0 : Int) != 0) = false := rfl
    refine (callsIn_wide (n := 3)).1 ?_
    refine callsIn_of_wp Tryd.func4 rfl trivial ?_ rfl
    simp only [Tryd.ntmps4, List.size_toArray, List.length_cons, List.length_nil, Nat.reduceAdd, Nat.reduceSub, Array.replicate_succ, Array.replicate_zero, List.push_toArray, List.append_toArray, List.nil_append, List.cons_append]
    gi_wp2_with (first | (refine ⟨trivial, ?_⟩; gi_at_call 5; refine (callsIn_wide.2 (S1 _)).mono ?_; clear S1; rintro e w' ⟨A1, c1, rfl, k1, hC, hb⟩; have L1 := Aside0.mk hC; clear hC; have n_ := Aside0.mk (HB.out.trans (hb.mono HB.out.size)); clear HB; have HB := n_; clear n_; clear hb) | (refine ⟨trivial, ?_⟩; gi_at_call 6; refine (callsIn_wide.2 (S2 _)).mono ?_; clear S2; rintro e W2 ⟨A2, c2, rfl, k2, hC, hb⟩; have n_ := Aside0.mk (Kd.C_below L1.out hb); clear L1; have L1 := n_; clear n_; have n_ := Aside0.mk (HB.out.trans (hb.mono HB.out.size)); clear HB; have HB := n_; clear n_; clear hb; clear hC))
    gi_loopw [7, 32] (fun v7 v32 w' => ∃ i : Nat, v7 = .string (mk (joinL (xs.take i))) ∧ v32 = .int .i64 (i : Int) ∧ i ≤ xs.length ∧ w' = W2) (fun _ v32 _ => xs.length - (intOf v32).toNat)
    case atStart => exact ⟨0, rfl, rfl, Nat.zero_le _, rfl⟩
    case round =>
      obtain ⟨i, rfl, rfl, hi, rfl⟩ := hrel
      by_cases hlt : i < xs.length
      · have t2 : decide ((i : Int) < (xs.length : Int)) = true := decide_eq_true (by omega)
        obtain ⟨ad, rfl, hcell⟩ := Kd.at_string L1.out (i : Int) (by omega) (by omega)
        rw [rd_mk xs i hlt, Int.toNat_natCast] at hcell
        have p1 : (0 : Int) ≤ (i : Int) := by omega
        have q1 : (i : Int) < (xs.length : Int) := by omega
        have hJ : (joinL xs).length ≤ p.size := by
          rcases hj with ⟨rfl, _⟩ | ⟨_, h⟩
          · exact absurd hlt (by simp)
          · rw [h, Lib.size_eq]; exact Nat.le_refl _
        have hJ2 := joinL_take_le xs (i + 1)
        rw [joinL_take xs i hlt, List.length_append, List.length_cons] at hJ2
        have z1 : ¬ 9223372036854775807 < 1 + (mk xs[i]).size := by rw [mk_size]; omega
        have z3 : ¬ 9223372036854775807 < (mk (joinL (List.take i xs))).size + (1 + (mk xs[i]).size) := by rw [mk_size, mk_size]; omega
        gi_wp2
        go_roundw
        case rel => exact ⟨i + 1, by rw [joinL_take xs i hlt, ← mk_append]; rfl, rfl, hlt, trivial⟩
        case measure =>
          show xs.length - ((i : Int) + 1).toNat < xs.length - ((i : Int)).toNat
          omega
      · obtain rfl : i = xs.length := by omega
        have t2 : decide ((xs.length : Int) < (xs.length : Int)) = false := decide_eq_false (by omega)
        rw [List.take_length]
        rcases hj with ⟨rfl, hp1⟩ | ⟨hne, hjoin⟩
        · have e1 : baseOf (([] : List (List UInt8)), (0 : Int)) = ([], [], 1) := rfl
          simp only [e1] at S3
          rw [show mk (joinL []) = (⟨#[]⟩ : ByteArray) from rfl]
          have tS : ((⟨#[]⟩ : ByteArray).toList == ([] : List UInt8)) = true := by rw [Lib.toList_data]; rfl
          have tP : (([47] : List UInt8) == p.toList) = true := by rw [htl, hp1]; rfl
          gi_wp2_with (first | (refine ⟨trivial, ?_⟩; gi_at_call 7; refine (callsIn_wide.2 (S3 _)).mono ?_; clear S3; rintro e w' ⟨A3, c3, rfl, k3, hC, hb⟩; have n_ := Aside0.mk (Kd.C_below L1.out hb); clear L1; have L1 := n_; clear n_; have n_ := Aside0.mk (HB.out.trans (hb.mono HB.out.size)); clear HB; have HB := n_; clear n_; clear hb; have L3 := Aside0.mk hC; clear hC))
          go_ret
          exact ⟨rfl, HB.out⟩
        · rcases List.eq_nil_or_concat xs with rfl | ⟨ys, x, hx⟩
          · exact absurd rfl hne
          · rw [List.concat_eq_append] at hx
            subst hx
            have e1 : baseOf (ys ++ [x], (0 : Int)) = (ys, x, 0) := by simp [baseOf]
            have el : (ys ++ [x]).length = ys.length + 1 := by simp
            simp only [e1] at S3
            rw [show mk (joinL (ys ++ [x])) = p by rw [hjoin]; exact mk_of p]
            simp only [el] at k1 k2 hl1 ⊢
            have n_ := L1.out
            rw [el] at n_
            clear L1
            have L1 := Aside0.mk n_
            clear n_
            have tE : (p.toList == ([] : List UInt8)) = false := by
              rw [htl, beq_eq_false_iff_ne, ← hjoin, joinL_snoc]
              simp
            have tL : (((ys.length : Int) + 1) == 0) = false := by rw [beq_eq_false_iff_ne]; omega
            have hw1 : wrap64 (ys.length : Int) = (ys.length : Int) := by unfold wrap64; omega
            have hw2 : IntKind.i64.wrap (ys.length : Int) = (ys.length : Int) := (i64_w _).trans hw1
            have hcut := cut_h A1 (ys.length + 1) c1 ys.length (by omega) k1
            have S5 := fun A B c d => eqs_ok A B c d ys (by omega)
            have p1 : (0 : Int) ≤ (ys.length : Int) := by omega
            have q1 : (ys.length : Int) < (ys.length : Int) + 1 := by omega
            clear htl
            gi_wp2_with (first | (refine ⟨trivial, ?_⟩; gi_at_call 7; refine (callsIn_wide.2 (S3 _)).mono ?_; clear S3; rintro e w' ⟨A3, c3, rfl, k3, hC, hb⟩; have n_ := Aside0.mk (Kd.C_below L1.out hb); clear L1; have L1 := n_; clear n_; have n_ := Aside0.mk (HB.out.trans (hb.mono HB.out.size)); clear HB; have HB := n_; clear n_; clear hb; have L3 := Aside0.mk hC; clear hC; obtain ⟨ad, rfl, hcell⟩ := last_cell _ _ _ _ L1.out; have L1T := Aside0.mk (C_take _ _ (ys ++ [x]) ys.length (by simp) (by rw [show (ys ++ [x]).length = ys.length + 1 by simp]; exact L1.out))) | (refine ⟨trivial, ?_⟩; gi_at_call 9; refine (callsIn_wide.2 (S5 A3 (some ad) c3 c1 _ L3.out (by have := L1T.out; rwa [List.take_left] at this) k3 (by omega))).mono ?_; clear S5; rintro e w' ⟨rfl, q, hq⟩; rw [hq]; clear hq; have n_ := pw_below_drewN HB.out q; (try simp only [World.drewN_drewN] at n_); clear HB; have HB := Aside0.mk n_; clear n_))
            go_ret
            exact ⟨rfl, HB.out⟩
  · obtain rfl := splitL_err _ _ _ hr hk
    have t1 : (k != 0) = true := bne_iff_ne.mpr hk
    refine (callsIn_wide (n := 3)).1 ?_
    refine callsIn_of_wp Tryd.func4 rfl trivial ?_ rfl
    simp only [Tryd.ntmps4, List.size_toArray, List.length_cons, List.length_nil, Nat.reduceAdd, Nat.reduceSub, Array.replicate_succ, Array.replicate_zero, List.push_toArray, List.append_toArray, List.nil_append, List.cons_append]
    gi_wp2_with (first | (refine ⟨trivial, ?_⟩; gi_at_call 5; refine (callsIn_wide.2 (S1 _)).mono ?_; clear S1; rintro e w' ⟨A1, c1, rfl, k1, hC, hb⟩; have L1 := Aside0.mk hC; clear hC; have n_ := Aside0.mk (HB.out.trans (hb.mono HB.out.size)); clear HB; have HB := n_; clear n_; clear hb) | (refine ⟨trivial, ?_⟩; gi_at_call 6; refine (callsIn_wide.2 (S2 _)).mono ?_; clear S2; rintro e W2 ⟨A2, c2, rfl, k2, hC, hb⟩; have n_ := Aside0.mk (Kd.C_below L1.out hb); clear L1; have L1 := n_; clear n_; have n_ := Aside0.mk (HB.out.trans (hb.mono HB.out.size)); clear HB; have HB := n_; clear n_; clear hb; clear hC))
    go_ret
    exact ⟨rfl, HB.out⟩
end Go.Proofs.YtnbkbmhiajfbpaaDoor.Sp
