/- Written by a program of this session. A path's names: the walks. -/
import Derived.RangeFuncNested
import Derived.Shelf.Abstract
import Derived.Shelf.RegionOpen
import Derived.WalkKit
import Derived.OwnWalkIn
import Derived.TacticsInMore
import Derived.LoopNIn
import Derived.LoopIn
import Derived.Test.YtnbkbmhiajfbpaaDoorIt
import Derived.Test.YtnbkbmhiajfbpaaDoorSq
namespace Go.Proofs.YtnbkbmhiajfbpaaDoor.Sp
open Go Go.RowKit Go.Shelf Go.Proofs Go.Proofs.YtnbkbmhiajfbpaaDoor.XDp Go.Proofs.YtnbkbmhiajfbpaaDoorW.PrintWords Go.Proofs.YtnbkbmhiajfbpaaDoorW.PrintLast
set_option linter.unusedVariables false
set_option linter.unusedSimpArgs false

theorem infostr : (Tryd.prog.info? 9).map (fun i => (i.zero, i.size, i.bytes)) = some (some (.string ByteArray.empty), 1, 16) := by kernel_rfl

def rowS (xs : List (List UInt8)) : Array Value := ((xs.map mk).map Value.string).toArray

theorem gen_slash (s : ByteArray) (hs : s.size < 4294967281) (w : World) :
    Calls Tryd.prog 17 #[.string s, .string ⟨#[47]⟩, .int .i64 0, .int .i64 (-1)] w fun e w' =>
      e = .returned (.slice (some ⟨w.heap.size, 0, none⟩) (cutsL [] s.data.toList).length (cutsL [] s.data.toList).length) ∧ w' = w.alloc (.cells (rowS (cutsL [] s.data.toList)) 9) := by
  have hle := Lib.countB_le ⟨#[47]⟩ (by decide) s.size s (Nat.le_refl _)
  have hlen := Lib.splitB_all ⟨#[47]⟩ (by decide) 0 _ s rfl
  have c := Any.strings_genSplit_core Tryd.lays221 (by kernel_rfl) s ⟨#[47]⟩ 0 (-1) (Lib.countB s ⟨#[47]⟩ + 1) w hs (by decide) (Nat.zero_le _)
    (fun x c _ => (Tryd.strings_Index_one x 47 _).mono (fun e w' h => ⟨h.1.trans (by rw [← Lib.index_one]), h.2⟩))
    ((Tryd.strings_Count_one s 47 w).mono (fun e w' h => ⟨h.1.trans (by rw [show Lib.countByte s.data.toList 47 = Lib.count s.data.toList [47] from (Lib.count_one 47 s.data.toList).symm]), h.2⟩))
    (by decide) (by decide) (by rw [if_pos (by decide)]; omega)
  rw [Nat.add_sub_cancel, hlen] at c
  have e2 : Lib.cellsOf (Lib.splitB ⟨#[47]⟩ 0 (Lib.countB s ⟨#[47]⟩) s) (Lib.countB s ⟨#[47]⟩ + 1) = ((Lib.splitB ⟨#[47]⟩ 0 (Lib.countB s ⟨#[47]⟩) s).map Value.string).toArray := by rw [← hlen]; exact Lib.cellsOf_full _
  rw [e2] at c
  have e3 : Lib.countB s ⟨#[47]⟩ + 1 = (cutsL [] s.data.toList).length := by rw [← hlen, splitB_eq, List.length_map]
  rw [e3, splitB_eq] at c
  exact c

set_option maxRecDepth 100000 in
set_option maxHeartbeats 2000000 in
theorem split_slash (W : World) (s : ByteArray) (hs : s.size < 4294967281) :
    Calls Tryd.prog 11 #[.string s, .string ⟨#[47]⟩] W fun e w' => e = .returned (.slice (some ⟨W.heap.size, 0, none⟩) (cutsL [] s.data.toList).length (cutsL [] s.data.toList).length) ∧ w' = W.alloc (.cells (rowS (cutsL [] s.data.toList)) 9) := by
  refine (callsIn_wide (n := 1)).1 ?_
  refine callsIn_of_wp Tryd.func11 rfl trivial ?_ rfl
  simp only [Tryd.ntmps11, List.size_toArray, List.length_cons, List.length_nil, Nat.reduceAdd, Nat.reduceSub, Array.replicate_succ, Array.replicate_zero, List.push_toArray, List.append_toArray, List.nil_append, List.cons_append]
  gi_wp2_with (first | (refine ⟨trivial, ?_⟩; gi_at_call 17; refine (callsIn_wide.2 (gen_slash s hs _)).mono ?_; rintro e w' ⟨rfl, hw⟩; rw [hw]; clear hw))
  go_ret
  exact ⟨rfl, rfl⟩


theorem neg_ok (s : ByteArray) (hs : s.size ≤ 9223372036854775000) (w : World) : Calls Tryd.prog 13 #[.string s] w fun e w' => e = .returned (.bool (!isNameS s)) ∧ ∃ q, w' = w.drewN q := by
  refine (callsIn_wide (n := 1)).1 ?_
  refine callsIn_of_wp Tryd.func13 rfl trivial ?_ rfl
  simp only [Tryd.ntmps13, List.size_toArray, List.length_cons, List.length_nil, Nat.reduceAdd, Nat.reduceSub, Array.replicate_succ, Array.replicate_zero, List.push_toArray, List.append_toArray, List.nil_append, List.cons_append]
  gi_wp2_with (refine ⟨trivial, ?_⟩; gi_at_call 14; refine (callsIn_wide.2 (layout_IsName.calls (s.size + 1) s (isNameS s) _ (isName_f s (by omega) _ (Nat.lt_succ_self _)))).mono ?_; rintro e w' ⟨rfl, hd⟩; obtain ⟨q, hq⟩ := hd; rw [hq]; clear hq)
  go_ret
  exact ⟨rfl, _, rfl⟩

theorem rd_mk (xs : List (List UInt8)) (i : Nat) (h : i < xs.length) : rdOf ByteArray.empty (xs.map mk) (i : Int) = mk xs[i] := by
  unfold rdOf
  rw [List.getD_eq_getElem?_getD, show ((i : Int)).toNat = i by omega, List.getElem?_map, List.getElem?_eq_getElem h]
  rfl
theorem all_take (xs : List (List UInt8)) (i : Nat) (h : i < xs.length) : (xs.take (i + 1)).all nameL = ((xs.take i).all nameL && nameL xs[i]) := by
  rw [List.take_succ_eq_append_getElem h, List.all_append]; simp
theorem all_false (xs : List (List UInt8)) (i : Nat) (h : i < xs.length) (hn : nameL xs[i] = false) : xs.all nameL = false := by
  rw [List.all_eq_false]; exact ⟨_, List.getElem_mem h, by simp [hn]⟩

set_option maxRecDepth 100000 in
set_option maxHeartbeats 2000000 in
theorem index_names (A : Option Addr) (c : Nat) (xs : List (List UInt8)) (w : World) (hC : Kd.C Kd.string w A xs.length (xs.map mk)) (hsz : ∀ x ∈ xs, x.length ≤ 1000000000) (hlen : xs.length < 1000000000000) :
    Calls Tryd.prog 18 #[.slice A xs.length c, .func (.func 13) #[] #[]] w fun e w' =>
      (∃ r : Int, e = .returned (.int .i64 r) ∧ decide (0 ≤ r) = !(xs.all nameL)) ∧ ∃ q, w' = w.drewN q := by
  have HC := Aside0.mk hC
  clear hC
  refine (callsIn_wide (n := 1)).1 ?_
  refine callsIn_of_wp Tryd.func18 rfl trivial ?_ rfl
  simp only [Tryd.ntmps18, List.size_toArray, List.length_cons, List.length_nil, Nat.reduceAdd, Nat.reduceSub, Array.replicate_succ, Array.replicate_zero, List.push_toArray, List.append_toArray, List.nil_append, List.cons_append]
  gi_wp2
  gi_loopw [8] (fun v8 w' => ∃ i : Nat, v8 = .int .i64 (i : Int) ∧ i ≤ xs.length ∧ (xs.take i).all nameL = true ∧ ∃ q, w' = w.drewN q) (fun v8 _ => xs.length - (intOf v8).toNat)
  case atStart => exact ⟨0, rfl, Nat.zero_le _, rfl, 0, rfl⟩
  case round =>
    obtain ⟨i, rfl, hi, hall, q, rfl⟩ := hrel
    by_cases hlt : i < xs.length
    · have t1 : decide ((i : Int) < (xs.length : Int)) = true := decide_eq_true (by omega)
      obtain ⟨ad, rfl, hcell⟩ := Kd.at_string HC.out (i : Int) (by omega) (by omega)
      rw [rd_mk xs i hlt, Int.toNat_natCast] at hcell
      have p1 : (0 : Int) ≤ (i : Int) := by omega
      have q1 : (i : Int) < (xs.length : Int) := by omega
      have hs1 : (mk xs[i]).size ≤ 9223372036854775000 := by rw [mk_size]; have := hsz _ (List.getElem_mem hlt); omega
      cases hn : nameL xs[i] with
      | true =>
        have hb : (!isNameS (mk xs[i])) = false := by rw [show isNameS (mk xs[i]) = true from hn]; rfl
        gi_wp2_with (refine ⟨trivial, ?_⟩; gi_at_call 13; refine (callsIn_wide.2 (neg_ok (mk xs[i]) hs1 _)).mono ?_; rw [hb]; rintro e w' ⟨rfl, q2, hq⟩; rw [hq]; clear hq)
        go_roundw
        case rel => exact ⟨i + 1, rfl, hlt, by rw [all_take xs i hlt, hall, hn]; rfl, q + q2, by simp⟩
        case measure =>
          show xs.length - ((i : Int) + 1).toNat < xs.length - ((i : Int)).toNat
          omega
      | false =>
        have hb : (!isNameS (mk xs[i])) = true := by rw [show isNameS (mk xs[i]) = false from hn]; rfl
        gi_wp2_with (refine ⟨trivial, ?_⟩; gi_at_call 13; refine (callsIn_wide.2 (neg_ok (mk xs[i]) hs1 _)).mono ?_; rw [hb]; rintro e w' ⟨rfl, q2, hq⟩; rw [hq]; clear hq)
        go_ret
        exact ⟨⟨_, rfl, by rw [all_false xs i hlt hn]; simp⟩, q + q2, by simp⟩
    · obtain rfl : i = xs.length := by omega
      have t1 : decide ((xs.length : Int) < (xs.length : Int)) = false := decide_eq_false (by omega)
      rw [List.take_length] at hall
      gi_wp2
      go_ret
      exact ⟨⟨_, rfl, by rw [hall]; rfl⟩, q, rfl⟩

set_option maxRecDepth 100000 in
set_option maxHeartbeats 2000000 in
theorem contains_names (A : Option Addr) (c : Nat) (xs : List (List UInt8)) (w : World) (hC : Kd.C Kd.string w A xs.length (xs.map mk)) (hsz : ∀ x ∈ xs, x.length ≤ 1000000000) (hlen : xs.length < 1000000000000) :
    Calls Tryd.prog 12 #[.slice A xs.length c, .func (.func 13) #[] #[]] w fun e w' => e = .returned (.bool (!(xs.all nameL))) ∧ ∃ q, w' = w.drewN q := by
  refine (callsIn_wide (n := 1)).1 ?_
  refine callsIn_of_wp Tryd.func12 rfl trivial ?_ rfl
  simp only [Tryd.ntmps12, List.size_toArray, List.length_cons, List.length_nil, Nat.reduceAdd, Nat.reduceSub, Array.replicate_succ, Array.replicate_zero, List.push_toArray, List.append_toArray, List.nil_append, List.cons_append]
  gi_wp2_with (refine ⟨trivial, ?_⟩; gi_at_call 18; refine (callsIn_wide.2 (index_names A c xs _ hC hsz hlen)).mono ?_; rintro e w' ⟨⟨r, rfl, hr⟩, q, hq⟩; rw [hq]; clear hq)
  go_ret
  exact ⟨by rw [← hr]; rfl, _, rfl⟩

theorem cut_f (p : ByteArray) : strings_CutPrefix.f p ⟨#[47]⟩ = some (if p.data.toList.head? = some 47 then (mk p.data.toList.tail, true) else (p, false)) := by
  have hsz := Lib.size_eq p
  have htl := Lib.toList_data p
  have h1 : (⟨#[47]⟩ : ByteArray).size = 1 := rfl
  have h2 : (⟨#[47]⟩ : ByteArray).toList = [47] := by rw [Lib.toList_data]
  unfold strings_CutPrefix.f stringslite_CutPrefix.f stringslite_HasPrefix.f
  rw [h1, h2]
  simp only [Int.toNat_one, Int.natCast_one]
  cases hl : p.data.toList with
  | nil =>
    rw [hl, List.length_nil] at hsz
    rw [if_neg (by omega)]
    simp
  | cons a t =>
    rw [hl, List.length_cons] at hsz
    rw [if_pos (by omega), if_pos (by omega), if_pos (by omega)]
    have e1 : (p.extract 0 1).toList = [a] := by rw [Lib.toList_data, extract_mk, mk_data, hl]; simp
    have e2 : p.extract 1 p.size = mk t := by rw [extract_mk, hl, hsz]; simp
    rw [e1]
    by_cases ha : a = 47
    · subst ha
      rw [show (([47] : List UInt8) == [47]) = true from rfl]
      simp only [Option.bind_some, if_true, List.head?_cons, List.tail_cons]
      rw [if_pos (by omega), if_pos (by omega), e2]
      rfl
    · have hb : (([a] : List UInt8) == [47]) = false := by simp [ha]
      rw [hb]
      simp [ha]

theorem row_C (W : World) (xs : List (List UInt8)) (hlen : xs.length ≤ 140737488355328) : Kd.C Kd.string (W.alloc (.cells (rowS xs) 9)) (some ⟨W.heap.size, 0, none⟩) xs.length (xs.map mk) :=
  Kd.C_of_reads (d := ByteArray.empty) (enc := Value.string) (h1 := fun _ => rfl) ⟨by rw [List.length_map], by omega, fun _ => ⟨_, rfl, fun j hj => by
    have hn := World.alloc_heap_new W (.cells (rowS xs) 9)
    have ha : (⟨W.heap.size, 0, none⟩ : Addr).add j = ⟨W.heap.size, j, none⟩ := by unfold Addr.add; split <;> simp_all
    rw [ha]
    unfold World.cell?
    rw [hn]
    simp [rowS, List.getD_eq_getElem?_getD, hj]⟩⟩

set_option maxRecDepth 100000 in
set_option maxHeartbeats 2000000 in
theorem split_ok (p : ByteArray) (hp : p.size < 1000000000) (w : World) :
    Calls Tryd.prog 5 #[.string p] w fun e w' => ∃ A c, e = .returned (.tuple #[.slice A (splitL p.data.toList).1.length c, .int .i64 (splitL p.data.toList).2]) ∧ (splitL p.data.toList).1.length ≤ c ∧
      Kd.C Kd.string w' A (splitL p.data.toList).1.length ((splitL p.data.toList).1.map mk) ∧ Below w.heap.size w w' := by
  have hnil : ∀ W : World, Kd.C Kd.string W none 0 (([] : List (List UInt8)).map mk) := fun W => Kd.C_of_reads (d := ByteArray.empty) (enc := Value.string) (h1 := fun _ => rfl) ⟨rfl, by decide, fun h => absurd h (by decide)⟩
  have hszp := Lib.size_eq p
  have htl := Lib.toList_data p
  by_cases h1 : p.data.toList = [47]
  · have t1 : (p.toList == ([47] : List UInt8)) = true := by rw [htl, h1]; rfl
    have e1 : splitL p.data.toList = ([], 0) := by unfold splitL; rw [if_pos h1]
    rw [e1]
    refine (callsIn_wide (n := 1)).1 ?_
    refine callsIn_of_wp Tryd.func5 rfl trivial ?_ rfl
    simp only [Tryd.ntmps5, List.size_toArray, List.length_cons, List.length_nil, Nat.reduceAdd, Nat.reduceSub, Array.replicate_succ, Array.replicate_zero, List.push_toArray, List.append_toArray, List.nil_append, List.cons_append]
    gi_wp2
    refine bodyPost_ret (results_tmp2 rfl _ _ _) rfl ?_
    exact ⟨none, 0, rfl, Nat.le_refl _, hnil _, Below.refl _ _⟩
  · have t1 : (p.toList == ([47] : List UInt8)) = false := by rw [htl, beq_eq_false_iff_ne]; exact h1
    clear htl
    have hcut := cut_f p
    by_cases h2 : p.data.toList.head? = some 47
    · rw [if_pos h2] at hcut
      have hl : p.data.toList.tail.length ≤ p.size := by rw [List.length_tail]; omega
      have hp1 := cutsL_pos [] p.data.toList.tail
      have hp2 := cutsL_len [] p.data.toList.tail
      have hp3 := cutsL_sz [] p.data.toList.tail
      have hs : (mk p.data.toList.tail).size < 4294967281 := by rw [mk_size]; omega
      have hsl := split_slash
      cases hall : (cutsL [] p.data.toList.tail).all nameL with
      | true =>
        by_cases h32 : 32 < (cutsL [] p.data.toList.tail).length
        · have t3 : decide ((32 : Int) < ((cutsL [] p.data.toList.tail).length : Int)) = true := decide_eq_true (by omega)
          have e1 : splitL p.data.toList = ([], 219) := by unfold splitL; rw [if_neg h1, if_pos h2, if_pos hall, if_pos h32]
          rw [e1]
          refine (callsIn_wide (n := 1)).1 ?_
          refine callsIn_of_wp Tryd.func5 rfl trivial ?_ rfl
          simp only [Tryd.ntmps5, List.size_toArray, List.length_cons, List.length_nil, Nat.reduceAdd, Nat.reduceSub, Array.replicate_succ, Array.replicate_zero, List.push_toArray, List.append_toArray, List.nil_append, List.cons_append]
          gi_wp2_with (first | (refine ⟨trivial, ?_⟩; gi_at_call 10; refine (callsIn_wide.2 (strings_CutPrefix.calls p ⟨#[47]⟩ _ _ _ hcut)).mono ?_; rintro e w' ⟨rfl, hd⟩; obtain ⟨q, hq⟩ := hd; rw [hq]; clear hq) | (refine ⟨trivial, ?_⟩; gi_at_call 11; refine (callsIn_wide.2 (split_slash _ (mk p.data.toList.tail) hs)).mono ?_; rintro e w2 ⟨rfl, hw⟩; rw [hw]; clear hw; rw [mk_data]) | (refine ⟨trivial, ?_⟩; gi_at_call 12; refine (callsIn_wide.2 (contains_names _ _ (cutsL [] p.data.toList.tail) _ (row_C _ _ (by omega)) (fun x hx => by have := hp3 x hx; simp at this; omega) (by omega))).mono ?_; rw [hall]; rintro e w' ⟨rfl, q2, hq⟩; rw [hq]; clear hq))
          refine bodyPost_ret (results_tmp2 rfl _ _ _) rfl ?_
          exact ⟨none, 0, rfl, Nat.le_refl _, hnil _, (by repeat (first | exact Below.refl _ _ | apply below_alloc | apply pw_below_drewN))⟩
        · have t3 : decide ((32 : Int) < ((cutsL [] p.data.toList.tail).length : Int)) = false := decide_eq_false (by omega)
          have e1 : splitL p.data.toList = (cutsL [] p.data.toList.tail, 0) := by unfold splitL; rw [if_neg h1, if_pos h2, if_pos hall, if_neg h32]
          rw [e1]
          refine (callsIn_wide (n := 1)).1 ?_
          refine callsIn_of_wp Tryd.func5 rfl trivial ?_ rfl
          simp only [Tryd.ntmps5, List.size_toArray, List.length_cons, List.length_nil, Nat.reduceAdd, Nat.reduceSub, Array.replicate_succ, Array.replicate_zero, List.push_toArray, List.append_toArray, List.nil_append, List.cons_append]
          gi_wp2_with (first | (refine ⟨trivial, ?_⟩; gi_at_call 10; refine (callsIn_wide.2 (strings_CutPrefix.calls p ⟨#[47]⟩ _ _ _ hcut)).mono ?_; rintro e w' ⟨rfl, hd⟩; obtain ⟨q, hq⟩ := hd; rw [hq]; clear hq) | (refine ⟨trivial, ?_⟩; gi_at_call 11; refine (callsIn_wide.2 (split_slash _ (mk p.data.toList.tail) hs)).mono ?_; rintro e w2 ⟨rfl, hw⟩; rw [hw]; clear hw; rw [mk_data]) | (refine ⟨trivial, ?_⟩; gi_at_call 12; refine (callsIn_wide.2 (contains_names _ _ (cutsL [] p.data.toList.tail) _ (row_C _ _ (by omega)) (fun x hx => by have := hp3 x hx; simp at this; omega) (by omega))).mono ?_; rw [hall]; rintro e w' ⟨rfl, q2, hq⟩; rw [hq]; clear hq))
          refine bodyPost_ret (results_tmp2 rfl _ _ _) rfl ?_
          exact ⟨_, _, rfl, Nat.le_refl _, Kd.C_drewN (row_C _ _ (by omega)) _, (by repeat (first | exact Below.refl _ _ | apply below_alloc | apply pw_below_drewN))⟩
      | false =>
        have e1 : splitL p.data.toList = ([], 7) := by unfold splitL; rw [if_neg h1, if_pos h2, if_neg (by rw [hall]; simp)]
        rw [e1]
        refine (callsIn_wide (n := 1)).1 ?_
        refine callsIn_of_wp Tryd.func5 rfl trivial ?_ rfl
        simp only [Tryd.ntmps5, List.size_toArray, List.length_cons, List.length_nil, Nat.reduceAdd, Nat.reduceSub, Array.replicate_succ, Array.replicate_zero, List.push_toArray, List.append_toArray, List.nil_append, List.cons_append]
        gi_wp2_with (first | (refine ⟨trivial, ?_⟩; gi_at_call 10; refine (callsIn_wide.2 (strings_CutPrefix.calls p ⟨#[47]⟩ _ _ _ hcut)).mono ?_; rintro e w' ⟨rfl, hd⟩; obtain ⟨q, hq⟩ := hd; rw [hq]; clear hq) | (refine ⟨trivial, ?_⟩; gi_at_call 11; refine (callsIn_wide.2 (split_slash _ (mk p.data.toList.tail) hs)).mono ?_; rintro e w2 ⟨rfl, hw⟩; rw [hw]; clear hw; rw [mk_data]) | (refine ⟨trivial, ?_⟩; gi_at_call 12; refine (callsIn_wide.2 (contains_names _ _ (cutsL [] p.data.toList.tail) _ (row_C _ _ (by omega)) (fun x hx => by have := hp3 x hx; simp at this; omega) (by omega))).mono ?_; rw [hall]; rintro e w' ⟨rfl, q2, hq⟩; rw [hq]; clear hq))
        refine bodyPost_ret (results_tmp2 rfl _ _ _) rfl ?_
        exact ⟨none, 0, rfl, Nat.le_refl _, hnil _, (by repeat (first | exact Below.refl _ _ | apply below_alloc | apply pw_below_drewN))⟩
    · rw [if_neg h2] at hcut
      have e1 : splitL p.data.toList = ([], 7) := by unfold splitL; rw [if_neg h1, if_neg h2]
      rw [e1]
      refine (callsIn_wide (n := 1)).1 ?_
      refine callsIn_of_wp Tryd.func5 rfl trivial ?_ rfl
      simp only [Tryd.ntmps5, List.size_toArray, List.length_cons, List.length_nil, Nat.reduceAdd, Nat.reduceSub, Array.replicate_succ, Array.replicate_zero, List.push_toArray, List.append_toArray, List.nil_append, List.cons_append]
      gi_wp2_with (first | (refine ⟨trivial, ?_⟩; gi_at_call 10; refine (callsIn_wide.2 (strings_CutPrefix.calls p ⟨#[47]⟩ _ _ _ hcut)).mono ?_; rintro e w' ⟨rfl, hd⟩; obtain ⟨q, hq⟩ := hd; rw [hq]; clear hq) | (refine ⟨trivial, ?_⟩; gi_at_call 11; refine (callsIn_wide.2 (split_slash _ (mk p.data.toList.tail) hs)).mono ?_; rintro e w2 ⟨rfl, hw⟩; rw [hw]; clear hw; rw [mk_data]) | (refine ⟨trivial, ?_⟩; gi_at_call 12; refine (callsIn_wide.2 (contains_names _ _ (cutsL [] p.data.toList.tail) _ (row_C _ _ (by omega)) (fun x hx => by have := hp3 x hx; simp at this; omega) (by omega))).mono ?_; rw [hall]; rintro e w' ⟨rfl, q2, hq⟩; rw [hq]; clear hq))
      refine bodyPost_ret (results_tmp2 rfl _ _ _) rfl ?_
      exact ⟨none, 0, rfl, Nat.le_refl _, hnil _, (by repeat (first | exact Below.refl _ _ | apply below_alloc | apply pw_below_drewN))⟩
end Go.Proofs.YtnbkbmhiajfbpaaDoor.Sp
