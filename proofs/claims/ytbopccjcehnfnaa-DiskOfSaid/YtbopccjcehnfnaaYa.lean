/- Written by a program of this session. SameSent of two queues that read the same; what the disks' calls do, in the same words for both. -/
import Derived.Test.YtbopccjcehnfnaaXn
namespace Go.Proofs.Ytbopccjcehnfnaa.Dk
open Go Go.RowKit Go.Shelf Go.Proofs Go.Maps Go.Proofs.Ytbopccjcehnfnaa.Sp Go.Proofs.Ytbopccjcehnfnaa.XFb Go.Proofs.YtbopccjcehnfnaaW.PrintWords Go.Proofs.YtbopccjcehnfnaaW.PrintLast Go.Proofs.YtbopccjcehnfnaaW.PrintMore
set_option linter.unusedVariables false
set_option linter.unusedSimpArgs false
set_option maxRecDepth 100000 in
set_option maxHeartbeats 8000000 in
theorem clSame (W : World) (A B : Option Addr) (c d : Nat) (s : S32) (hA : Kd.C (Kd.int .u8) W A s.f2.length s.f2) (hB : Kd.C (Kd.int .u8) W B s.f2.length s.f2) (hc : s.f2.length ≤ c) (hd : s.f2.length ≤ d) :
    Calls Try.prog 60 #[.agg #[.int .i64 s.f0, .int .i64 s.f1, .slice A s.f2.length c], .agg #[.int .i64 s.f0, .int .i64 s.f1, .slice B s.f2.length d]] W fun e W' => e = .returned (.bool true) ∧ Below W.heap.size W W' := by
  have hb : Below W.heap.size W ((W.alloc (.cells #[.int .i64 s.f0, .int .i64 s.f1, .slice A s.f2.length c] 32)).alloc (.cells #[.int .i64 s.f0, .int .i64 s.f1, .slice B s.f2.length d] 32)) := below_alloc (below_alloc (Below.refl _ _) _) _
  have HA := Aside0.mk (Kd.C_below hA hb)
  have HB := Aside0.mk (Kd.C_below hB hb)
  have HW := Aside0.mk hb
  clear hA hB hb
  refine (callsIn_wide (n := 1)).1 ?_
  refine callsIn_of_wp Try.func60 rfl trivial ?_ rfl
  simp only [Try.ntmps60, List.size_toArray, List.length_cons, List.length_nil, Nat.reduceAdd, Nat.reduceSub, Array.replicate_succ, Array.replicate_zero, List.push_toArray, List.append_toArray, List.nil_append, List.cons_append]
  gi_wp2_with (refine ⟨trivial, ?_⟩; gi_at_call 14; refine (callsIn_wide.2 (bytes_Equal.calls A c s.f2 B d s.f2 true _ HA.out hc HB.out hd (by unfold bytes_Equal.f; simp))).mono ?_; rintro e w1 ⟨rfl, hd1⟩; have HW1 := Aside0.mk (below_drawn HW.out hd1); clear hd1)
  go_ret
  exact ⟨rfl, HW1.out⟩
set_option maxRecDepth 100000 in
set_option maxHeartbeats 8000000 in
theorem eqf_sent (W : World) (A B : Option Addr) (c d : Nat) (xs : List S32) (hA : Kd.C k32 W A xs.length xs) (hB : Kd.C k32 W B xs.length xs) (hl : xs.length < 9223372036854775807) :
    Calls Try.prog 59 #[.slice A xs.length c, .slice B xs.length d, .func (.func 60) #[] #[]] W fun e W' => e = .returned (.bool true) ∧ Below W.heap.size W W' := by
  have HA := Aside0.mk hA
  have HB := Aside0.mk hB
  clear hA hB
  refine (callsIn_wide (n := 1)).1 ?_
  refine callsIn_of_wp Try.func59 rfl trivial ?_ rfl
  simp only [Try.ntmps59, List.size_toArray, List.length_cons, List.length_nil, Nat.reduceAdd, Nat.reduceSub, Array.replicate_succ, Array.replicate_zero, List.push_toArray, List.append_toArray, List.nil_append, List.cons_append]
  gi_wp2
  gi_loopw [17] (fun v17 w' => ∃ i : Nat, v17 = .int .i64 (i : Int) ∧ i ≤ xs.length ∧ Aside0 (Below W.heap.size W w')) (fun v17 _ => xs.length - (intOf v17).toNat)
  case atStart => exact ⟨0, rfl, Nat.zero_le _, ⟨Below.refl _ _⟩⟩
  case round =>
    obtain ⟨i, rfl, hi, HW⟩ := hrel
    by_cases hlt : i < xs.length
    · have t1 : decide ((i : Int) < (xs.length : Int)) = true := decide_eq_true (by omega)
      obtain ⟨ad, A2, c2, rfl, k0, k1, k2, l2, g2⟩ := at_T32 (Kd.C_below HA.out HW.out) (i : Int) (by omega) (by omega)
      obtain ⟨bd, B2, d2, rfl, j0, j1, j2, l3, g3⟩ := at_T32 (Kd.C_below HB.out HW.out) (i : Int) (by omega) (by omega)
      simp only [Int.toNat_natCast] at k0 k1 k2 j0 j1 j2
      generalize rd_T32 xs i = s at *
      have hb : Below wr.heap.size wr ((wr.alloc (.cells #[.int .i64 s.f0, .int .i64 s.f1, .slice A2 s.f2.length c2] 32)).alloc (.cells #[.int .i64 s.f0, .int .i64 s.f1, .slice B2 s.f2.length d2] 32)) := below_alloc (below_alloc (Below.refl _ _) _) _
      have hcl := clSame ((wr.alloc (.cells #[.int .i64 s.f0, .int .i64 s.f1, .slice A2 s.f2.length c2] 32)).alloc (.cells #[.int .i64 s.f0, .int .i64 s.f1, .slice B2 s.f2.length d2] 32)) A2 B2 c2 d2 s (Kd.C_below g2 hb) (Kd.C_below g3 hb) l2 l3
      have HWB := Aside0.mk (below_step HW.out hb)
      have m0 := (below_alloc (Below.refl wr.heap.size wr) (.cells #[.int .i64 s.f0, .int .i64 s.f1, .slice A2 s.f2.length c2] 32)).cell (World.block_lt_of_cell? wr _ j0) |>.trans j0
      have m1 := (below_alloc (Below.refl wr.heap.size wr) (.cells #[.int .i64 s.f0, .int .i64 s.f1, .slice A2 s.f2.length c2] 32)).cell (World.block_lt_of_cell? wr _ j1) |>.trans j1
      have m2 := (below_alloc (Below.refl wr.heap.size wr) (.cells #[.int .i64 s.f0, .int .i64 s.f1, .slice A2 s.f2.length c2] 32)).cell (World.block_lt_of_cell? wr _ j2) |>.trans j2
      clear g2 g3 hb
      gi_wp2_with (refine ⟨trivial, ?_⟩; gi_at_call 60; refine (callsIn_wide.2 hcl).mono ?_; rintro e w1 ⟨rfl, hb1⟩; have HW1 := Aside0.mk (below_step HWB.out hb1); clear hb1)
      exact ⟨⟨i + 1, by simp, by omega, HW1⟩, by simp [intOf]; omega⟩
    · have t1 : decide ((i : Int) < (xs.length : Int)) = false := decide_eq_false (by omega)
      gi_wp2
      go_ret
      exact ⟨rfl, HW.out⟩
set_option maxRecDepth 100000 in
set_option maxHeartbeats 8000000 in
theorem same_sent (W : World) (A B : Option Addr) (c d : Nat) (xs : List S32) (hA : Kd.C k32 W A xs.length xs) (hB : Kd.C k32 W B xs.length xs) (hl : xs.length < 9223372036854775807) :
    Calls Try.prog 50 #[.slice A xs.length c, .slice B xs.length d] W fun e W' => e = .returned (.bool true) ∧ Below W.heap.size W W' := by
  have HA := Aside0.mk hA
  have HB := Aside0.mk hB
  clear hA hB
  refine (callsIn_wide (n := 1)).1 ?_
  refine callsIn_of_wp Try.func50 rfl trivial ?_ rfl
  simp only [Try.ntmps50, List.size_toArray, List.length_cons, List.length_nil, Nat.reduceAdd, Nat.reduceSub, Array.replicate_succ, Array.replicate_zero, List.push_toArray, List.append_toArray, List.nil_append, List.cons_append]
  gi_wp2_with (refine ⟨trivial, ?_⟩; gi_at_call 59; refine (callsIn_wide.2 (eqf_sent _ A B c d xs HA.out HB.out hl)).mono ?_; rintro e w1 ⟨rfl, hb1⟩; have HW1 := Aside0.mk hb1; clear hb1)
  go_ret
  exact ⟨rfl, HW1.out⟩
/-- What a write answers, and the queue and the last number behind it. -/
def wrN (bl : List (List Int)) (q : List S32) (last b : Int) (x : List Int) : Int := if wrE bl q b x.length = 0 then last + 1 else 0
def wrQ (bl : List (List Int)) (q : List S32) (last b : Int) (x : List Int) : List S32 := if wrE bl q b x.length = 0 then q ++ [⟨last + 1, b, x⟩] else q
def wrL (bl : List (List Int)) (q : List S32) (last b : Int) (x : List Int) : Int := if wrE bl q b x.length = 0 then last + 1 else last
def cmE (q : List S32) (id : Int) (ok : Bool) : Int := if ixL (fun x : S32 => x.f0 == id) q 0 < 0 then 20 else if ok then 0 else 4
def cmB (bl : List (List Int)) (q : List S32) (id : Int) (ok : Bool) : List (List Int) := if cmE q id ok = 0 then crB q bl id else bl
def cmQ (q : List S32) (id : Int) : List S32 := if ixL (fun x : S32 => x.f0 == id) q 0 < 0 then q else q.eraseIdx (ixL (fun x : S32 => x.f0 == id) q 0).toNat
def crE (q : List S32) (ids : List Int) : Int := if ids.all (fun i => decide (0 ≤ ixL (fun x : S32 => x.f0 == i) q 0)) = true then 0 else 20
def crBs (bl : List (List Int)) (q : List S32) (ids : List Int) : List (List Int) := if crE q ids = 0 then ids.foldl (crB q) bl else bl
def crQ (q : List S32) (ids : List Int) : List S32 := if crE q ids = 0 then [] else q
def crF (bl : List (List Int)) (q : List S32) (fl ids : List Int) : List Int := if crE q ids = 0 then List.replicate bl.length 0 else fl
theorem cm_cases (q : List S32) (id : Int) : ixL (fun x : S32 => x.f0 == id) q 0 < 0 ∨ ∃ k : Nat, k < q.length ∧ ixL (fun x : S32 => x.f0 == id) q 0 = (k : Int) := by
  rcases ixL_range (fun x : S32 => x.f0 == id) q 0 with e | ⟨k, hk, e⟩
  · exact .inl (by rw [e]; decide)
  · exact .inr ⟨k, hk, by rw [e]; omega⟩
theorem cm_none {q : List S32} {id : Int} (h : ixL (fun x : S32 => x.f0 == id) q 0 < 0) (bl : List (List Int)) (ok : Bool) : cmE q id ok = 20 ∧ cmB bl q id ok = bl ∧ cmQ q id = q := by
  have h1 : cmE q id ok = 20 := by unfold cmE; rw [if_pos h]
  exact ⟨h1, by unfold cmB; rw [if_neg (by rw [h1]; decide)], by unfold cmQ; rw [if_pos h]⟩
theorem cm_some {q : List S32} {id : Int} {k : Nat} (hk : k < q.length) (h : ixL (fun x : S32 => x.f0 == id) q 0 = (k : Int)) (bl : List (List Int)) (ok : Bool) : cmE q id ok = (if ok then 0 else 4) ∧ cmB bl q id ok = (if ok then bl.set q[k].f1.toNat q[k].f2 else bl) ∧ cmQ q id = q.eraseIdx k := by
  have h0 : ¬ ((k : Int) < 0) := by omega
  have hw : wrOf q id = q[k] := by unfold wrOf; rw [h]; simp [List.getD_eq_getElem?_getD, hk]
  have h1 : cmE q id ok = (if ok then 0 else 4) := by unfold cmE; rw [h, if_neg h0]
  refine ⟨h1, ?_, ?_⟩
  · unfold cmB
    rw [h1]
    cases ok
    · rfl
    · simp only [if_true]; unfold crB; rw [hw]
  · unfold cmQ
    rw [h, if_neg h0, Int.toNat_natCast]
theorem cr_no {q : List S32} {ids : List Int} (h : ¬ ids.all (fun i => decide (0 ≤ ixL (fun x : S32 => x.f0 == i) q 0)) = true) : crE q ids = 20 ∧ ∃ i ∈ ids, ixL (fun x : S32 => x.f0 == i) q 0 < 0 := by
  refine ⟨by unfold crE; rw [if_neg h], ?_⟩
  rw [List.all_eq_true] at h
  false_or_by_contra
  rename_i hn
  exact h (fun i hi => decide_eq_true (by false_or_by_contra; rename_i h2; exact hn ⟨i, hi, by omega⟩))
theorem cr_all {q : List S32} {ids : List Int} (h : ids.all (fun i => decide (0 ≤ ixL (fun x : S32 => x.f0 == i) q 0)) = true) : crE q ids = 0 ∧ ∀ i ∈ ids, 0 ≤ ixL (fun x : S32 => x.f0 == i) q 0 :=
  ⟨by unfold crE; rw [if_pos h], fun i hi => of_decide_eq_true (List.all_eq_true.1 h i hi)⟩
theorem dm_write {W : World} {base D m : Nat} {S : Nat → Prop} {bl : List (List Int)} {q : List S32} {fl : List Int} {last : Int} {n : Nat} (h : IsDm W base D m S bl q fl last n) (b : Int) (A : Option Addr) (c : Nat) (x : List Int) (hcx : x.length ≤ c) (hC : ∀ W', Kept S W W' → Kd.C (Kd.int .u8) W' A x.length x) (hlast : last + 1 < 1000000000000000000) :
    Calls Try.prog 18 #[.pointer (some ⟨D, 0, none⟩), .int .i64 b, .slice A x.length c] W fun e W' => e = .returned (.tuple #[.int .i64 (wrN bl q last b x), .int .i64 (wrE bl q b x.length)]) ∧ (∃ S', (∀ k, S' k → S k ∨ W.heap.size ≤ k) ∧ IsDm W' base D m S' bl (wrQ bl q last b x) fl (wrL bl q last b x) n) ∧ Kept S W W' := by
  obtain ⟨mo, hdk⟩ := h.dk
  by_cases he : wrE bl q b x.length = 0
  · have h128 : x.length = 128 := by
      unfold wrE at he
      split at he
      · exact absurd he (by decide)
      · split at he
        · exact absurd he (by decide)
        · next hh => exact Decidable.not_not.1 hh
    have h1 := write_full hdk b A c x h128 (by omega) hC (by rw [← h128]; exact he) hlast
    rw [← h128] at h1
    refine h1.mono ?_
    rintro e W' ⟨rfl, hi, hk⟩
    unfold wrN wrQ wrL
    rw [if_pos he, if_pos he, if_pos he, he]
    exact ⟨rfl, ⟨_, fun k hk => hk.imp (fun h => h) (fun h => h.1), h.next hdk.map hi rfl⟩, hk⟩
  · refine (write_no hdk b A x.length c he).mono ?_
    rintro e W' ⟨rfl, hb⟩
    unfold wrN wrQ wrL
    rw [if_neg he, if_neg he, if_neg he]
    exact ⟨rfl, ⟨S, fun k hk => .inl hk, h.below hb⟩, Kept.of_below hb⟩
theorem dm_complete {W : World} {base D m : Nat} {S : Nat → Prop} {bl : List (List Int)} {q : List S32} {fl : List Int} {last : Int} {n : Nat} (h : IsDm W base D m S bl q fl last n) (id : Int) (ok : Bool) :
    Calls Try.prog 11 #[.pointer (some ⟨D, 0, none⟩), .int .i64 id, .bool ok] W fun e W' => e = .returned (.int .i64 (cmE q id ok)) ∧ (∃ S', (∀ k, S' k → S k ∨ W.heap.size ≤ k) ∧ IsDm W' base D m S' (cmB bl q id ok) (cmQ q id) fl last n) ∧ Kept S W W' := by
  obtain ⟨mo, hdk⟩ := h.dk
  rcases cm_cases q id with hix | ⟨k, hk, hix⟩
  · obtain ⟨e1, e2, e3⟩ := cm_none hix bl ok
    rw [e1, e2, e3]
    refine (complete_none hdk id ok hix).mono ?_
    rintro e W' ⟨rfl, hb⟩
    exact ⟨rfl, ⟨S, fun k hk => .inl hk, h.below hb⟩, Kept.of_below hb⟩
  · obtain ⟨e1, e2, e3⟩ := cm_some hk hix bl ok
    rw [e1, e2, e3]
    refine (complete_some hdk id ok k hk hix).mono ?_
    rintro e W' ⟨rfl, hi, hk⟩
    exact ⟨rfl, ⟨S, fun k hk => .inl hk, h.next hdk.map hi (by cases ok <;> simp)⟩, hk⟩
theorem dm_crash {W : World} {base D m : Nat} {S : Nat → Prop} {bl : List (List Int)} {q : List S32} {fl : List Int} {last : Int} {n : Nat} (h : IsDm W base D m S bl q fl last n) (A : Option Addr) (c : Nat) (ids : List Int) (hC : ∀ W', Kept S W W' → Kd.C (Kd.int .i64) W' A ids.length ids) (hlen : ids.length ≤ 1000000000000000) :
    Calls Try.prog 16 #[.pointer (some ⟨D, 0, none⟩), .slice A ids.length c] W fun e W' => e = .returned (.int .i64 (crE q ids)) ∧ (∃ S', (∀ k, S' k → S k ∨ W.heap.size ≤ k) ∧ IsDm W' base D m S' (crBs bl q ids) (crQ q ids) (crF bl q fl ids) last n) ∧ Kept S W W' := by
  obtain ⟨mo, hdk⟩ := h.dk
  unfold crBs crQ crF
  by_cases ha : ids.all (fun i => decide (0 ≤ ixL (fun x : S32 => x.f0 == i) q 0)) = true
  · obtain ⟨e1, hall⟩ := cr_all ha
    rw [e1, if_pos rfl, if_pos rfl, if_pos rfl]
    refine (crash_ok hdk A c ids hC hlen hall).mono ?_
    rintro e W' ⟨rfl, ⟨ck, hi⟩, hk⟩
    have hl : (ids.foldl (crB q) bl).length = bl.length := by
      have key : ∀ (l : List Int) (b : List (List Int)), (l.foldl (crB q) b).length = b.length := by
        intro l
        induction l with
        | nil => intro b; rfl
        | cons a r ih => intro b; rw [List.foldl_cons, ih]; unfold crB; rw [List.length_set]
      exact key ids bl
    exact ⟨rfl, ⟨_, fun k hk => hk.imp (fun h => h) (fun h => h.1), ⟨⟨_, hi⟩, ⟨_, empty_own hi.map n, AgF.none_ _⟩, by rw [List.length_replicate, hl]⟩⟩, hk⟩
  · obtain ⟨e1, hno⟩ := cr_no ha
    rw [e1, if_neg (by decide), if_neg (by decide), if_neg (by decide)]
    refine (crash_no hdk A c ids (hC W (Kept.refl _ _)) hlen hno).mono ?_
    rintro e W' ⟨rfl, hb⟩
    exact ⟨rfl, ⟨S, fun k hk => .inl hk, h.below hb⟩, Kept.of_below hb⟩
theorem x_writeS {W : World} {base X : Nat} {S : Nat → Prop} {bl : List (List Int)} {q : List S32} {fl : List Int} {last : Int} (h : IsX W base X S bl q fl last) (b : Int) (A : Option Addr) (c : Nat) (x : List Int) (hcx : x.length ≤ c) (hC : ∀ W', Kept S W W' → Kd.C (Kd.int .u8) W' A x.length x) (hlast : last + 1 < 1000000000000000000) :
    Calls Try.prog 42 #[.pointer (some ⟨X, 0, none⟩), .int .i64 b, .slice A x.length c] W fun e W' => e = .returned (.tuple #[.int .i64 (wrN bl q last b x), .int .i64 (wrE bl q b x.length)]) ∧ (∃ S', (∀ k, S' k → S k ∨ W.heap.size ≤ k) ∧ IsX W' base X S' bl (wrQ bl q last b x) fl (wrL bl q last b x)) ∧ Kept S W W' := by
  refine (x_write h b A c x hcx hC hlast).mono ?_
  rintro e W' ⟨rfl, hi, hk⟩
  exact ⟨rfl, ⟨_, fun k hk => hk.imp (fun h => h) (fun h => h.1), hi⟩, hk⟩
theorem x_completeS {W : World} {base X : Nat} {S : Nat → Prop} {bl : List (List Int)} {q : List S32} {fl : List Int} {last : Int} (h : IsX W base X S bl q fl last) (id : Int) (ok : Bool) :
    Calls Try.prog 43 #[.pointer (some ⟨X, 0, none⟩), .int .i64 id, .bool ok] W fun e W' => e = .returned (.int .i64 (cmE q id ok)) ∧ (∃ S', (∀ k, S' k → S k ∨ W.heap.size ≤ k) ∧ IsX W' base X S' (cmB bl q id ok) (cmQ q id) fl last) ∧ Kept S W W' := by
  rcases cm_cases q id with hix | ⟨k, hk, hix⟩
  · obtain ⟨e1, e2, e3⟩ := cm_none hix bl ok
    rw [e1, e2, e3]
    refine (x_complete_none h id ok hix).mono ?_
    rintro e W' ⟨rfl, hb⟩
    exact ⟨rfl, ⟨S, fun k hk => .inl hk, h.below hb⟩, Kept.of_below hb⟩
  · obtain ⟨e1, e2, e3⟩ := cm_some hk hix bl ok
    rw [e1, e2, e3]
    refine (x_complete h id ok k hk hix).mono ?_
    rintro e W' ⟨rfl, hi, hk⟩
    exact ⟨rfl, ⟨_, fun k hk => hk.imp (fun h => h) (fun h => h.1), hi⟩, hk⟩
theorem x_crashS {W : World} {base X : Nat} {S : Nat → Prop} {bl : List (List Int)} {q : List S32} {fl : List Int} {last : Int} (h : IsX W base X S bl q fl last) (A : Option Addr) (c : Nat) (ids : List Int) (hC : ∀ W', Kept S W W' → Kd.C (Kd.int .i64) W' A ids.length ids) (hlen : ids.length ≤ 1000000000000000) :
    Calls Try.prog 47 #[.pointer (some ⟨X, 0, none⟩), .slice A ids.length c] W fun e W' => e = .returned (.int .i64 (crE q ids)) ∧ (∃ S', (∀ k, S' k → S k ∨ W.heap.size ≤ k) ∧ IsX W' base X S' (crBs bl q ids) (crQ q ids) (crF bl q fl ids) last) ∧ Kept S W W' := by
  unfold crBs crQ crF
  by_cases ha : ids.all (fun i => decide (0 ≤ ixL (fun x : S32 => x.f0 == i) q 0)) = true
  · obtain ⟨e1, hall⟩ := cr_all ha
    rw [e1, if_pos rfl, if_pos rfl, if_pos rfl]
    refine (x_crash h A c ids hC hlen hall).mono ?_
    rintro e W' ⟨rfl, hi, hk⟩
    exact ⟨rfl, ⟨_, fun k hk => hk.imp (fun h => h) (fun h => h.1), hi⟩, hk⟩
  · obtain ⟨e1, hno⟩ := cr_no ha
    rw [e1, if_neg (by decide), if_neg (by decide), if_neg (by decide)]
    refine (x_crash_no h A c ids (hC W (Kept.refl _ _)) hlen hno).mono ?_
    rintro e W' ⟨rfl, hb⟩
    exact ⟨rfl, ⟨S, fun k hk => .inl hk, h.below hb⟩, Kept.of_below hb⟩
end Go.Proofs.Ytbopccjcehnfnaa.Dk
