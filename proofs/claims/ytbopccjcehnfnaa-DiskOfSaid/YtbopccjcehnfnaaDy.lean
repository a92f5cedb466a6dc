/- Written by a program of this session. A disk with what its map of reads that fail holds: Read and Fail. -/
import Derived.Test.YtbopccjcehnfnaaDt
namespace Go.Proofs.Ytbopccjcehnfnaa.Dk
open Go Go.RowKit Go.Shelf Go.Proofs Go.Maps Go.Proofs.Ytbopccjcehnfnaa.Sp Go.Proofs.Ytbopccjcehnfnaa.XFb Go.Proofs.YtbopccjcehnfnaaW.PrintWords Go.Proofs.YtbopccjcehnfnaaW.PrintLast Go.Proofs.YtbopccjcehnfnaaW.PrintMore
set_option linter.unusedVariables false
set_option linter.unusedSimpArgs false
/-- The error of a read; how many reads fail behind it; its bytes. -/
def rdE (bl : List (List Int)) (fl : List Int) (b : Int) : Int := if ¬ (0 ≤ b ∧ b < bl.length) then 1 else if 0 < fl.getD b.toNat 0 then 4 else 0
def rdF (bl : List (List Int)) (fl : List Int) (b : Int) : List Int := if rdE bl fl b = 4 then fl.set b.toNat (fl.getD b.toNat 0 - 1) else fl
def rdB (bl : List (List Int)) (fl : List Int) (b : Int) : List Int := if rdE bl fl b = 0 then bl.getD b.toNat [] else []
def faE (bl : List (List Int)) (b t : Int) : Int := if 0 ≤ b ∧ b < bl.length ∧ 0 ≤ t ∧ t ≤ 1000 then 0 else 1
def faF (bl : List (List Int)) (fl : List Int) (b t : Int) : List Int := if faE bl b t = 0 then fl.set b.toNat t else fl
theorem i64_bd {x : Int} (h : (Lit.int .i64 x).wf = true) : -9223372036854775808 ≤ x ∧ x ≤ 9223372036854775807 := by
  simp [Lit.wf, IntKind.min, IntKind.max, IntKind.bits, IntKind.signed] at h
  omega
/-- A map reads as a list. -/
def AgF (Dm : DataW Unit) (fl : List Int) : Prop := ∀ b : Nat, b < fl.length → Dm.atKey (.int .i64 (b : Int)) (.lit (.int .i64 0)) = .lit (.int .i64 (fl.getD b 0))
theorem AgF.put {Dm : DataW Unit} {fl : List Int} (h : AgF Dm fl) (hm : IsMap Dm) (b : Nat) (c : Int) : AgF (Dm.put (.int .i64 (b : Int)) (.lit (.int .i64 c))) (fl.set b c) := fun k hk => by
  rw [List.length_set] at hk
  by_cases e : k = b
  · subst e
    rw [atKey_put_same hm (show WideAt.IsKeyLit (Lit.int .i64 (k : Int)) from trivial), List.getD_eq_getElem?_getD, List.getElem?_set_self hk]
    rfl
  · rw [atKey_put_other (by intro hh; injection hh with _ hh; omega), h k hk, List.getD_eq_getElem?_getD, List.getD_eq_getElem?_getD, List.getElem?_set_ne (fun hh => e hh.symm)]
theorem AgF.none_ (k : Nat) : AgF (.map []) (List.replicate k 0) := fun b hb => by
  rw [List.length_replicate] at hb
  rw [WideAt.atKey_none _ (fun p hp => by cases hp)]
  simp [List.getD_eq_getElem?_getD, hb]
structure IsDm (W : World) (base D m : Nat) (S : Nat → Prop) (bl : List (List Int)) (q : List S32) (fl : List Int) (last : Int) (n : Nat) : Prop where
  dk : ∃ mo, IsDk W base D m S bl q mo last
  own : ∃ Dm, Fz W m n Dm ∧ AgF Dm fl
  fails : fl.length = bl.length
theorem IsDm.kept {W W' : World} {base D m : Nat} {S S2 : Nat → Prop} {bl : List (List Int)} {q : List S32} {fl : List Int} {last : Int} {n : Nat} (h : IsDm W base D m S bl q fl last n) (hk : Kept S2 W W') (hn : ∀ k, S k → ¬ S2 k) : IsDm W' base D m S bl q fl last n := by
  obtain ⟨⟨mo, h1⟩, ⟨Dm, h2, h3⟩, h4⟩ := h
  exact ⟨⟨mo, h1.kept hk hn⟩, ⟨Dm, h2.at_ (hk.same m (h1.low m h1.inM).2 (hn m h1.inM)), h3⟩, h4⟩
theorem IsDm.below {W W' : World} {base D m : Nat} {S : Nat → Prop} {bl : List (List Int)} {q : List S32} {fl : List Int} {last : Int} {n : Nat} (h : IsDm W base D m S bl q fl last n) (hb : Below W.heap.size W W') : IsDm W' base D m S bl q fl last n :=
  h.kept (S2 := fun _ => False) (Kept.of_below hb) (fun _ _ h => h)
theorem IsDm.mono {W : World} {base D m : Nat} {S : Nat → Prop} {bl : List (List Int)} {q : List S32} {fl : List Int} {last : Int} {n n' : Nat} (h : IsDm W base D m S bl q fl last n) (hn : n ≤ n') : IsDm W base D m S bl q fl last n' := by
  obtain ⟨h1, ⟨Dm, h2, h3⟩, h4⟩ := h
  exact ⟨h1, ⟨Dm, h2.mono hn, h3⟩, h4⟩
/-- Behind a step that has left the map. -/
theorem IsDm.next {W W' : World} {base D m : Nat} {S S' : Nat → Prop} {bl bl' : List (List Int)} {q q' : List S32} {mo : Obj} {fl : List Int} {last last' : Int} {n : Nat} (h : IsDm W base D m S bl q fl last n) (hm : W.heap[m]? = some mo) (h' : IsDk W' base D m S' bl' q' mo last') (hl : bl'.length = bl.length) : IsDm W' base D m S' bl' q' fl last' n := by
  obtain ⟨h1, ⟨Dm, h2, h3⟩, h4⟩ := h
  exact ⟨⟨mo, h'⟩, ⟨Dm, h2.at_ (h'.map.trans hm.symm), h3⟩, h4.trans hl.symm⟩
/-- Behind a step that has turned the map alone. -/
theorem IsDk.map_turned {W W' : World} {base D m : Nat} {S : Nat → Prop} {bl : List (List Int)} {q : List S32} {mo mo' : Obj} {last : Int} (h : IsDk W base D m S bl q mo last) (hg : W.grownBy W' (some m)) (hm : W'.heap[m]? = some mo') (hmm : ∃ es c, mo' = .map es c) : IsDk W' base D m S bl q mo' last := by
  obtain ⟨h1, ⟨vB, vQ, hD, hB, hQ⟩, hm0, ⟨es, c, rfl⟩, h2, h3, h4⟩ := h
  have hne : D ≠ m := fun e => by rw [e, hm0] at hD; simp at hD
  have hk : ∀ k, k < W.heap.size → k ≠ m → W'.heap[k]? = W.heap[k]? := fun k hk hn => hg.block k hk (fun e => hn (Option.some.inj e))
  refine ⟨h1, ⟨vB, vQ, (hk D (h4 D h2).2 hne).trans hD, ?_, ?_⟩, hm, hmm, h2, h3, fun k hs => ⟨(h4 k hs).1, Nat.lt_of_lt_of_le (h4 k hs).2 hg.size⟩⟩
  · exact Kd.R_mono (Kd.R_step (R_mapo hB hm0) (fun j hj hlt => hk j hlt hj.2)) (fun j hj => hj.1)
  · exact Kd.R_mono (Kd.R_step (R_mapo hQ hm0) (fun j hj hlt => hk j hlt hj.2)) (fun j hj => hj.1)
theorem zero_int (w : World) : (zeroValue 3).run Try.prog w = .ok (.int .i64 0) w := by
  first | rfl | simp [zeroValue]
set_option maxRecDepth 100000 in
set_option maxHeartbeats 4000000 in
theorem dm_read {W : World} {base D m : Nat} {S : Nat → Prop} {bl : List (List Int)} {q : List S32} {fl : List Int} {last : Int} {n : Nat} (h : IsDm W base D m S bl q fl last n) (b : Int) (hwb : (Lit.int .i64 b).wf = true) (hn : n < maxLen) :
    Calls Try.prog 17 #[.pointer (some ⟨D, 0, none⟩), .int .i64 b] W fun e W' => ∃ v, e = .returned (.tuple #[v, .int .i64 (rdE bl fl b)]) ∧ Kd.R (Kd.int .u8) 5 W' W.heap.size (fun _ => True) v (rdB bl fl b) ∧ IsDm W' base D m S bl q (rdF bl fl b) last (n + 1) ∧ Kept S W W' := by
  have HD := Aside0.mk h
  obtain ⟨⟨mo, hdk⟩, ⟨Dm, hown, hag⟩, hfl⟩ := h
  have H := Aside0.mk hdk
  have HO := Aside0.mk hown
  have HA := Aside0.mk hag
  obtain ⟨hf, ⟨vB, vQ, hD, hB, hQ⟩, hm, _, _, hSm, _⟩ := hdk
  have HB := Aside0.mk hB
  obtain ⟨AB, cB, rfl⟩ := Kd.R_slice hB
  have c0 : W.cell? ⟨D, 0, none⟩ = some (.slice AB bl.length cB) := by simp [World.cell?, hD]
  have c2 : W.cell? ⟨D, 2, none⟩ = some (.map (some m)) := by simp [World.cell?, hD]
  have HF := Aside0.mk hf
  clear hB hQ hag hown hm hf
  refine (callsIn_wide (n := 1)).1 ?_
  refine callsIn_of_wp Try.func17 rfl trivial ?_ rfl
  simp only [Try.ntmps17, List.size_toArray, List.length_cons, List.length_nil, Nat.reduceAdd, Nat.reduceSub, Array.replicate_succ, Array.replicate_zero, List.push_toArray, List.append_toArray, List.nil_append, List.cons_append]
  by_cases h0 : 0 ≤ b ∧ b < bl.length
  · have e0 : (if 0 ≤ b ∧ b < (bl.length : Int) then (0 : Int) else 1) = 0 := if_pos h0
    obtain ⟨i, rfl⟩ : ∃ i : Nat, b = i := ⟨b.toNat, by omega⟩
    have hil : i < bl.length := by omega
    have hkey : keyOf Try.prog 3 (.int .i64 (i : Int)) = some (.int .i64 (i : Int)) := Maps.keyOf_int_mk Try.underlying3 hwb
    obtain ⟨c, hrun, hat, hwc⟩ := HO.out.lookup_int (Maps.int_keyed Try.underlying3) Try.underlying43 Try.underlying3 (zero_int W) hkey
    have hc : c = fl.getD i 0 := by
      rw [HA.out i (by omega)] at hat
      injection hat with hat; injection hat with _ hat; exact hat.symm
    subst hc
    clear hat
    obtain ⟨c, hc⟩ : ∃ c, fl.getD i 0 = c := ⟨_, rfl⟩
    rw [hc] at hrun hwc
    by_cases hcp : 0 < c
    · have t1 : decide (0 < c) = true := decide_eq_true hcp
      have hE : rdE bl fl (i : Int) = 4 := by unfold rdE; rw [if_neg (fun hh => hh h0), Int.toNat_natCast, hc, if_pos hcp]
      have hF : rdF bl fl (i : Int) = fl.set i (c - 1) := by unfold rdF; rw [if_pos hE, Int.toNat_natCast, hc]
      have hBy : rdB bl fl (i : Int) = [] := by unfold rdB; rw [if_neg (by rw [hE]; decide)]
      rw [hE, hF, hBy]
      have hw1 : wrap64 (c - 1) = c - 1 := IntWalk.wrap64_in _ (by have := i64_bd hwc; omega)
      have hwv : (Lit.int .i64 (c - 1)).wf = true := by have := i64_bd hwc; refine WalkArith.wf_i64 ?_; omega
      have HFF := Aside0.mk hfl
      clear hE hF hBy hc hfl h0
      gi_wp2_with (first
        | (refine ⟨trivial, ?_⟩; gi_at_call 38; refine (callsIn_wide.2 (look_ok H.out _)).mono ?_; rintro e w0 ⟨rfl, hw⟩; rw [e0, hw]; clear hw)
        | (gi_at_mapUpdate; refine wpListIn_mapUpdate_own _ rfl _ _ _ 43 rfl 3 3 (Maps.int_keyed Try.underlying3) Try.underlying43 _ m n _ rfl HO.out hn _ (.int .i64 (c - 1)) _ rfl (show Value.int .i64 (wrap64 (c - 1)) = _ by rw [hw1]) hkey _ [] (plainElem_int Try.underlying3 hwv) ?_; intro w2 hout2 hg2; go_frame))
      refine bodyPost_ret (results_tmp2 rfl _ _ _) rfl ?_
      have hmw := hout2.lt
      obtain ⟨es, ck, hm2, hr2⟩ := hout2
      exact ⟨_, rfl, Kd.R_nil _ _ _ _ _, ⟨⟨_, H.out.map_turned hg2 hm2 ⟨_, _, rfl⟩⟩, ⟨_, ⟨es, ck, hm2, hr2⟩, HA.out.put HO.out.isMap i (c - 1)⟩, by rw [List.length_set]; exact HFF.out⟩, Kept.of_grown hg2 (fun k hk => by cases hk; exact hSm)⟩
    · have t1 : decide (0 < c) = false := decide_eq_false hcp
      have hE : rdE bl fl (i : Int) = 0 := by unfold rdE; rw [if_neg (fun hh => hh h0), Int.toNat_natCast, hc, if_neg hcp]
      have hF : rdF bl fl (i : Int) = fl := by unfold rdF; rw [if_neg (by rw [hE]; decide)]
      have hBy : rdB bl fl (i : Int) = bl[i] := by unfold rdB; rw [if_pos hE, Int.toNat_natCast]; simp [List.getD_eq_getElem?_getD, hil]
      rw [hE, hF, hBy]
      obtain ⟨ad, A0, a0, rfl, ca, la, ra⟩ := at_rows (Kd.R_reads' HB.out).2.2 i hil
      rw [show bl.getD i [] = bl[i] by simp [List.getD_eq_getElem?_getD, hil]] at ca la ra
      have hxl : bl[i].length ≤ 1000000 := by have := HF.out.each bl[i] (List.getElem_mem _); omega
      generalize bl[i] = x at *
      have RA := Aside0.mk ra
      have hf : bytes_Clone.f x = some x := by unfold bytes_Clone.f; rw [if_pos (by omega)]
      clear hE hF hBy hc hfl h0 ra
      gi_wp2_with (first
        | (refine ⟨trivial, ?_⟩; gi_at_call 38; refine (callsIn_wide.2 (look_ok H.out _)).mono ?_; rintro e w0 ⟨rfl, hw⟩; rw [e0, hw]; clear hw)
        | (refine ⟨trivial, ?_⟩; gi_at_call 29; refine (callsIn_wide.2 (bytes_Clone.calls A0 a0 x x W RA.out la hf)).mono ?_; rintro e w4 ⟨v0, rfl, hr1, hb1⟩; have HR := Aside0.mk hr1; have HW := Aside0.mk hb1; clear hr1 hb1))
      refine bodyPost_ret (results_tmp2 rfl _ _ _) rfl ?_
      exact ⟨_, rfl, HR.out, (HD.out.below HW.out).mono (Nat.le_succ n), Kept.of_below HW.out⟩
  · have e0 : (if 0 ≤ b ∧ b < (bl.length : Int) then (0 : Int) else 1) = 1 := if_neg h0
    have hE : rdE bl fl b = 1 := by unfold rdE; rw [if_pos h0]
    have hF : rdF bl fl b = fl := by unfold rdF; rw [if_neg (by rw [hE]; decide)]
    have hBy : rdB bl fl b = [] := by unfold rdB; rw [if_neg (by rw [hE]; decide)]
    rw [hE, hF, hBy]
    clear hE hF hBy hfl h0
    gi_wp2_with (first
      | (refine ⟨trivial, ?_⟩; gi_at_call 38; refine (callsIn_wide.2 (look_ok H.out _)).mono ?_; rintro e w0 ⟨rfl, hw⟩; rw [e0, hw]; clear hw))
    refine bodyPost_ret (results_tmp2 rfl _ _ _) rfl ?_
    exact ⟨_, rfl, Kd.R_nil _ _ _ _ _, HD.out.mono (Nat.le_succ n), Kept.refl _ _⟩
set_option maxRecDepth 100000 in
set_option maxHeartbeats 4000000 in
theorem dm_fail {W : World} {base D m : Nat} {S : Nat → Prop} {bl : List (List Int)} {q : List S32} {fl : List Int} {last : Int} {n : Nat} (h : IsDm W base D m S bl q fl last n) (b t : Int) (hwb : (Lit.int .i64 b).wf = true) (hwv : (Lit.int .i64 t).wf = true) (hn : n < maxLen) :
    Calls Try.prog 19 #[.pointer (some ⟨D, 0, none⟩), .int .i64 b, .int .i64 t] W fun e W' => e = .returned (.int .i64 (faE bl b t)) ∧ IsDm W' base D m S bl q (faF bl fl b t) last (n + 1) ∧ Kept S W W' := by
  have HD := Aside0.mk h
  obtain ⟨⟨mo, hdk⟩, ⟨Dm, hown, hag⟩, hfl⟩ := h
  have H := Aside0.mk hdk
  have HO := Aside0.mk hown
  have HA := Aside0.mk hag
  obtain ⟨hf, ⟨vB, vQ, hD, hB, hQ⟩, hm, _, _, hSm, _⟩ := hdk
  have c2 : W.cell? ⟨D, 2, none⟩ = some (.map (some m)) := by simp [World.cell?, hD]
  clear hB hQ hag hown hm hf
  refine (callsIn_wide (n := 1)).1 ?_
  refine callsIn_of_wp Try.func19 rfl trivial ?_ rfl
  simp only [Try.ntmps19, List.size_toArray, List.length_cons, List.length_nil, Nat.reduceAdd, Nat.reduceSub, Array.replicate_succ, Array.replicate_zero, List.push_toArray, List.append_toArray, List.nil_append, List.cons_append]
  by_cases h0 : 0 ≤ b ∧ b < bl.length
  · have e0 : (if 0 ≤ b ∧ b < (bl.length : Int) then (0 : Int) else 1) = 0 := if_pos h0
    by_cases h1 : t < 0
    · have t1 : decide (t < 0) = true := decide_eq_true h1
      have hE : faE bl b t = 1 := by unfold faE; rw [if_neg (by omega)]
      have hF : faF bl fl b t = fl := by unfold faF; rw [if_neg (by rw [hE]; decide)]
      rw [hE, hF]
      clear hE hF hfl h0
      gi_wp2_with (first
        | (refine ⟨trivial, ?_⟩; gi_at_call 38; refine (callsIn_wide.2 (look_ok H.out _)).mono ?_; rintro e w0 ⟨rfl, hw⟩; rw [e0, hw]; clear hw))
      go_ret
      exact ⟨rfl, HD.out.mono (Nat.le_succ n), Kept.refl _ _⟩
    · have t1 : decide (t < 0) = false := decide_eq_false h1
      by_cases h2 : 1000 < t
      · have t2 : decide (1000 < t) = true := decide_eq_true h2
        have hE : faE bl b t = 1 := by unfold faE; rw [if_neg (by omega)]
        have hF : faF bl fl b t = fl := by unfold faF; rw [if_neg (by rw [hE]; decide)]
        rw [hE, hF]
        clear hE hF hfl h0
        gi_wp2_with (first
          | (refine ⟨trivial, ?_⟩; gi_at_call 38; refine (callsIn_wide.2 (look_ok H.out _)).mono ?_; rintro e w0 ⟨rfl, hw⟩; rw [e0, hw]; clear hw))
        go_ret
        exact ⟨rfl, HD.out.mono (Nat.le_succ n), Kept.refl _ _⟩
      · have t2 : decide (1000 < t) = false := decide_eq_false h2
        have hE : faE bl b t = 0 := by unfold faE; rw [if_pos (by omega)]
        have hF : faF bl fl b t = fl.set b.toNat t := by unfold faF; rw [if_pos hE]
        rw [hE, hF]
        obtain ⟨i, rfl⟩ : ∃ i : Nat, b = i := ⟨b.toNat, by omega⟩
        have hkey : keyOf Try.prog 3 (.int .i64 (i : Int)) = some (.int .i64 (i : Int)) := Maps.keyOf_int_mk Try.underlying3 hwb
        have HFF := Aside0.mk hfl
        clear hE hF hfl h0
        gi_wp2_with (first
          | (refine ⟨trivial, ?_⟩; gi_at_call 38; refine (callsIn_wide.2 (look_ok H.out _)).mono ?_; rintro e w0 ⟨rfl, hw⟩; rw [e0, hw]; clear hw)
          | (gi_at_mapUpdate; refine wpListIn_mapUpdate_own _ rfl _ _ _ 43 rfl 3 3 (Maps.int_keyed Try.underlying3) Try.underlying43 _ m n _ rfl HO.out hn _ _ _ rfl rfl hkey _ [] (plainElem_int Try.underlying3 hwv) ?_; intro w2 hout2 hg2; go_frame))
        go_ret
        obtain ⟨es, ck, hm2, hr2⟩ := hout2
        exact ⟨rfl, ⟨⟨_, H.out.map_turned hg2 hm2 ⟨_, _, rfl⟩⟩, ⟨_, ⟨es, ck, hm2, hr2⟩, HA.out.put HO.out.isMap i t⟩, by rw [List.length_set]; exact HFF.out⟩, Kept.of_grown hg2 (fun k hk => by cases hk; exact hSm)⟩
  · have e0 : (if 0 ≤ b ∧ b < (bl.length : Int) then (0 : Int) else 1) = 1 := if_neg h0
    have hE : faE bl b t = 1 := by unfold faE; rw [if_neg (by omega)]
    have hF : faF bl fl b t = fl := by unfold faF; rw [if_neg (by rw [hE]; decide)]
    rw [hE, hF]
    clear hE hF hfl h0
    gi_wp2_with (first
      | (refine ⟨trivial, ?_⟩; gi_at_call 38; refine (callsIn_wide.2 (look_ok H.out _)).mono ?_; rintro e w0 ⟨rfl, hw⟩; rw [e0, hw]; clear hw))
    go_ret
    exact ⟨rfl, HD.out.mono (Nat.le_succ n), Kept.refl _ _⟩
end Go.Proofs.Ytbopccjcehnfnaa.Dk
