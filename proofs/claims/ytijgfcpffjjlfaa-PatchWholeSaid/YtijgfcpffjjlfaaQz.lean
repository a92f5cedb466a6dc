/- Written by a program of this session. (*Set).Now, Plan, IsDone, New. -/
import Derived.Test.YtijgfcpffjjlfaaQy
namespace Go.Proofs.Ytijgfcpffjjlfaa.Pq
open Go Go.RowKit Go.Shelf Go.Proofs Go.Maps Go.Sort Go.Proofs.Ytijgfcpffjjlfaa.XFb Go.Proofs.YtijgfcpffjjlfaaW.PrintWords Go.Proofs.YtijgfcpffjjlfaaW.PrintLast Go.Proofs.YtijgfcpffjjlfaaW.PrintMore
set_option linter.unusedVariables false
set_option linter.unusedSimpArgs false
theorem free_sub (l : List Pt) : ∀ (os acc : List Int) (i : Int), i ∈ os.foldl (free1 l) acc → i ∈ acc ∨ i ∈ os
  | [], acc, i, h => .inl h
  | o :: r, acc, i, h => by
    rw [List.foldl_cons] at h
    rcases free_sub l r _ i h with h1 | h1
    · unfold free1 at h1
      split at h1
      · exact .inl h1
      · rcases List.mem_append.1 h1 with h1 | h1
        · exact .inl h1
        · rw [List.mem_singleton.1 h1]; exact .inr List.mem_cons_self
    · exact .inr (List.mem_cons_of_mem _ h1)
theorem freeL_sub {l : List Pt} {b i : Int} (h : i ∈ freeL l b) : i ∈ ofL l b := by
  rcases free_sub l _ _ i h with h1 | h1
  · cases h1
  · exact h1
theorem free_len (l : List Pt) : ∀ (os acc : List Int), (os.foldl (free1 l) acc).length ≤ acc.length + os.length
  | [], acc => by simp
  | o :: r, acc => by
    rw [List.foldl_cons]
    have h1 := free_len l r (free1 l acc o)
    have h2 : (free1 l acc o).length ≤ acc.length + 1 := by unfold free1; split <;> simp
    simp only [List.length_cons]
    omega
theorem freeL_len (l : List Pt) (b : Int) : (freeL l b).length ≤ (ids l).length := by
  have h1 := free_len l (ofL l b) []
  have h2 := ofL_len l b
  simp only [List.length_nil] at h1
  unfold freeL
  omega
/-- What Plan tells: an error, bytes, numbers. -/
def planE (l : List Pt) (b : Int) (disk : List Int) : Int := if disk.length ≠ 128 then 1 else if freeL l b = [] then 71 else 0
def planB (l : List Pt) (b : Int) (disk : List Int) : List Int := if planE l b disk = 0 then over l disk (freeL l b) else []
def planI (l : List Pt) (b : Int) (disk : List Int) : List Int := if planE l b disk = 0 then freeL l b else []
set_option maxRecDepth 100000 in
set_option maxHeartbeats 8000000 in
theorem plan_ok {W : World} {base g m d : Nat} {S : Nat → Prop} {l : List Pt} {last : Int} {n : Nat} (h : IsSet W base g m d S l last n) (hn : n ≤ 1000000000) (b : Int) (A : Option Addr) (c : Nat) (disk : List Int) (hD : Kd.C (Kd.int .u8) W A disk.length disk) (hdc : disk.length ≤ c) :
    Calls Try.prog 16 #[.pointer (some ⟨g, 0, none⟩), .int .i64 b, .slice A disk.length c] W fun e W' => ∃ v1 v2, e = .returned (.tuple #[v1, v2, .int .i64 (planE l b disk)]) ∧ RB W' W.heap.size (fun _ => True) v1 (planB l b disk) ∧ RI W' W.heap.size (fun _ => True) v2 (planI l b disk) ∧ Below W.heap.size W W' := by
  have H := Aside0.mk h
  have hc := Aside0.mk h.cells
  have hle := h.len_le
  have hfl := freeL_len l b
  have HD := Aside0.mk hD
  clear h hD
  refine (callsIn_wide (n := 1)).1 ?_
  refine callsIn_of_wp Try.func16 rfl trivial ?_ rfl
  simp only [Try.ntmps16, List.size_toArray, List.length_cons, List.length_nil, Nat.reduceAdd, Nat.reduceSub, Array.replicate_succ, Array.replicate_zero, List.push_toArray, List.append_toArray, List.nil_append, List.cons_append]
  by_cases hd : disk.length = 128
  · have t0 : ((disk.length : Int) != 128) = false := by rw [bne_eq_false_iff_eq]; omega
    have HDD := Aside0.mk hd
    clear hd
    have hs1 : ∀ i ∈ freeL l b, i ∈ ids l := fun i hi => ofL_sub (freeL_sub hi)
    have HS1 := Aside0.mk hs1
    have HPE : Aside0 (planE l b disk = if freeL l b = [] then 71 else 0) := ⟨by unfold planE; rw [if_neg (fun hh => hh HDD.out)]⟩
    clear hs1
    by_cases hz : freeL l b = []
    · have t1 : (((freeL l b).length : Int) == 0) = true := by rw [hz]; rfl
      have e1 := HPE.out
      rw [if_pos hz] at e1
      have HE := Aside0.mk e1
      clear e1 HPE hz
      gi_wp2_with (first
        | (refine ⟨trivial, ?_⟩; gi_at_call 39; refine (callsIn_wide.2 (own_ok _ g _ _ _ hc.out)).mono ?_; rintro e w1 ⟨rfl, hw⟩; rw [hw]; clear hw)
        | (refine ⟨trivial, ?_⟩; gi_at_call 50; refine (callsIn_wide.2 (free_ok H.out hn b)).mono ?_; rintro e W2 ⟨v2, rfl, hr, hb⟩; obtain ⟨AF, cF, rfl⟩ := Kd.R_slice hr; have HF := Aside0.mk hr; have HB2 := Aside0.mk hb; clear hr hb))
      refine bodyPost_ret (results_tmp3 rfl _ _ _) rfl ?_
      refine ⟨_, _, by rw [HE.out]; rfl, ?_, ?_, HB2.out⟩
      · unfold planB; rw [HE.out, if_neg (by decide)]; exact Kd.R_nil _ _ _ _ _
      · unfold planI; rw [HE.out, if_neg (by decide)]; exact Kd.R_nil _ _ _ _ _
    · have t1 : (((freeL l b).length : Int) == 0) = false := by
        rw [beq_eq_false_iff_ne]
        intro hh
        exact hz (List.eq_nil_of_length_eq_zero (by omega))
      have e1 := HPE.out
      rw [if_neg hz] at e1
      have HE := Aside0.mk e1
      clear e1 HPE hz
      gi_wp2_with (first
        | (refine ⟨trivial, ?_⟩; gi_at_call 39; refine (callsIn_wide.2 (own_ok _ g _ _ _ hc.out)).mono ?_; rintro e w1 ⟨rfl, hw⟩; rw [hw]; clear hw)
        | (refine ⟨trivial, ?_⟩; gi_at_call 50; refine (callsIn_wide.2 (free_ok H.out hn b)).mono ?_; rintro e W2 ⟨v2, rfl, hr, hb⟩; obtain ⟨AF, cF, rfl⟩ := Kd.R_slice hr; have HF := Aside0.mk hr; have HB2 := Aside0.mk hb; clear hr hb)
        | (refine ⟨trivial, ?_⟩; gi_at_call 51; refine (callsIn_wide.2 (over_ok (H.out.below HB2.out) A c disk (Kd.C_below HD.out HB2.out) hdc HDD.out AF cF (freeL l b) (Kd.R_reads' HF.out).2.2 HS1.out (by omega))).mono ?_; rintro e W3 ⟨v3, rfl, hr, hb⟩; have HO := Aside0.mk hr; have HB3 := Aside0.mk hb; clear hr hb))
      refine bodyPost_ret (results_tmp3 rfl _ _ _) rfl ?_
      have hs2 := HB2.out.size
      refine ⟨_, _, by rw [HE.out]; rfl, ?_, ?_, below_step HB2.out HB3.out hs2⟩
      · unfold planB; rw [HE.out, if_pos rfl]; exact Kd.R_lower HO.out hs2
      · unfold planI; rw [HE.out, if_pos rfl]; exact Kd.R_below HF.out HB3.out
  · have t0 : ((disk.length : Int) != 128) = true := by rw [bne_iff_ne]; omega
    have HE : Aside0 (planE l b disk = 1) := ⟨by unfold planE; rw [if_pos hd]⟩
    clear hd
    gi_wp2_with (first
      | (refine ⟨trivial, ?_⟩; gi_at_call 39; refine (callsIn_wide.2 (own_ok _ g _ _ _ hc.out)).mono ?_; rintro e w1 ⟨rfl, hw⟩; rw [hw]; clear hw))
    refine bodyPost_ret (results_tmp3 rfl _ _ _) rfl ?_
    refine ⟨_, _, by rw [HE.out]; rfl, ?_, ?_, Below.refl _ _⟩
    · unfold planB; rw [HE.out, if_neg (by decide)]; exact Kd.R_nil _ _ _ _ _
    · unfold planI; rw [HE.out, if_neg (by decide)]; exact Kd.R_nil _ _ _ _ _
/-- What Now tells. -/
def nowE (disk : List Int) : Int := if disk.length ≠ 128 then 1 else 0
def nowB (l : List Pt) (b : Int) (disk : List Int) : List Int := if nowE disk = 0 then over l disk (ofL l b) else []
set_option maxRecDepth 100000 in
set_option maxHeartbeats 8000000 in
theorem now_ok {W : World} {base g m d : Nat} {S : Nat → Prop} {l : List Pt} {last : Int} {n : Nat} (h : IsSet W base g m d S l last n) (hn : n ≤ 1000000000) (b : Int) (A : Option Addr) (c : Nat) (disk : List Int) (hD : Kd.C (Kd.int .u8) W A disk.length disk) (hdc : disk.length ≤ c) :
    Calls Try.prog 26 #[.pointer (some ⟨g, 0, none⟩), .int .i64 b, .slice A disk.length c] W fun e W' => ∃ v1, e = .returned (.tuple #[v1, .int .i64 (nowE disk)]) ∧ RB W' W.heap.size (fun _ => True) v1 (nowB l b disk) ∧ Below W.heap.size W W' := by
  have H := Aside0.mk h
  have hc := Aside0.mk h.cells
  have hle := h.len_le
  have hfl := ofL_len l b
  have HD := Aside0.mk hD
  clear h hD
  refine (callsIn_wide (n := 1)).1 ?_
  refine callsIn_of_wp Try.func26 rfl trivial ?_ rfl
  simp only [Try.ntmps26, List.size_toArray, List.length_cons, List.length_nil, Nat.reduceAdd, Nat.reduceSub, Array.replicate_succ, Array.replicate_zero, List.push_toArray, List.append_toArray, List.nil_append, List.cons_append]
  by_cases hd : disk.length = 128
  · have t0 : ((disk.length : Int) != 128) = false := by rw [bne_eq_false_iff_eq]; omega
    have HDD := Aside0.mk hd
    have HE : Aside0 (nowE disk = 0) := ⟨by unfold nowE; rw [if_neg (fun hh => hh hd)]⟩
    clear hd
    have hs1 : ∀ i ∈ ofL l b, i ∈ ids l := fun i hi => ofL_sub hi
    have HS1 := Aside0.mk hs1
    clear hs1
    gi_wp2_with (first
      | (refine ⟨trivial, ?_⟩; gi_at_call 39; refine (callsIn_wide.2 (own_ok _ g _ _ _ hc.out)).mono ?_; rintro e w1 ⟨rfl, hw⟩; rw [hw]; clear hw)
      | (refine ⟨trivial, ?_⟩; gi_at_call 18; refine (callsIn_wide.2 (of_ok H.out hn b)).mono ?_; rintro e W2 ⟨v2, rfl, hr, hb⟩; obtain ⟨AF, cF, rfl⟩ := Kd.R_slice hr; have HF := Aside0.mk hr; have HB2 := Aside0.mk hb; clear hr hb)
      | (refine ⟨trivial, ?_⟩; gi_at_call 51; refine (callsIn_wide.2 (over_ok (H.out.below HB2.out) A c disk (Kd.C_below HD.out HB2.out) hdc HDD.out AF cF (ofL l b) (Kd.R_reads' HF.out).2.2 HS1.out (by omega))).mono ?_; rintro e W3 ⟨v3, rfl, hr, hb⟩; have HO := Aside0.mk hr; have HB3 := Aside0.mk hb; clear hr hb))
    refine bodyPost_ret (results_tmp2 rfl _ _ _) rfl ?_
    have hs2 := HB2.out.size
    refine ⟨_, by rw [HE.out]; rfl, ?_, below_step HB2.out HB3.out hs2⟩
    unfold nowB; rw [HE.out, if_pos rfl]; exact Kd.R_lower HO.out hs2
  · have t0 : ((disk.length : Int) != 128) = true := by rw [bne_iff_ne]; omega
    have HE : Aside0 (nowE disk = 1) := ⟨by unfold nowE; rw [if_pos hd]⟩
    clear hd
    gi_wp2_with (first
      | (refine ⟨trivial, ?_⟩; gi_at_call 39; refine (callsIn_wide.2 (own_ok _ g _ _ _ hc.out)).mono ?_; rintro e w1 ⟨rfl, hw⟩; rw [hw]; clear hw))
    refine bodyPost_ret (results_tmp2 rfl _ _ _) rfl ?_
    refine ⟨_, by rw [HE.out]; rfl, ?_, Below.refl _ _⟩
    unfold nowB; rw [HE.out, if_neg (by decide)]; exact Kd.R_nil _ _ _ _ _
set_option maxRecDepth 100000 in
set_option maxHeartbeats 8000000 in
theorem isdone_ok {W : World} {base g m d : Nat} {S : Nat → Prop} {l : List Pt} {last : Int} {n : Nat} (h : IsSet W base g m d S l last n) (i : Int) (hw : (Lit.int .i64 i).wf = true) :
    Calls Try.prog 20 #[.pointer (some ⟨g, 0, none⟩), .int .i64 i] W fun e W' => e = .returned (.bool (decide (1 ≤ i ∧ i ≤ last ∧ i ∉ ids l))) ∧ Below W.heap.size W W' := by
  have hc := Aside0.mk h.cells
  have c1 : W.cell? ⟨g, 1, none⟩ = some (.map (some d)) := by simp [World.cell?, h.cells]
  obtain ⟨D, h3, h4⟩ := h.dn
  have hkey : keyOf Try.prog 3 (.int .i64 i) = some (.int .i64 i) := Maps.keyOf_int_mk Try.underlying3 hw
  have hb1 := Aside0.mk (below_alloc (Below.refl W.heap.size W) (.cells #[] 78))
  have hrun : (Instr.lookup 52 (.map (some d)) (.int .i64 i) true).run Try.prog W = .ok (.tuple #[.agg #[], .bool (decide (1 ≤ i ∧ i ≤ last ∧ i ∉ ids l))]) W := by
    obtain ⟨v, ps, r1, e1⟩ := h3.look_ok law Try.underlying52 (zero_unit W) unitElem_mk hkey
    obtain ⟨rfl, _⟩ := unitElem_inv e1
    rw [h4 i] at r1
    exact r1
  clear h h3 h4 hkey
  generalize decide (1 ≤ i ∧ i ≤ last ∧ i ∉ ids l) = r at *
  refine (callsIn_wide (n := 1)).1 ?_
  refine callsIn_of_wp Try.func20 rfl trivial ?_ rfl
  simp only [Try.ntmps20, List.size_toArray, List.length_cons, List.length_nil, Nat.reduceAdd, Nat.reduceSub, Array.replicate_succ, Array.replicate_zero, List.push_toArray, List.append_toArray, List.nil_append, List.cons_append]
  gi_wp2_with (first
    | (refine ⟨trivial, ?_⟩; gi_at_call 39; refine (callsIn_wide.2 (own_ok _ g _ _ _ hc.out)).mono ?_; rintro e w1 ⟨rfl, hw⟩; rw [hw]; clear hw))
  go_ret
  exact ⟨rfl, hb1.out⟩
end Go.Proofs.Ytijgfcpffjjlfaa.Pq
