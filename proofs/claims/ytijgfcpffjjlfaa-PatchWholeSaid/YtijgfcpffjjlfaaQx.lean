/- Written by a program of this session. (*Set).over. -/
import Derived.BigQuiet
import Derived.Deep.QuietTactic
import Derived.Test.YtijgfcpffjjlfaaQw
import Derived.Test.YtijgfcpffjjlfaaQc
namespace Go.Proofs.Ytijgfcpffjjlfaa.Pq
open Go Go.RowKit Go.Shelf Go.Proofs Go.Maps Go.Sort Go.Proofs.Ytijgfcpffjjlfaa.XFb Go.Proofs.YtijgfcpffjjlfaaW.PrintWords Go.Proofs.YtijgfcpffjjlfaaW.PrintLast Go.Proofs.YtijgfcpffjjlfaaW.PrintMore
set_option linter.unusedVariables false
set_option linter.unusedSimpArgs false
section
variable {P : Program} {ops : Array Oper} {o : Oper} {a : Act} {Q : Exit → Act → World → Prop} {Kc : Act → World → Prop} {W w1 : World} {v1 : Value}
theorem copy_step (hw : Region.wanted o (yielded ops a.tmps) = true) (s x : Operand) (ts : Array TypeId)
    (ho : o.op = .call { callee := .builtin .copy, args := #[s, x], argTypes := ts }) (u y : Value) (hs : a.eval s = u) (hx : a.eval x = y) (hrun : (Builtin.copy_ ts o.type #[u, y]).run P W = .ok v1 w1) (h : Kc (a.put o.dst v1) w1) :
    if Region.wanted o (yielded ops a.tmps) = true then Oper.wp P o a W Kc Q else Kc (a.put o.dst undef) W := by
  rw [if_pos hw]
  unfold Oper.wp execOp
  simp only [ho, resolve, invoke, builtin, Sem.run_bind, Sem.run_pure, Result.andThen_ok, List.map_toArray, List.map_cons, List.map_nil, hs, hx, hrun]
  exact h
end
theorem put1_len {out : List Int} {p : Pt} (h0 : 0 ≤ p.off) (h : p.off + p.by_.length ≤ out.length) : (put1 out p).length = out.length := by
  unfold put1
  simp only [List.length_append, List.length_take, List.length_drop]
  omega
theorem over_len {l : List Pt} {last : Int} (hf : Fits l last) : ∀ (is : List Int) (out : List Int), out.length = 128 → (∀ i ∈ is, i ∈ ids l) → (is.foldl (fun o i => put1 o (get l i)) out).length = 128
  | [], out, h, _ => h
  | i :: r, out, h, hi => by
    have h1 := (get_id (hi i (by simp))).2
    rw [List.foldl_cons]
    exact over_len hf r _ (by rw [put1_len (hf.off0 _ h1) (by have := hf.offm _ h1; omega)]; exact h) (fun j hj => hi j (by simp [hj]))
set_option maxRecDepth 100000 in
set_option maxHeartbeats 8000000 in
theorem over_ok {W : World} {base g m d : Nat} {S : Nat → Prop} {l : List Pt} {last : Int} {n : Nat} (h : IsSet W base g m d S l last n) (A : Option Addr) (c : Nat) (disk : List Int) (hD : Kd.C (Kd.int .u8) W A disk.length disk) (hdc : disk.length ≤ c) (hd : disk.length = 128)
    (A9 : Option Addr) (c9 : Nat) (is : List Int) (hI : Kd.C (Kd.int .i64) W A9 is.length is) (his : ∀ i ∈ is, i ∈ ids l) (hil : is.length ≤ 1000000000) :
    Calls Try.prog 51 #[.pointer (some ⟨g, 0, none⟩), .slice A disk.length c, .slice A9 is.length c9] W fun e W' => ∃ v, e = .returned v ∧ RB W' W.heap.size (fun _ => True) v (over l disk is) ∧ Below W.heap.size W W' := by
  have H := Aside0.mk h
  have hfi := Aside0.mk h.fits
  have HI := Aside0.mk hI
  have HIS := Aside0.mk his
  have hf : slices_Clone_byte_byte.f disk = some disk := by unfold slices_Clone_byte_byte.f; rw [if_pos (by omega)]
  have HDD := Aside0.mk hd
  have HD := Aside0.mk hD
  clear h hI his hD hd
  refine (callsIn_wide (n := 1)).1 ?_
  refine callsIn_of_wp Try.func51 rfl trivial ?_ rfl
  simp only [Try.ntmps51, List.size_toArray, List.length_cons, List.length_nil, Nat.reduceAdd, Nat.reduceSub, Array.replicate_succ, Array.replicate_zero, List.push_toArray, List.append_toArray, List.nil_append, List.cons_append]
  gi_wp2_with (first
    | (refine ⟨trivial, ?_⟩; gi_at_call 44; refine (callsIn_wide.2 (slices_Clone_byte_byte.calls A c disk disk _ HD.out hdc hf)).mono ?_; rintro e W1 ⟨v1, rfl, hr, hb⟩; obtain ⟨g1, c1, hv1, _⟩ := Kd.R_form hr (by have := HDD.out; omega); rw [HDD.out] at hv1; subst hv1; have HO := Aside0.mk hr; have HB1 := Aside0.mk hb; clear hr hb))
  gi_loopw [15] (fun v15 wr => ∃ (i : Nat) (out : List Int), v15 = .int .i64 (i : Int) ∧ i ≤ is.length ∧ Aside0 (out = (is.take i).foldl (fun o i => put1 o (get l i)) disk) ∧ Aside0 (RB wr W.heap.size (fun _ => True) (.slice (some ⟨g1, 0, none⟩) 128 c1) out) ∧ Aside0 (Below W.heap.size W wr)) (fun v15 _ => is.length - (intOf v15).toNat)
  case atStart => exact ⟨0, disk, rfl, Nat.zero_le _, ⟨rfl⟩, HO, HB1⟩
  case round =>
    obtain ⟨i, out, rfl, hi, HE, HR, HW⟩ := hrel
    by_cases hlt : i < is.length
    · have t1 : decide ((i : Int) < (is.length : Int)) = true := decide_eq_true (by omega)
      obtain ⟨ad, hA, k0⟩ := at_n (Kd.C_below HI.out HW.out) i hlt
      subst hA
      have hg : is.getD i 0 = is[i] := by simp [List.getD_eq_getElem?_getD, hlt]
      rw [hg] at k0
      have hx := HIS.out is[i] (List.getElem_mem hlt)
      have htk : (is.take (i + 1)).foldl (fun o i => put1 o (get l i)) disk = put1 out (get l is[i]) := by
        rw [List.take_add_one, List.getElem?_eq_getElem hlt, List.foldl_append, ← HE.out]
        rfl
      have hol : out.length = 128 := by
        rw [HE.out]
        exact over_len hfi.out _ _ HDD.out (fun j hj => HIS.out j (List.mem_of_mem_take hj))
      generalize is[i] = x at *
      have hs := H.out.below HW.out
      have c2 := hs.map_cell
      obtain ⟨A2, k2, B2, j2, r1, r2, q1, q2⟩ := hs.look x (wf_id hfi.out hx)
      have hm := (get_id hx).2
      have h0 := hfi.out.off0 _ hm
      have hln := hfi.out.len0 _ hm
      have hom := hfi.out.offm _ hm
      generalize hgp : get l x = p at r2 q1 q2 h0 hln hom htk
      obtain ⟨o, ho⟩ : ∃ o : Nat, p.off = (o : Int) := ⟨p.off.toNat, by omega⟩
      rw [ho] at r2 hom
      have HHO := Aside0.mk ho
      have hcap : 128 ≤ c1 := by
        have h1 := (Kd.R_own HR.out)
        obtain ⟨inner, hown⟩ := h1
        rcases hown.2 with ⟨hv, _⟩ | ⟨g2, cap2, cur, hv, _, _, hn2, _⟩
        · cases hv
        · injection hv with _ _ hv3
          rw [hol] at hn2
          omega
      have hgd : W.heap.size ≤ g1 ∧ g1 < wr.heap.size := by
        obtain ⟨inner, hown⟩ := Kd.R_own HR.out
        exact ⟨own_base hown g1 rfl, own_lt hown g1 rfl⟩
      have hbx := World.alloc_heap_new wr (.cells #[.int .i64 p.id, .int .i64 p.blk, .int .i64 (o : Int), .slice A2 p.by_.length k2, .slice B2 p.nd.length j2] 44)
      have hrO := Kd.R_below HR.out (below_alloc (Below.refl wr.heap.size wr) (.cells #[.int .i64 p.id, .int .i64 p.blk, .int .i64 (o : Int), .slice A2 p.by_.length k2, .slice B2 p.nd.length j2] 44))
      have hqO := Kd.R_below q1 (below_alloc (Below.refl wr.heap.size wr) (.cells #[.int .i64 p.id, .int .i64 p.blk, .int .i64 (o : Int), .slice A2 p.by_.length k2, .slice B2 p.nd.length j2] 44))
      have hdr : ∀ W0 : World, Below W0.heap.size W0 W0.drew := fun W0 => ⟨rfl, rfl, rfl, Nat.le_refl _, fun _ _ => rfl⟩
      obtain ⟨A3, hA3⟩ : ∃ ad3, A2 = some ad3 := by
        rcases A2 with _ | ad3
        · obtain ⟨_, hown⟩ := Kd.R_own q1
          rcases hown.2 with ⟨_, hz⟩ | ⟨_, _, _, hv, _⟩
          · omega
          · cases hv
        · exact ⟨ad3, rfl⟩
      subst hA3
      have hcopy := Go.Proofs.Ytijgfcpffjjlfaa.Ca.dirs_copyAt (wr.alloc (.cells #[.int .i64 p.id, .int .i64 p.blk, .int .i64 (o : Int), .slice (some A3) p.by_.length k2, .slice B2 p.nd.length j2] 44)).drew W.heap.size g1 c1 o A3 k2 out p.by_ (fun _ => True) (by rw [hol]; exact Kd.R_below hrO (hdr _)) (Kd.R_reads' (Kd.R_below hqO (hdr _))).2.2 (by omega) hln
      rw [hol] at hcopy
      obtain ⟨W5, hrun0, hr5, hg5⟩ := hcopy
      have hrun := Aside0.mk hrun0
      have HR5 := Aside0.mk hr5
      have HG5 := Aside0.mk hg5
      have HTK := Aside0.mk htk
      have HWb := Aside0.mk (below_alloc HW.out (.cells #[.int .i64 p.id, .int .i64 p.blk, .int .i64 (o : Int), .slice (some A3) p.by_.length k2, .slice B2 p.nd.length j2] 44))
      have HOL := Aside0.mk hol
      have hoc : ¬ (c1 = o) := by omega
      have ho1 : (o : Int) ≤ 128 := by omega
      have ho2 : o ≤ 128 := by omega
      have ho3 : o ≤ c1 := by omega
      obtain ⟨pb, hpb⟩ : ∃ pb, wr.heap.size = pb := ⟨_, rfl⟩
      rw [hpb] at hbx
      have y2 : (wr.alloc (.cells #[.int .i64 p.id, .int .i64 p.blk, .int .i64 (o : Int), .slice (some A3) p.by_.length k2, .slice B2 p.nd.length j2] 44)).drew.cell? ⟨pb, 2, none⟩ = some (.int .i64 (o : Int)) := cell_of (i := 2) hbx rfl
      have y3 : (wr.alloc (.cells #[.int .i64 p.id, .int .i64 p.blk, .int .i64 (o : Int), .slice (some A3) p.by_.length k2, .slice B2 p.nd.length j2] 44)).drew.cell? ⟨pb, 3, none⟩ = some (.slice (some A3) p.by_.length k2) := cell_of (i := 3) hbx rfl
      clear htk hg q1 q2 hs r1 hgp hrun0 hr5 hg5 hrO hqO hdr hol h0 hom hm hx ho
      gi_wp2
      refine wpIn_wide.2 ?_
      refine start_ (n := 7) (S := fun w' => w'.cell? ⟨pb, 2, none⟩ = some (.int .i64 (o : Int)) ∧ w'.cell? ⟨pb, 3, none⟩ = some (.slice (some A3) p.by_.length k2)) (ds := [6]) #[false, false, false, false, false, false, false] (by kernel_rfl) rfl rfl ⟨y2, y3⟩ (fun hHeld => ?_)
      refine pure_ (i := 0) (N := some 25) (v := ?_) (a' := ?_) #[true, false, false, false, false, false, false] rfl rfl (by kernel_rfl) (fun _ _ _ h => h) (Or.inl ⟨by rfl, ?_⟩) ?_ ?_
      rotate_left
      · intro w'
        go_simp
        with_reducible rfl
      rotate_left
      · simp only [Act.put, List.setIfInBounds_toArray, List.set_cons_zero, List.set_cons_succ, i64_w, i32_w]
        rfl
      refine pure_ (i := 1) (N := some 26) (v := ?_) (a' := ?_) #[true, true, false, false, false, false, false] rfl rfl (by kernel_rfl) (fun _ _ _ h => h) (Or.inl ⟨by rfl, ?_⟩) ?_ ?_
      rotate_left
      · intro w'
        go_simp
        with_reducible rfl
      rotate_left
      · simp only [Act.put, List.setIfInBounds_toArray, List.set_cons_zero, List.set_cons_succ, i64_w, i32_w]
        rfl
      refine pure_ (i := 4) (N := some 29) (v := ?_) (a' := ?_) #[true, true, false, false, true, false, false] rfl rfl (by kernel_rfl) (fun _ _ _ h => h) (Or.inl ⟨by rfl, ?_⟩) ?_ ?_
      rotate_left
      · intro w'
        go_simp
        with_reducible rfl
      rotate_left
      · simp only [Act.put, List.setIfInBounds_toArray, List.set_cons_zero, List.set_cons_succ, i64_w, i32_w]
        rfl
      refine take_ (i := 2) (N := some 27) (v := ?_) (a' := ?_) #[true, true, true, false, true, false, false] rfl rfl (by kernel_rfl) (fun _ _ _ h => h) (Or.inl ⟨by rfl, ?_⟩) hHeld ?_ ?_
      rotate_left
      · rintro w' ⟨s0, s1⟩
        go_simp
        with_reducible rfl
      rotate_left
      · simp only [Act.put, List.setIfInBounds_toArray, List.set_cons_zero, List.set_cons_succ, i64_w, i32_w]
        rfl
      refine pure_ (i := 3) (N := some 28) (v := ?_) (a' := ?_) #[true, true, true, true, true, false, false] rfl rfl (by kernel_rfl) (fun _ _ _ h => h) (Or.inl ⟨by rfl, ?_⟩) ?_ ?_
      rotate_left
      · intro w'
        go_simp
        with_reducible rfl
      rotate_left
      · simp only [Act.put, List.setIfInBounds_toArray, List.set_cons_zero, List.set_cons_succ, i64_w, i32_w]
        rfl
      refine take_ (i := 5) (N := some 30) (v := ?_) (a' := ?_) #[true, true, true, true, true, true, false] rfl rfl (by kernel_rfl) (fun _ _ _ h => h) (Or.inl ⟨by rfl, ?_⟩) hHeld ?_ ?_
      rotate_left
      · rintro w' ⟨s0, s1⟩
        go_simp
        with_reducible rfl
      rotate_left
      · simp only [Act.put, List.setIfInBounds_toArray, List.set_cons_zero, List.set_cons_succ, i64_w, i32_w]
        rfl
      refine last_ (i := 6) (N := some 31) #[true, true, true, true, true, true, true] rfl rfl (by kernel_rfl) (by decide) (fun K hK => ?_)
      refine copy_step (by rfl) (.tmp 28) (.tmp 30) #[26, 26] rfl (.slice (some ⟨g1, o, none⟩) (128 - o) (c1 - o)) (.slice (some A3) p.by_.length k2) ?hs rfl (hrun.out _) ?_
      case hs => show _ = _; rfl
      refine hK.out _ _ ?_
      clear hK K
      refine norm_ (a' := ?_) ?_ ?_
      rotate_left
      · show Act.put _ (some 31) _ = _
        simp only [Act.put, List.setIfInBounds_toArray, List.set_cons_zero, List.set_cons_succ, i64_w, i32_w]
        rfl
      refine done_ (by kernel_rfl) ?_

      gi_wp2
      have hb5 : Below W.heap.size W W5 := by
        have hz : Below W.heap.size W (wr.alloc (.cells #[.int .i64 p.id, .int .i64 p.blk, .int .i64 (o : Int), .slice (some A3) p.by_.length k2, .slice B2 p.nd.length j2] 44)).drew := HWb.out.trans ⟨rfl, rfl, rfl, Nat.le_refl _, fun _ _ => rfl⟩
        exact Below.grown hz HG5.out hz.size (fun k hk => by cases hk; exact hgd.1)
      have hb5s := hb5
      exact ⟨⟨i + 1, _, by simp, hlt, ⟨HTK.out.symm⟩, ⟨by
        have hr := HR5.out
        rw [show put1 out p = out.take o ++ p.by_ ++ out.drop (o + p.by_.length) from by unfold put1; rw [HHO.out, Int.toNat_natCast]]
        exact hr⟩, ⟨hb5⟩⟩, by simp [intOf]; omega⟩
    · obtain rfl : i = is.length := by omega
      have t1 : decide ((is.length : Int) < (is.length : Int)) = false := decide_eq_false (by omega)
      have he := HE.out
      rw [List.take_length] at he
      have HE2 := Aside0.mk he
      clear he HE
      gi_wp2
      go_ret
      exact ⟨_, rfl, by unfold over; rw [← HE2.out]; exact HR.out, HW.out⟩
end Go.Proofs.Ytijgfcpffjjlfaa.Pq
