/- Written by a program of this session. slices.ContainsFunc, slices.DeleteFunc in the words of rows; (*Set).Of. -/
import Derived.BigQuiet
import Derived.Deep.QuietTactic
import Derived.Test.YtijgfcpffjjlfaaQt
namespace Go.Proofs.Ytijgfcpffjjlfaa.Pq
open Go Go.RowKit Go.Shelf Go.Proofs Go.Maps Go.Sort Go.Proofs.Ytijgfcpffjjlfaa.XFb Go.Proofs.YtijgfcpffjjlfaaW.PrintWords Go.Proofs.YtijgfcpffjjlfaaW.PrintLast Go.Proofs.YtijgfcpffjjlfaaW.PrintMore
set_option linter.unusedVariables false
set_option linter.unusedSimpArgs false
/-- A number that an int can be. -/
abbrev WfI := {x : Int // (Lit.int .i64 x).wf = true}
instance : Inhabited WfI := ⟨⟨0, by decide⟩⟩
theorem RI_holds {W : World} {base : Nat} {S : Nat → Prop} {xs : List Int} {g cap : Nat} (h : RI W base S (.slice (some ⟨g, 0, none⟩) xs.length cap) xs) : ∀ j, j < xs.length → W.cell? ⟨g, 0 + j, none⟩ = some (.int .i64 xs[j]!) := by
  intro j hj
  obtain ⟨ad, e, hc⟩ := at_n (Kd.R_reads' h).2.2 j hj
  injection e with e
  subst e
  have e2 : (⟨g, 0, none⟩ : Addr).add j = ⟨g, 0 + j, none⟩ := by
    unfold Addr.add
    by_cases h0 : j = 0
    · subst h0; rfl
    · simp [h0]
  rw [← e2, hc]
  simp [List.getD_eq_getElem?_getD, hj]
theorem contains_ok {W : World} {base : Nat} {S : Nat → Prop} {v : Value} {xs : List Int} (h : RI W base S v xs) (hl : xs.length ≤ 17592186044416) (p : Int → Bool) (gf : Nat) (lb : Array Value) (eg : ∀ args w, (callFunc gf args).run Try.prog w = .ok (.enter gf args) w)
    (hp : ∀ W1 x, Below W.heap.size W W1 → FnGives Try.prog gf lb #[.int .i64 x] (.bool (p x)) W1) :
    Calls Try.prog 41 #[v, .func (.func gf) #[] lb] W fun e w' => e = .returned (.bool (xs.any p)) ∧ Below W.heap.size W w' := by
  rcases RI_cases h with ⟨rfl, rfl⟩ | ⟨g, cap, cur, rfl, _⟩
  · refine (Try.slices_ContainsFunc_empty (α := Int) none 0 _ W).mono ?_
    rintro e w' ⟨rfl, rfl⟩
    exact ⟨rfl, Below.refl _ _⟩
  · refine (Try.slices_ContainsFunc (α := Int) (Value.int .i64) p gf lb eg g 0 xs.length cap xs W (fun W1 x hb => hp W1 x hb) (Nat.le_refl _) (by omega) (RI_holds h)).mono ?_
    rintro e w' ⟨rfl, q, rfl⟩
    exact ⟨by rw [List.take_length], below_drewN' (Below.refl _ _) q⟩
theorem putCells_map (d : Array WfI) (c : Array Value) : putCells (fun x : WfI => Value.int .i64 x.1) 0 d c = putCells encZ 0 (d.map (fun x => x.1)) c := by
  unfold putCells
  congr 1
  funext k x
  rw [Array.size_map]
  by_cases hk : 0 ≤ k ∧ k < 0 + d.size
  · rw [if_pos hk, if_pos hk]
    have h1 : k - 0 < d.size := by omega
    rw [getElem!_pos d (k - 0) h1, getElem!_pos (d.map (fun x => x.1)) (k - 0) (by rw [Array.size_map]; exact h1), Array.getElem_map]
  · rw [if_neg hk, if_neg hk]
set_option maxHeartbeats 1000000 in
theorem delete_nil (a : Option Addr) (c : Nat) (fv : Value) (w : World) : Calls Try.prog 52 #[.slice a 0 c, fv] w fun e w' => e = .returned (.slice a 0 c) ∧ w' = w := by
  refine (callsIn_wide (n := 1)).1 ?_
  refine callsIn_of_wp Try.func52 rfl trivial ?_ rfl
  simp only [Try.ntmps52, List.size_toArray, List.length_cons, List.length_nil, Nat.reduceAdd, Nat.reduceSub, Array.replicate_succ, Array.replicate_zero, List.push_toArray, List.append_toArray, List.nil_append, List.cons_append]
  gi_wp2_with (first
    | (refine ⟨trivial, ?_⟩; gi_at_call 72; refine (callsIn_wide.2 (Try.slices_IndexFunc_empty (α := Int) a c fv _)).mono ?_; rintro e w1 ⟨rfl, hw⟩; rw [hw]; clear hw))
  go_ret
  exact ⟨rfl, rfl⟩
theorem delete_ok {W : World} {base : Nat} {S : Nat → Prop} {v : Value} {xs : List Int} (h : RI W base S v xs) (hwf : ∀ x ∈ xs, (Lit.int .i64 x).wf = true) (hl : xs.length ≤ 1000000000) (p : Int → Bool) (gf : Nat) (lb : Array Value) (eg : ∀ args w, (callFunc gf args).run Try.prog w = .ok (.enter gf args) w)
    (hp : ∀ W1 x, (Lit.int .i64 x).wf = true → Kept (fun k => v.ownBlock = some k) W W1 → FnGives Try.prog gf lb #[.int .i64 x] (.bool (p x)) W1) :
    Calls Try.prog 52 #[v, .func (.func gf) #[] lb] W fun e W' => ∃ v', e = .returned v' ∧ RI W' base S v' (xs.filter (fun x => !p x)) ∧ W.grownBy W' v.ownBlock := by
  have h0 := h.1
  rcases RI_cases h with ⟨rfl, rfl⟩ | ⟨g, cap, cur, rfl, hbase, hb, r1, r2, r3, r4⟩
  · refine (delete_nil none 0 _ W).mono ?_
    rintro e W' ⟨rfl, rfl⟩
    exact ⟨_, rfl, h, ⟨rfl, rfl, rfl, Nat.le_refl _, fun _ _ _ => rfl⟩⟩
  · have hglt := (Array.getElem?_eq_some_iff.1 hb).1
    have e0 : ∀ (ys : List Int) (hy : ∀ x ∈ ys, (Lit.int .i64 x).wf = true), (ys.pmap (fun x hx => (⟨x, hx⟩ : WfI)) hy).map (fun x => x.1) = ys := fun ys hy => by rw [List.map_pmap]; simp
    obtain ⟨ys, hys⟩ : ∃ ys : List WfI, ys.map (fun x => x.1) = xs := ⟨_, e0 xs hwf⟩
    have hyl : ys.length = xs.length := by rw [← hys, List.length_map]
    have hH : Holds (fun x : WfI => Value.int .i64 x.1) W g 0 ys.toArray := fun j hj => by
      have hj2 : j < ys.length := by simpa using hj
      have h1 := holds_of_block_i hb r4 j (by simp; omega)
      refine ⟨?_, h1.2⟩
      rw [h1.1]
      have e1 : xs.toArray[j]! = (ys.toArray[j]!).1 := by
        rw [getElem!_pos xs.toArray j (by simp; omega), getElem!_pos ys.toArray j hj]
        simp only [List.getElem_toArray]
        simp only [← hys, List.getElem_map]
      rw [e1]
    have hK : ∀ (q : Nat) (os : Array Obj) (d : Array WfI), W.grownBy (grow (putRow (fun x : WfI => Value.int .i64 x.1) (Sort.ahead W q) g 0 d) os) (some g) := fun q os d => by
      unfold putRow
      rw [show (putCells (fun x : WfI => Value.int .i64 x.1) 0 d) = putCells encZ 0 (d.map (fun x => x.1)) from funext (putCells_map d)]
      exact grownBy_sorted_i _
    have hcon := Try.slices_DeleteFunc (α := WfI) (fun x => Value.int .i64 x.1) (fun _ => rfl) (fun x => p x.1) gf lb eg ⟨0, by decide⟩ Try.zeroValue3 g 0 cap ys.toArray W
      (fun W1 x hb1 => hp W1 x.1 x.2 (Kept.of_below hb1)) (fun q os dk x _ => hp _ x.1 x.2 (Kept.of_grown (hK q os dk) (fun k hk => by cases hk; rfl))) hH (by simp; omega) (by simp; omega)
    rw [show ys.toArray.size = xs.length from by simp [hyl]] at hcon
    refine hcon.mono ?_
    rintro e W' ⟨rfl, q, rfl⟩
    have ef : (ys.toArray.toList.filter fun x => !p x.1).map (fun x => x.1) = xs.filter (fun x => !p x) := by
      rw [← hys, List.filter_map]; rfl
    generalize hF : (ys.toArray.toList.filter fun x => !p x.1) = F at *
    have hFl : F.length = (xs.filter (fun x => !p x)).length := by rw [← ef, List.length_map]
    have hcl : (xs.filter (fun x => !p x)).length ≤ xs.length := List.length_filter_le _ _
    have e1 : putRow (fun x : WfI => Value.int .i64 x.1) (Sort.ahead W q) g 0 (F ++ List.replicate (xs.length - F.length) (⟨0, by decide⟩ : WfI)).toArray = grow (putRow encZ (Sort.ahead W q) g 0 (xs.filter (fun x => !p x) ++ List.replicate (xs.length - F.length) 0).toArray) #[] := by
      rw [grow_empty]
      unfold putRow
      rw [show (putCells (fun x : WfI => Value.int .i64 x.1) 0 (F ++ List.replicate (xs.length - F.length) (⟨0, by decide⟩ : WfI)).toArray) = putCells encZ 0 (((F ++ List.replicate (xs.length - F.length) (⟨0, by decide⟩ : WfI)).toArray).map (fun x => x.1)) from funext (putCells_map _)]
      rw [List.map_toArray, List.map_append, ef, List.map_replicate]
    rw [e1]
    have hrow := ownsRow_sorted_i (w := W) (n := q) (os := #[]) (ts := xs.filter (fun x => !p x) ++ List.replicate (xs.length - F.length) 0) (ss := xs) (by simp; omega) hbase hb r1 r2 r3
    obtain ⟨_, hr⟩ := hrow
    rcases hr with ⟨hv, _⟩ | ⟨g2, cap2, cur2, hv, hb2, hh2, q1, q2, q3, q4⟩
    · cases hv
    injection hv with hv1 hv2 hv3
    injection hv1 with hv1
    injection hv1 with hv1
    subst hv1; subst hv3
    rw [hFl] at hh2 ⊢
    refine ⟨_, rfl, RI_mk ⟨by simp, .inr ⟨g, cap, cur2, rfl, hb2, hh2, by omega, q2, q3, ?_⟩⟩ h0, grownBy_sorted_i _⟩
    have q5 := congrArg (List.take (xs.filter (fun x => !p x)).length) q4
    rw [Nat.mul_one, List.take_take, Nat.min_eq_left hcl, List.map_append, List.take_left' (by simp)] at q5
    rw [Nat.mul_one]
    exact q5
theorem field_blk (a b o : Int) (u v : Value) (w : World) : (Instr.field 44 (.agg #[.int .i64 a, .int .i64 b, .int .i64 o, u, v]) 1).run Try.prog w = .ok (.int .i64 b) w := by kernel_rfl
theorem field_nd (a b o : Int) (u v : Value) (w : World) : (Instr.field 44 (.agg #[.int .i64 a, .int .i64 b, .int .i64 o, u, v]) 4).run Try.prog w = .ok v w := by kernel_rfl
set_option maxRecDepth 100000 in
set_option maxHeartbeats 8000000 in
theorem of1_ok {W : World} {m g : Nat} (x b : Int) (B1 B2 : Nat) (hg : W.cell? ⟨g, 2, none⟩ = some (.map (some m))) (c1 : W.cell? ⟨B1, 0, none⟩ = some (.pointer (some ⟨g, 0, none⟩))) (c2 : W.cell? ⟨B2, 0, none⟩ = some (.int .i64 b))
    {A : Option Addr} {k : Nat} {B : Option Addr} {j : Nat} {p : Pt} (hlook : ∀ q, (Instr.lookup 53 (.map (some m)) (.int .i64 x) false).run Try.prog (W.drewN q) = .ok (.agg #[.int .i64 p.id, .int .i64 p.blk, .int .i64 p.off, .slice A p.by_.length k, .slice B p.nd.length j]) (W.drewN q)) :
    FnGives Try.prog 54 #[.pointer (some ⟨B1, 0, none⟩), .pointer (some ⟨B2, 0, none⟩)] #[.int .i64 x] (.bool (p.blk != b)) W := by
  show Calls Try.prog 54 #[.int .i64 x, .pointer (some ⟨B1, 0, none⟩), .pointer (some ⟨B2, 0, none⟩)] W _
  have hfb := field_blk
  refine (callsIn_wide (n := 1)).1 ?_
  refine callsIn_of_wp Try.func54 rfl trivial ?_ rfl
  simp only [Try.ntmps54, List.size_toArray, List.length_cons, List.length_nil, Nat.reduceAdd, Nat.reduceSub, Array.replicate_succ, Array.replicate_zero, List.push_toArray, List.append_toArray, List.nil_append, List.cons_append]
  gi_wp2
  refine wpIn_wide.2 ?_
  go_quiet (fail)
  gi_wp2
  go_ret
  exact ⟨rfl, _, rfl⟩
end Go.Proofs.Ytijgfcpffjjlfaa.Pq
