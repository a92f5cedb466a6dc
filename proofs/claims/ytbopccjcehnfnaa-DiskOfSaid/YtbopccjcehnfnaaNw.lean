/- Written by a program of this session. disk.New of 1 to 2048 blocks: a new disk of so many blocks. -/
import Derived.Test.YtbopccjcehnfnaaNb
import Derived.Test.YtbopccjcehnfnaaWInvWords
namespace Go.Proofs.Ytbopccjcehnfnaa.Nb
open Go Go.RowKit Go.Shelf Go.Proofs Go.Proofs.YtbopccjcehnfnaaW.PrintWords Go.Proofs.YtbopccjcehnfnaaW.PrintLast Go.Proofs.YtbopccjcehnfnaaW.PrintMore
set_option linter.unusedVariables false
set_option linter.unusedSimpArgs false

theorem infou8 : (Try.prog.info? 5).map (fun i => (i.zero, i.size, i.bytes)) = some (some (.int .u8 0), 1, 1) := by kernel_rfl
theorem infosl : (Try.prog.info? 30).map (fun i => (i.zero, i.size, i.bytes)) = some (some (.slice none 0 0), 1, 24) := by kernel_rfl

theorem set_heap {W : World} {b o : Nat} {cs : Array Value} {t : TypeId} (h : W.heap[b]? = some (.cells cs t (0, 0))) (v : Value) :
    (W.setCell ⟨b, o, none⟩ v).heap[b]? = some (.cells (cs.setIfInBounds o v) t (0, 0)) := by
  obtain ⟨hlt, hk⟩ := Array.getElem?_eq_some_iff.1 h
  show (W.heap.modify b _)[b]? = _
  rw [Array.getElem?_eq_getElem (by rw [Array.size_modify]; exact hlt), Array.getElem_modify_self, hk]
  rfl

set_option maxRecDepth 100000 in
set_option maxHeartbeats 4000000 in
theorem New_ok (n : Nat) (h1 : 1 ≤ n) (h2 : n ≤ 2048) (w : World) :
    Calls Try.prog 20 #[.int .i64 (n : Int)] w fun e w' => ∃ v, e = .returned (.tuple #[.pointer (some ⟨w.heap.size + 1, 0, none⟩), .int .i64 0]) ∧
      w'.heap[w.heap.size + 1]? = some (.cells #[v, .slice none 0 0, .map (some w.heap.size), .int .i64 0] 45 (0, 0)) ∧
      Kd.R (Kd.slice 5 (Kd.int .u8)) 30 w' w.heap.size (fun k => w.heap.size + 1 < k) v (List.replicate n (List.replicate 128 0)) ∧ Below w.heap.size w w' := by
  have t1 : decide ((n : Int) < 1) = false := decide_eq_false (by omega)
  have t2 : decide ((2048 : Int) < (n : Int)) = false := decide_eq_false (by omega)
  have hmm : ∀ W : World, (Instr.makeMap 43 none).run Try.prog W = .ok (.map (some W.heap.size)) (W.alloc (.map #[] 0)) := fun _ => rfl
  go_enter Try.func20, Try.ntmps20
  go_wp2

  go_loopw [15] (fun v15 wr => ∃ (k : Nat) (v : Value), v15 = .int .i64 (k : Int) ∧ Aside0 (k ≤ n) ∧ Aside0 (wr.heap[w.heap.size + 1]? = some (.cells #[v, .slice none 0 0, .map (some w.heap.size), .int .i64 0] 45 (0, 0))) ∧
      Aside0 (Kd.R (Kd.slice 5 (Kd.int .u8)) 30 wr w.heap.size (fun k => w.heap.size + 1 < k) v (List.replicate k (List.replicate 128 0))) ∧ Aside0 (Below w.heap.size w wr))
    (fun v15 _ => n - (intOf v15).toNat)
  case atStart =>
    refine ⟨0, _, rfl, ⟨Nat.zero_le _⟩, ⟨?_⟩, ⟨Kd.R_nil _ _ _ _ _⟩, ⟨?_⟩⟩
    · have := World.alloc_heap_new (w.alloc (.map #[] 0)) (.cells #[.slice none 0 0, .slice none 0 0, .map (some w.heap.size), .int .i64 0] 45)
      rwa [World.size_alloc] at this
    · exact below_alloc (below_alloc (Below.refl _ _) _) _
  case round =>
    obtain ⟨k, v, rfl, ⟨hk⟩, HD, HR, HB⟩ := hrel
    by_cases hkn : k < n
    · have t3 : decide ((k : Int) < (n : Int)) = true := decide_eq_true (by omega)
      have HKN := Aside0.mk (show k < 2048 by omega)
      have cD : wr.cell? ⟨w.heap.size + 1, 0, none⟩ = some v := by simp [World.cell?, HD.out]
      have HLT := Aside0.mk (Array.getElem?_eq_some_iff.1 HD.out).1
      have HVL := Aside0.mk (fun k (e : v.ownBlock = some k) => (own_lt HR.out.2.choose_spec.1 k e : k < wr.heap.size))
      have HVD := Aside0.mk (fun k (e : v.ownBlock = some k) => (HR.out.1 k e : w.heap.size + 1 < k))
      go_wp2
      refine start_ (n := 11) (S := fun w' => w'.cell? ⟨w.heap.size + 1, 0, none⟩ = some v) (ds := [10]) #[false, false, false, false, false, false, false, false, false, false, false] (by kernel_rfl) rfl rfl (cD) (fun hHeld => ?_)
      refine pure_ (i := 0) (N := some 17) (v := ?_) (a' := ?_) #[true, false, false, false, false, false, false, false, false, false, false] rfl rfl (by kernel_rfl) (fun _ _ _ h => h) (Or.inl ⟨by rfl, ?_⟩) ?_ ?_
      rotate_left
      · intro w'
        go_simp
        with_reducible rfl
      rotate_left
      · simp only [Act.put, List.setIfInBounds_toArray, List.set_cons_zero, List.set_cons_succ, i64_w, i32_w]
        rfl
      refine pure_ (i := 1) (N := some 18) (v := ?_) (a' := ?_) #[true, true, false, false, false, false, false, false, false, false, false] rfl rfl (by kernel_rfl) (fun _ _ _ h => h) (Or.inl ⟨by rfl, ?_⟩) ?_ ?_
      rotate_left
      · intro w'
        go_simp
        with_reducible rfl
      rotate_left
      · simp only [Act.put, List.setIfInBounds_toArray, List.set_cons_zero, List.set_cons_succ, i64_w, i32_w]
        rfl
      refine pure_ (i := 2) (N := some 19) (v := ?_) (a' := ?_) #[true, true, true, false, false, false, false, false, false, false, false] rfl rfl (by kernel_rfl) (fun _ _ _ h => h) (Or.inl ⟨by rfl, ?_⟩) ?_ ?_
      rotate_left
      · intro w'
        go_simp
        with_reducible rfl
      rotate_left
      · simp only [Act.put, List.setIfInBounds_toArray, List.set_cons_zero, List.set_cons_succ, i64_w, i32_w]
        rfl
      refine pure_ (i := 3) (N := some 20) (v := ?_) (a' := ?_) #[true, true, true, true, false, false, false, false, false, false, false] rfl rfl (by kernel_rfl) (fun _ _ _ h => h) (Or.inl ⟨by rfl, ?_⟩) ?_ ?_
      rotate_left
      · intro w'
        go_simp
        with_reducible rfl
      rotate_left
      · simp only [Act.put, List.setIfInBounds_toArray, List.set_cons_zero, List.set_cons_succ, i64_w, i32_w]
        rfl
      refine take_ (i := 4) (N := some 21) (v := ?_) (a' := ?_) #[true, true, true, true, true, false, false, false, false, false, false] rfl rfl (by kernel_rfl) (fun _ _ _ h => h) (Or.inl ⟨by rfl, ?_⟩) hHeld ?_ ?_
      rotate_left
      · intro w' s0
        go_simp
        with_reducible rfl
      rotate_left
      · simp only [Act.put, List.setIfInBounds_toArray, List.set_cons_zero, List.set_cons_succ, i64_w, i32_w]
        rfl
      refine one_ (i := 5) (N := some 22) #[true, true, true, true, true, true, false, false, false, false, false] rfl rfl (by kernel_rfl) (by decide) (fun K hK => ?_)
      refine Kd.R_make_step (Kd.int .u8) (w0 := w) w.heap.size 5 (by rfl) (N := 22) rfl 30 (.const (.int .i64 128)) (.const (.int .i64 128)) rfl 128 rfl rfl Try.underlying30 (.int .u8 0) 1 infou8 rfl (by decide) (by decide) (0 : Int) (ok := fun k => wr.heap.size ≤ k) (okp := fun _ => False) rfl (fun _ h => h.elim) (Nat.le_refl _) (by decide) (by decide) (below_drew1 HB.out) (by have := HB.out.size; exact this) ?_
      intro v1 w1 hr1 hb1 hg1 ht1
      obtain ⟨ad1, cp1, rfl⟩ := Kd.R_slice1 hr1 (by simp)
      have HR1 := Aside0.mk hr1
      have HB1 := Aside0.mk hb1
      have HK1 := Aside0.mk (show w1.heap[w.heap.size + 1]? = some (.cells #[v, .slice none 0 0, .map (some w.heap.size), .int .i64 0] 45 (0, 0)) from (hg1.block _ HLT.out (by simp)).trans HD.out)
      have HV1 := Aside0.mk (Kd.R_grown (show Kd.R (Kd.slice 5 (Kd.int .u8)) 30 wr.drew w.heap.size (fun k => w.heap.size + 1 < k) v (List.replicate k (List.replicate 128 0)) from Kd.R_step HR.out (fun _ _ _ => rfl)) hg1 (fun _ _ => by simp))
      have HS1 := Aside0.mk (show wr.heap.size ≤ w1.heap.size from hg1.size)
      clear hr1 hb1 hg1 ht1
      refine hK.out _ _ ((by simp [World.cell?, HK1.out])) (fun hHeld => ?_)
      clear hK K
      refine norm_ (a' := ?_) ?_ ?_
      rotate_left
      · show Act.put _ (some 22) _ = _
        simp only [Act.put, List.setIfInBounds_toArray, List.set_cons_zero, List.set_cons_succ, i64_w, i32_w]
        rfl
      refine one_ (i := 6) (N := some 23) #[true, true, true, true, true, true, true, false, false, false, false] rfl rfl (by kernel_rfl) (by decide) (fun K hK => ?_)
      refine value_ (w1 := ?_) (v := ?_) (by rfl) rfl ?_ ?_
      rotate_left 2
      · go_simp
        constructor
        · rfl
        · rfl
      refine hK.out _ _ ((by simp [World.cell?, heap_alloc_old _ _ _ (Nat.lt_of_lt_of_le HLT.out HS1.out), HK1.out])) (fun hHeld => ?_)
      clear hK K
      refine norm_ (a' := ?_) ?_ ?_
      rotate_left
      · show Act.put _ (some 23) _ = _
        simp only [Act.put, List.setIfInBounds_toArray, List.set_cons_zero, List.set_cons_succ, i64_w, i32_w]
        rfl
      refine one_ (i := 7) (N := some 24) #[true, true, true, true, true, true, true, true, false, false, false] rfl rfl (by kernel_rfl) (by decide) (fun K hK => ?_)
      refine Kd.R_append_step (Kd.slice 5 (Kd.int .u8)) (w0 := w) w.heap.size (by rfl) (.tmp 21) (.tmp 23) 26 30 (.slice none 0 0) 24 rfl Try.underlying26 infosl rfl (by decide) (by decide) v (List.replicate k (List.replicate 128 0)) (List.replicate 128 0) [_] (fun k => w.heap.size + 1 < k) (fun k => wr.heap.size ≤ k) rfl rfl ⟨_, rfl, HR1.out⟩ ?okp ?fresh HV1.out HB1.out ?base ?room ?_
      case okp => exact fun k hk => ⟨by have := HLT.out; omega, fun e => by have := HVL.out k e.symm; omega⟩
      case fresh => exact fun k hk => by have := HLT.out; have := HS1.out; omega
      case base => exact HB1.out.size
      case room => rw [List.length_replicate]; have := HKN.out; omega
      intro v2 w2 hr2 hb2 hg2 ht2
      obtain ⟨ad2, cp2, rfl⟩ := Kd.R_slice1 hr2 (by simp)
      have HR2 := Aside0.mk hr2
      have HB2 := Aside0.mk hb2
      have HK2 := Aside0.mk (show w2.heap[w.heap.size + 1]? = some (.cells #[v, .slice none 0 0, .map (some w.heap.size), .int .i64 0] 45 (0, 0)) from (hg2.block _ (Nat.lt_of_lt_of_le HLT.out HS1.out) (fun e => by have := HVD.out _ e.symm; omega)).trans HK1.out)
      have c2 : w2.cell? ⟨w.heap.size + 1, 0, none⟩ = some v := (by simp [World.cell?, HK2.out])
      have f2 : w2.frozen? ⟨w.heap.size + 1, 0, none⟩ = false := (by simp [World.frozen?, HK2.out])
      clear hr2 hb2 hg2 ht2
      refine hK.out _ _ ((by simp [World.cell?, HK2.out])) (fun hHeld => ?_)
      clear hK K
      refine norm_ (a' := ?_) ?_ ?_
      rotate_left
      · show Act.put _ (some 24) _ = _
        simp only [Act.put, List.setIfInBounds_toArray, List.set_cons_zero, List.set_cons_succ, i64_w, i32_w]
        rfl
      refine pure_ (i := 8) (N := some 25) (v := ?_) (a' := ?_) #[true, true, true, true, true, true, true, true, true, false, false] rfl rfl (by kernel_rfl) (fun _ _ _ h => h) (Or.inl ⟨by rfl, ?_⟩) ?_ ?_
      rotate_left
      · intro w'
        go_simp
        with_reducible rfl
      rotate_left
      · simp only [Act.put, List.setIfInBounds_toArray, List.set_cons_zero, List.set_cons_succ, i64_w, i32_w]
        rfl
      refine pure_ (i := 9) (N := some 26) (v := ?_) (a' := ?_) #[true, true, true, true, true, true, true, true, true, true, false] rfl rfl (by kernel_rfl) (fun _ _ _ h => h) (Or.inl ⟨by rfl, ?_⟩) ?_ ?_
      rotate_left
      · intro w'
        go_simp
        with_reducible rfl
      rotate_left
      · simp only [Act.put, List.setIfInBounds_toArray, List.set_cons_zero, List.set_cons_succ, i64_w, i32_w]
        rfl
      refine last_ (i := 10) (N := none) #[true, true, true, true, true, true, true, true, true, true, true] rfl rfl (by kernel_rfl) (by decide) (fun K hK => ?_)
      refine skip_ (w1 := ?_) (by rfl) rfl ?_ ?_
      rotate_left
      · go_simp
        rfl
      refine hK.out _ _ ?_
      clear hK K
      refine done_ (by kernel_rfl) ?_

      go_wp2
      go_roundw
      case rel =>
        have e1 : List.replicate k (List.replicate 128 (0 : Int)) ++ [List.replicate 128 0] = List.replicate (k + 1) (List.replicate 128 0) := List.replicate_succ'.symm
        have hR := HR2.out
        rw [e1, List.length_replicate] at hR
        refine ⟨k + 1, .slice (some ad2) (k + 1) cp2, rfl, ⟨hkn⟩, ⟨set_heap HK2.out _⟩, ⟨?_⟩, ⟨HB2.out.setCell (p := ⟨w.heap.size + 1, 0, none⟩) (by simp) _⟩⟩
        exact Kd.R_far hR (p := ⟨w.heap.size + 1, 0, none⟩) (fun j hj => by have : w.heap.size + 1 < j := hj; simp; omega) _
      case measure =>
        show n - ((k : Int) + 1).toNat < n - ((k : Int)).toNat
        omega
    · obtain rfl : k = n := by omega
      have t3 : decide ((k : Int) < (k : Int)) = false := decide_eq_false (by omega)
      go_wp2
      refine bodyPost_ret (results_tmp2 rfl _ _ _) rfl ?_
      exact ⟨v, rfl, HD.out, HR.out, HB.out⟩

set_option maxRecDepth 100000 in
set_option maxHeartbeats 1000000 in
theorem blocks_of (W : World) (g : Nat) (A : Option Addr) (n c : Nat) (q m l : Value) (h : W.heap[g]? = some (.cells #[.slice A n c, q, m, l] 45 (0, 0))) :
    Calls Try.prog 13 #[.pointer (some ⟨g, 0, none⟩)] W fun e w' => e = .returned (.int .i64 (n : Int)) ∧ w' = W := by
  refine (callsIn_wide (n := 1)).1 ?_
  refine callsIn_of_wp Try.func13 rfl trivial ?_ rfl
  simp only [Try.ntmps13, List.size_toArray, List.length_cons, List.length_nil, Nat.reduceAdd, Nat.reduceSub, Array.replicate_succ, Array.replicate_zero, List.push_toArray, List.append_toArray, List.nil_append, List.cons_append]
  have c0 : W.cell? ⟨g, 0, none⟩ = some (.slice A n c) := by simp [World.cell?, h]
  gi_wp2
  go_ret
  exact ⟨rfl, rfl⟩
end Go.Proofs.Ytbopccjcehnfnaa.Nb
