/- A group's header as bytes: both walks. -/
import Derived.Test.YtdaeanodgnmknaaBp
import Derived.Lib.SlBytesConst
import Derived.Deep.RegionHeld3
namespace Go.Proofs.Ytdaeanodgnmknaa.Gw
open Go.RowKit Go.Proofs.Ytdaeanodgnmknaa.Rd Go.Proofs.Ytdaeanodgnmknaa.XLayoutBack Go.Proofs.YtdaeanodgnmknaaW.PrintWords Go.Proofs.YtdaeanodgnmknaaW.PrintLast Go.Proofs.YtdaeanodgnmknaaW.PrintMore
set_option linter.unusedVariables false
set_option linter.unusedSimpArgs false
theorem sl8 (g o : Nat) (W : World) : (Instr.sliceAt 22 (.pointer (some ⟨g, o, none⟩)) none none none).run Try.prog W = .ok (.slice (some ⟨g, o, none⟩) 8 8) W := by kernel_rfl
theorem sl32 (g o : Nat) (W : World) : (Instr.sliceAt 23 (.pointer (some ⟨g, o, none⟩)) none none none).run Try.prog W = .ok (.slice (some ⟨g, o, none⟩) 32 32) W := by kernel_rfl
theorem grp_8 {W : World} {g t : Nat} {n : Int} {is bs : List Int} (h : W.heap[g]? = some (.cells (grp n is bs) t (0, 0))) (h1 : is.length = 8) : Kd.C (Kd.int .u8) W (some ⟨g, 1, none⟩) 8 is := by
  have h_ := grp_C1 h h1
  rwa [h1] at h_
theorem grp_32 {W : World} {g t : Nat} {n : Int} {is bs : List Int} (h : W.heap[g]? = some (.cells (grp n is bs) t (0, 0))) (h1 : is.length = 8) (h2 : bs.length = 32) : Kd.C (Kd.int .u8) W (some ⟨g, 9, none⟩) 32 bs := by
  have h_ := grp_C2 h h1 h2
  rwa [h2] at h_
theorem pair_C (W : World) {g : Nat} (n m : Int) (h : W.heap[g]? = some (.cells #[.int .u8 n, .int .u8 m] 5 (0, 0))) : Kd.C (Kd.int .u8) W (some ⟨g, 0, none⟩) 2 [n, m] :=
  arr_C h 0 [n, m] (by simp [maxLen]) (fun j hj => by
    match j, hj with
    | 0, _ => rfl
    | 1, _ => rfl)
def grpL (n : Int) (is bs : List Int) : List Int := [104, 100] ++ [n, 0] ++ is ++ bs ++ List.replicate 84 0
def encG (n : Int) (is bs : List Int) : List Int × Int := if 0 ≤ n ∧ n ≤ 7 then (grpL n is bs, 0) else ([], 1)
theorem full_g {n : Int} {is bs : List Int} (h1 : is.length = 8) (h2 : bs.length = 32) : layout_full.f ([104, 100] ++ [n, 0] ++ is ++ bs) 128 = some (grpL n is bs) := by
  unfold layout_full.f fullL grpL
  rw [if_pos (by omega), List.take_of_length_le (by simp only [List.length_append, List.length_cons, List.length_nil, h1, h2]; decide)]
  congr 3
  simp only [List.length_append, List.length_cons, List.length_nil, h1, h2]
  rfl
set_option maxHeartbeats 8000000 in
set_option maxRecDepth 100000 in
theorem EncodeGroup_call (n : Int) (is bs : List Int) (w : World) (h1 : is.length = 8) (h2 : bs.length = 32) :
    Calls Try.prog 10 #[.agg (grp n is bs)] w fun e w' => ∃ v0_ : Value, e = .returned (.tuple #[v0_, .int .i64 (encG n is bs).2]) ∧ Kd.R (Kd.int .u8) 5 w' w.heap.size (fun _ => True) v0_ (encG n is bs).1 ∧ Below w.heap.size w w' := by
  have hu25 := Try.underlying25
  have HB := Aside0.mk (Below.refl w.heap.size w)
  have L8 := Aside0.mk h1
  have L32 := Aside0.mk h2
  clear h1 h2
  unfold encG
  by_cases h0 : 0 ≤ n
  · by_cases h7 : n ≤ 7
    · rw [if_pos ⟨h0, h7⟩]
      have hb0 : decide (n < 0) = false := decide_eq_false (by omega)
      have hb1 : decide (8 ≤ n) = false := decide_eq_false (by omega)
      have hb2 : decide (7 < n) = false := decide_eq_false (by omega)
      obtain ⟨x0, e0⟩ : ∃ x : List Int, x = [104, 100] ++ [n, 0] := ⟨_, rfl⟩
      obtain ⟨x1, e1⟩ : ∃ x : List Int, x = x0 ++ is := ⟨_, rfl⟩
      obtain ⟨x2, e2⟩ : ∃ x : List Int, x = x1 ++ bs := ⟨_, rfl⟩
      have M0 := Aside0.mk (show x0.length = 4 by rw [e0]; rfl)
      have M1 := Aside0.mk (show x1.length = 12 by rw [e1, List.length_append, M0.out, L8.out])
      have M2 := Aside0.mk (show x2.length = 44 by rw [e2, List.length_append, M1.out, L32.out])
      have E0 := Aside0.mk e0
      have E1 := Aside0.mk e1
      have E2 := Aside0.mk e2
      clear e0 e1 e2
      have kc := fun (w : World) (C : Array Value) (n c : Nat) => Lib.run_convert_bytes_const (P := Try.prog) w 26 5 C n c Try.underlying26 Try.underlying5
      go_enter Try.func10, Try.ntmps10
      go_wp2_with (first
        | ((with_reducible refine gate_dst (N := 1) rfl ?_); refine box_event ?hg (N := 1) ?hd (cs := grp n is bs) (t := 25) ?hr ?_; (case hd => rfl); (case hg => rfl); (case hr => first | (go_simp; done) | (go_simp; rfl)); intro gb hg w1 hbox hb; have n0_ := Aside0.mk (below_step (w2 := w1) (by repeat (first | (with_reducible first | exact HB.out | apply below_alloc | apply pw_below_drewN | apply below_drew1) | exact HB.out)) hb); have BK := Aside0.mk hbox; clear HB; have HB := n0_; clear n0_ hb hbox hg; have hc0 : w1.cell? ⟨gb, 0, none⟩ = some (.int .i64 n) := (blk_cell BK.out 0).trans rfl; have hca : ∀ o : Obj, (w1.alloc o).cell? ⟨gb, 0, none⟩ = some (.int .i64 n) := fun o => pw_cell_below (below_alloc (Below.refl _ _) o) hc0; have hs8 := sl8 gb 1; have hs32 := sl32 gb 9)
        | ((with_reducible refine gate_dst (N := 19) rfl ?_); refine came_append_row (w0 := w) w.heap.size (fun _ => True) rfl (.tmp 14) (.tmp 18) 26 1 rfl Try.underlying26 infou8 (by decide) _ [104, 100] [n, 0] _ 2 2 rfl rfl (by decide) (show Rw.Came 5 ((w1.alloc (.cells #[.int .u8 104, .int .u8 100] 5 (2, 3))).alloc (.cells #[.int .u8 n, .int .u8 0] 5 (0, 0))) w.heap.size (fun _ => True) (.slice (some ⟨w1.heap.size, 0, none⟩) 2 2) [104, 100] from ⟨w1.heap.size, rfl, by decide, HB.out.size, trivial, by decide, blk_alloc (blk_new w1 _) _⟩) (pair_C _ _ _ (by have hn_ := blk_new (w1.alloc (.cells #[.int .u8 104, .int .u8 100] 5 (2, 3))) (.cells #[.int .u8 n, .int .u8 0] 5 (0, 0)); rw [World.size_alloc] at hn_; exact hn_)) (below_alloc (below_alloc HB.out _) _) (Nat.le_trans HB.out.size (by rw [World.size_alloc, World.size_alloc]; omega)) (by decide) ?_; intro v2 w2 ho hbs hb; rw [← E0.out] at ho; have HO := Aside0.mk ho; have BK2 := Aside0.mk (blk_below (w1 := w2) (g := gb) (o := .cells (grp n is bs) 25 (0, 0)) (by (with_reducible repeat (first | refine blk_drewN ?_ _ | refine blk_drew ?_ | refine blk_alloc ?_ _)); exact BK.out) hbs); clear HB hc0 hca BK; have BK := BK2; clear BK2; have HB := Aside0.mk hb; clear ho hbs hb; obtain ⟨A2, c2, e2⟩ := Kd.R_slice HO.out; subst e2)
        | ((with_reducible refine gate_dst (N := 23) rfl ?_); refine Kd.R_append_row (Value.int .u8) 0 (h1 := fun _ => rfl) (w0 := w) w.heap.size rfl (.tmp 20) (.tmp 22) 26 5 (.int .u8 0) 1 rfl Try.underlying26 infou8 rfl (by decide) _ (x0) is _ _ _ (fun _ => True) rfl rfl (fun _ _ => trivial) HO.out (grp_8 BK.out L8.out) HB.out HB.out.size ?aL ?_; (case aL => (have h0_ := M0.out; have h1_ := M1.out; have h2_ := M2.out; omega)); intro v2 w3 ho hb hg hat; rw [← E1.out] at ho; have n0_ := Aside0.mk ho; have n1_ := Aside0.mk hb; have n2_ := Aside0.mk (blk_grown BK.out hg (Kd.R_ne HO.out BK.out (by decide))); clear HO HB BK ho hb hg hat; have HO := n0_; have HB := n1_; have BK := n2_; clear n0_ n1_ n2_; obtain ⟨A3, c3, e2⟩ := Kd.R_slice HO.out; subst e2)
        | ((with_reducible refine gate_dst (N := 27) rfl ?_); refine Kd.R_append_row (Value.int .u8) 0 (h1 := fun _ => rfl) (w0 := w) w.heap.size rfl (.tmp 24) (.tmp 26) 26 5 (.int .u8 0) 1 rfl Try.underlying26 infou8 rfl (by decide) _ (x1) bs _ _ _ (fun _ => True) rfl rfl (fun _ _ => trivial) HO.out (grp_32 BK.out L8.out L32.out) HB.out HB.out.size ?aL ?_; (case aL => (have h0_ := M0.out; have h1_ := M1.out; have h2_ := M2.out; omega)); intro v2 w4 ho hb hg hat; rw [← E2.out] at ho; have n0_ := Aside0.mk ho; have n1_ := Aside0.mk hb; have n2_ := Aside0.mk (blk_grown BK.out hg (Kd.R_ne HO.out BK.out (by decide))); clear HO HB BK ho hb hg hat; have HO := n0_; have HB := n1_; have BK := n2_; clear n0_ n1_ n2_; obtain ⟨A4, c4, e2⟩ := Kd.R_slice HO.out; subst e2)
        | (go_at_call 37; refine (layout_full.calls A4 c4 (x2) 128 (grpL n is bs) _ (Kd.R_reads' HO.out).2.2 (Kd.R_reads' HO.out).2.1 (by rw [E2.out, E1.out, E0.out]; exact full_g L8.out L32.out)).mono ?_; rintro e w5 ⟨v5, rfl, ho, hb⟩; have n0_ := Aside0.mk (Kd.R_lower ho HB.out.size); have n1_ := Aside0.mk (below_step HB.out hb); clear HO HB ho hb; have HO := n0_; have HB := n1_; clear n0_ n1_))
      go_ret2
      exact ⟨_, rfl, HO.out, HB.out⟩
    · rw [if_neg (fun h => h7 h.2)]
      have hb0 : decide (n < 0) = false := decide_eq_false (by omega)
      have hb1 : decide (8 ≤ n) = true := decide_eq_true (by omega)
      have hb2 : decide (7 < n) = true := decide_eq_true (by omega)
      go_enter Try.func10, Try.ntmps10
      go_wp2_with (first
        | ((with_reducible refine gate_dst (N := 1) rfl ?_); refine box_event ?hg (N := 1) ?hd (cs := grp n is bs) (t := 25) ?hr ?_; (case hd => rfl); (case hg => rfl); (case hr => first | (go_simp; done) | (go_simp; rfl)); intro gb hg w1 hbox hb; have n0_ := Aside0.mk (below_step (w2 := w1) (by repeat (first | (with_reducible first | exact HB.out | apply below_alloc | apply pw_below_drewN | apply below_drew1) | exact HB.out)) hb); have BK := Aside0.mk hbox; clear HB; have HB := n0_; clear n0_ hb hbox hg; have hc0 : w1.cell? ⟨gb, 0, none⟩ = some (.int .i64 n) := (blk_cell BK.out 0).trans rfl; have hca : ∀ o : Obj, (w1.alloc o).cell? ⟨gb, 0, none⟩ = some (.int .i64 n) := fun o => pw_cell_below (below_alloc (Below.refl _ _) o) hc0; have hs8 := sl8 gb 1; have hs32 := sl32 gb 9))
      go_ret2
      exact ⟨_, rfl, Kd.R_nil _ _ _ _ _, HB.out⟩
  · rw [if_neg (fun h => h0 h.1)]
    have hn : n < 0 := by omega
    have hb0 : decide (n < 0) = true := decide_eq_true hn
    clear h0
    go_enter Try.func10, Try.ntmps10
    go_wp2_with (first
      | ((with_reducible refine gate_dst (N := 1) rfl ?_); refine box_event ?hg (N := 1) ?hd (cs := grp n is bs) (t := 25) ?hr ?_; (case hd => rfl); (case hg => rfl); (case hr => first | (go_simp; done) | (go_simp; rfl)); intro gb hg w1 hbox hb; have n0_ := Aside0.mk (below_step (w2 := w1) (by repeat (first | (with_reducible first | exact HB.out | apply below_alloc | apply pw_below_drewN | apply below_drew1) | exact HB.out)) hb); have BK := Aside0.mk hbox; clear HB; have HB := n0_; clear n0_ hb hbox hg; have hc0 : w1.cell? ⟨gb, 0, none⟩ = some (.int .i64 n) := (blk_cell BK.out 0).trans rfl; have hca : ∀ o : Obj, (w1.alloc o).cell? ⟨gb, 0, none⟩ = some (.int .i64 n) := fun o => pw_cell_below (below_alloc (Below.refl _ _) o) hc0; have hs8 := sl8 gb 1; have hs32 := sl32 gb 9))
    go_ret2
    exact ⟨_, rfl, Kd.R_nil _ _ _ _ _, HB.out⟩
end Go.Proofs.Ytdaeanodgnmknaa.Gw
