/- Written by a program of this session. bits.stretches: the iterator over the stretches of bits that are not set. -/
import Derived.RangeFuncNested
import Derived.RangeFuncBound
import Derived.RangeFuncCalls
import Derived.RangeFuncLeaves
import Derived.Shelf.Abstract
import Derived.Shelf.RegionOpen
import Derived.WalkKit
import Derived.OwnWalkIn
import Derived.TacticsInMore
import Derived.LoopNIn
import Derived.LoopIn
import Derived.Test.YtpfiladhmcdjlaaXHsx
import Derived.Test.YtpfiladhmcdjlaaRf
namespace Go.Proofs.Ytpfiladhmcdjlaa.St
open Go Go.RowKit Go.Shelf Go.Proofs Go.Proofs.Ytpfiladhmcdjlaa.Rf Go.Proofs.YtpfiladhmcdjlaaW.PrintWords Go.Proofs.YtpfiladhmcdjlaaW.PrintLast Go.Proofs.YtpfiladhmcdjlaaW.PrintMore
attribute [local go_sem] Oper.semAt_some
set_option linter.unusedVariables false
set_option linter.unusedSimpArgs false

/-! ### The plain law -/
def has (xs : List Int) (k : Nat) : Bool := (XHs.bits_Has.f xs k).getD false
def st (xs : List Int) : Nat → List (Int × Int) × Int × Int
  | 0 => ([], 0, 0)
  | k + 1 => if has xs k then ((if (st xs k).2.2 > 0 then (st xs k).1 ++ [((st xs k).2.1, (st xs k).2.2)] else (st xs k).1), (st xs k).2.1, 0)
    else ((st xs k).1, (if (st xs k).2.2 = 0 then (k : Int) else (st xs k).2.1), (st xs k).2.2 + 1)
def strs (xs : List Int) (m : Nat) : List (Int × Int) := if (st xs m).2.2 > 0 then (st xs m).1 ++ [((st xs m).2.1, (st xs m).2.2)] else (st xs m).1

theorem w_small (x : Int) (h0 : -9223372036854775808 ≤ x) (h1 : x ≤ 9223372036854775807) : wrap64 x = x := by unfold wrap64; omega
theorem has_ok (xs : List Int) (k : Nat) (hk : k < 65536) : XHs.bits_Has.f xs k = some (has xs k) := by
  have e1 : Int.tdiv (k : Int) 8 = ((k / 8 : Nat) : Int) := rfl
  have e2 : Int.tmod (k : Int) 8 = ((k % 8 : Nat) : Int) := rfl
  have h : ∃ b, XHs.bits_Has.f xs k = some b := by
    unfold XHs.bits_Has.f
    rw [e1, e2, if_pos (by omega), w_small _ (by omega) (by omega)]
    split
    · rw [if_pos (by omega), if_pos (by omega)]; exact ⟨_, rfl⟩
    · exact ⟨_, rfl⟩
  obtain ⟨b, hb⟩ := h
  simp [has, hb]

theorem st_bounds (xs : List Int) : ∀ k : Nat, 0 ≤ (st xs k).2.2 ∧ (st xs k).2.2 ≤ k ∧ (st xs k).1.length ≤ k
  | 0 => by simp [st]
  | k + 1 => by
    have ih := st_bounds xs k
    simp only [st]
    split
    · split <;> simp <;> omega
    · simp; omega

theorem many_ok (n : Int) : ∃ m : Nat, m ≤ 65536 ∧ XHs.bits_many.f n = some (m : Int) ∧ (m : Int) = mx 0 (mn n 65536) := by
  refine ⟨(mx 0 (mn n 65536)).toNat, ?_, ?_, ?_⟩
  · unfold mx mn; split <;> split <;> omega
  · unfold XHs.bits_many.f
    have : 0 ≤ mx 0 (mn n 65536) := by unfold mx mn; split <;> split <;> omega
    rw [Int.toNat_of_nonneg this]
  · have : 0 ≤ mx 0 (mn n 65536) := by unfold mx mn; split <;> split <;> omega
    rw [Int.toNat_of_nonneg this]

/-! ### The walk -/
theorem cell_al {W : World} {a : Addr} {v : Value} (o : Obj) (h : W.cell? a = some v) : (W.alloc o).cell? a = some v := (World.grownBy_alloc W o none).cell h (by simp)
theorem Has_in (A0 : Option Addr) (c0 : Nat) (l0 : List Int) (a1 : Int) (r : Bool) (w : World) (hr0 : Kd.C (Kd.int .u8) w A0 l0.length l0) (hc0 : l0.length ≤ c0) (h : XHs.bits_Has.f l0 a1 = some r) (n : Nat) :
    CallsIn Fence.wide n Try.prog 12 #[.slice A0 l0.length c0, .int .i64 a1] w fun e w' => e = .returned (.bool r) ∧ ∃ q, w' = w.drewN q :=
  callsIn_wide.2 ((XHs.bits_Has.calls A0 c0 l0 a1 r w hr0 hc0 h).mono (fun e w' h => ⟨h.1, by obtain ⟨q, hq⟩ := h.2; exact ⟨q, hq⟩⟩))

theorem many_in (n : Int) (w : World) (d : Nat) :
    CallsIn Fence.wide d Try.prog 26 #[.int .i64 n] w fun e w' => e = .returned (.int .i64 (mx 0 (mn n 65536))) ∧ w' = w := by
  refine callsIn_of_wp Try.func26 rfl trivial ?_ rfl
  simp only [Try.ntmps26, List.size_toArray, List.length_cons, List.length_nil, Nat.reduceAdd, Nat.reduceSub, Array.replicate_succ, Array.replicate_zero, List.push_toArray, List.append_toArray, List.nil_append, List.cons_append]
  gi_wp2
  all_goals
    go_ret
    refine ⟨congrArg (fun z => Ending.returned (Value.int .i64 z)) ?_, rfl⟩
    unfold mx mn
    (repeat' split at *) <;> omega

theorem grownBy_set (W : World) (b o : Nat) (v : Value) : W.grownBy (W.setCell ⟨b, o, none⟩ v) (some b) :=
  ⟨rfl, rfl, rfl, by simp [World.setCell], fun k _ hk => Below.heap_setCell _ _ _ k (fun e => hk (by rw [e]))⟩
theorem grownBy_drewN (W : World) (q : Nat) : W.grownBy (W.drewN q) none := ⟨rfl, rfl, rfl, Nat.le_refl _, fun _ _ _ => rfl⟩
theorem set_heap {W : World} {b o : Nat} {cs : Array Value} {t : TypeId} (h : W.heap[b]? = some (.cells cs t (0, 0))) (v : Value) :
    (W.setCell ⟨b, o, none⟩ v).heap[b]? = some (.cells (cs.setIfInBounds o v) t (0, 0)) := by
  obtain ⟨hlt, hk⟩ := Array.getElem?_eq_some_iff.1 h
  show (W.heap.modify b _)[b]? = _
  rw [Array.getElem?_eq_getElem (by rw [Array.size_modify]; exact hlt), Array.getElem_modify_self, hk]
  rfl

theorem st_set (xs : List Int) {k : Nat} (h : has xs k = true) (hz : 0 < (st xs k).2.2) : st xs (k + 1) = ((st xs k).1 ++ [((st xs k).2.1, (st xs k).2.2)], (st xs k).2.1, 0) := by
  rw [st, h]; simp [hz]
theorem st_set0 (xs : List Int) {k : Nat} (h : has xs k = true) (hz : (st xs k).2.2 = 0) : st xs (k + 1) = ((st xs k).1, (st xs k).2.1, 0) := by
  rw [st, h]; simp [hz]
theorem st_un (xs : List Int) {k : Nat} (h : has xs k = false) (hz : ¬ (st xs k).2.2 = 0) : st xs (k + 1) = ((st xs k).1, (st xs k).2.1, (st xs k).2.2 + 1) := by
  rw [st, h]; simp [hz]
theorem st_un0 (xs : List Int) {k : Nat} (h : has xs k = false) (hz : (st xs k).2.2 = 0) : st xs (k + 1) = ((st xs k).1, (k : Int), 1) := by
  rw [st, h]; simp [hz]

set_option maxRecDepth 100000 in
set_option maxHeartbeats 2000000 in
theorem stretches_gives (w0 w : World) (A0 : Option Addr) (c0 : Nat) (xs : List Int) (hr0 : Kd.C (Kd.int .u8) w0 A0 xs.length xs) (hc0 : xs.length ≤ c0)
    (nn : Int) (m : Nat) (hm : (m : Int) = mx 0 (mn nn 65536)) (Bn Br : Nat) (hB0 : Below w0.heap.size w0 w)
    (hBn : Bn < w.heap.size) (hcn : w.heap[Bn]? = some (.cells #[.int .i64 nn] 3 (0, 0)))
    (hBr : Br < w.heap.size) (hcr : w.heap[Br]? = some (.cells #[.slice A0 xs.length c0] 22 (0, 0)))
    (K : Nat → Prop) (hK0 : ∀ k, k < w0.heap.size → K k) (hKn : K Bn) (hKr : K Br) (hKb : K (w.heap.size + 2)) (n : Nat) :
    Gives Fence.wide n Try.prog 29 #[.pointer (some ⟨Bn, 0, none⟩), .pointer (some ⟨Br, 0, none⟩)]
      (fun x : Int × Int => #[Value.agg #[Value.int .i64 x.1, Value.int .i64 x.2]]) K (fun r => r = w.heap.size + 2) (fun ys => ys = strs xs m) 65537 1 w := by
  intro l J W hS hW hJ hY h0
  have hm' : m ≤ 65536 := by
    have h := hm
    unfold mx mn at h
    (repeat' split at h) <;> omega
  refine callsIn_of_wp Try.func29 rfl trivial ?_ rfl
  simp only [Try.ntmps29, List.size_toArray, List.length_cons, List.length_nil, Nat.reduceAdd, Nat.reduceSub, Array.replicate_succ, Array.replicate_zero, List.push_toArray, List.append_toArray, List.nil_append, List.cons_append]
  have cN : W.cell? ⟨Bn, 0, none⟩ = some (.int .i64 nn) := by simp [World.cell?, hW.block Bn hBn, hcn]
  have cN1 := cell_al (.cells #[.int .i64 0, .int .i64 0] 47) cN
  gi_wp2_with (refine ⟨trivial, (fun h => by simp [Fence.wide] at h), ?_⟩; gi_at_call 26; refine (many_in nn _ _).mono ?_; rw [← hm]; rintro e w' ⟨rfl, rfl⟩)
  have hw0 := hB0.size
  obtain ⟨T, hT⟩ : ∃ T : List (Int × Int) → World → Prop, T = fun s A => J s A ∧ W.heap.size + 1 ≤ A.heap.size ∧ Below w0.heap.size w0 A ∧ A.heap[Bn]? = some (.cells #[.int .i64 nn] 3 (0, 0)) ∧ A.heap[Br]? = some (.cells #[.slice A0 xs.length c0] 22 (0, 0)) := ⟨_, rfl⟩
  have turn : ∀ s (A A' : World) row, T s A → A.grownBy A' row → (∀ r, row = some r → r = w.heap.size + 2) → T s A' := by
    intro s A A' row h hg hr
    rw [hT] at h ⊢
    obtain ⟨h1, h2, h3, h4, h5⟩ := h
    refine ⟨hJ _ _ _ _ h1 (by omega) hg hr, Nat.le_trans h2 hg.size, h3.trans ⟨hg.os, hg.tape, hg.output, hg.size, fun k hk => hg.block k (by omega) (fun e => by have := hr k e.symm; omega)⟩, ?_, ?_⟩
    · exact (hg.block _ (by omega) (fun e => by have := hr _ e.symm; omega)).trans h4
    · exact (hg.block _ (by omega) (fun e => by have := hr _ e.symm; omega)).trans h5
  have yld : ∀ pre x (A : World), T pre A → pre.length < 65537 → YieldAt Fence.wide (n - 1) Try.prog l #[Value.agg #[Value.int .i64 x.1, Value.int .i64 x.2]] A fun e W' =>
      e = .returned (.bool true) ∧ T (pre ++ [x]) W' ∧ W'.heap[w.heap.size + 2]? = A.heap[w.heap.size + 2]? := by
    intro pre x A h hlen
    rw [hT] at h ⊢
    obtain ⟨h1, h2, h3, h4, h5⟩ := h
    obtain ⟨fn, tmps, assign, body, hy, hR⟩ := hY pre x A h1 hlen h2
    refine ⟨fn, tmps, assign, body, hy, hR.mono ?_⟩
    rintro e W' ⟨rfl, hj, hk⟩
    exact ⟨rfl, ⟨hj, Nat.le_trans h2 hk.size, h3.trans (hk.below hK0), (hk.2 _ hKn).trans h4, (hk.2 _ hKr).trans h5⟩, hk.2 _ hKb⟩
  have tcell : ∀ s (A : World), T s A → Kd.C (Kd.int .u8) A A0 xs.length xs ∧ A.cell? ⟨Br, 0, none⟩ = some (.slice A0 xs.length c0) := by
    intro s A h
    rw [hT] at h
    obtain ⟨h1, h2, h3, h4, h5⟩ := h
    exact ⟨Kd.C_below hr0 h3, by simp [World.cell?, h5]⟩
  have start : T [] (W.alloc (.cells #[.int .i64 0, .int .i64 0] 47)) := by
    rw [hT]
    have hg := World.grownBy_alloc W (.cells #[.int .i64 0, .int .i64 0] 47) none
    refine ⟨hJ _ _ _ _ h0 (Nat.le_refl _) hg (fun r e => by cases e), by simp, hB0.trans ((hW.mono hw0).alloc (by omega) _), ?_, ?_⟩
    · exact (hg.block _ (by omega) (by simp)).trans ((hW.block _ hBn).trans hcn)
    · exact (hg.block _ (by omega) (by simp)).trans ((hW.block _ hBr).trans hcr)
  have startn : (W.alloc (.cells #[.int .i64 0, .int .i64 0] 47)).heap[w.heap.size + 2]? = some (.cells #[.int .i64 0, .int .i64 0] 47 (0, 0)) := by
    have := World.alloc_heap_new W (.cells #[.int .i64 0, .int .i64 0] 47)
    rwa [hS] at this
  have finish : ∀ s (A : World), T s A → J s A := by intro s A h; rw [hT] at h; exact h.1
  clear hT hJ hY h0 hcn hcr hW cN cN1
  gi_loopw [8] (fun v8 wr => ∃ k : Nat, v8 = .int .i64 k ∧ k ≤ m ∧ wr.heap[w.heap.size + 2]? = some (.cells #[.int .i64 (st xs k).2.1, .int .i64 (st xs k).2.2] 47 (0, 0)) ∧ T (st xs k).1 wr)
    (fun v8 _ => m - (intOf v8).toNat)
  case atStart =>
    exact ⟨0, rfl, Nat.zero_le _, startn, start⟩
  case round =>
    obtain ⟨k, rfl, hk, hnow, hTk⟩ := hrel
    clear start startn
    have hb := st_bounds xs k
    have hmes : k < m → m - (intOf (Value.int .i64 ((k : Int) + 1))).toNat < m - (intOf (Value.int .i64 (k : Int))).toNat := fun h => by
      show m - ((k : Int) + 1).toNat < m - ((k : Int)).toNat
      omega
    have hCk := Aside0.mk (tcell _ _ hTk).1
    have cA : wr.cell? ⟨w.heap.size + 2, 0, none⟩ = some (.int .i64 (st xs k).2.1) := by simp [World.cell?, hnow]
    have cL : wr.cell? ⟨w.heap.size + 2, 1, none⟩ = some (.int .i64 (st xs k).2.2) := by simp [World.cell?, hnow]
    have fA : wr.frozen? ⟨w.heap.size + 2, 0, none⟩ = false := by simp [World.frozen?, hnow]
    have fL : wr.frozen? ⟨w.heap.size + 2, 1, none⟩ = false := by simp [World.frozen?, hnow]
    have cR : wr.cell? ⟨Br, 0, none⟩ = some (.slice A0 xs.length c0) := (tcell _ _ hTk).2
    by_cases hkm : k < m
    · have hd : decide ((k : Int) < (m : Int)) = true := decide_eq_true (by omega)
      have hhas := has_ok xs k (by omega)
      cases hh : has xs k with
      | false =>
        rw [hh] at hhas
        by_cases hz : (st xs k).2.2 = 0
        · have hz0 : ((st xs k).2.2 == 0) = true := by simp [hz]
          gi_wp2_with (refine ⟨trivial, (fun h => by simp [Fence.wide] at h), ?_⟩; gi_at_call 12; refine (Has_in A0 c0 xs k false _ hCk.out hc0 hhas _).mono ?_; rintro e w' ⟨rfl, q, rfl⟩)
          go_roundw
          case rel =>
            refine ⟨k + 1, rfl, hkm, ?_, ?_⟩
            · rw [st_un0 xs hh hz]
              exact set_heap (set_heap (W := wr.drewN q) hnow _) _
            · rw [st_un0 xs hh hz]
              exact turn _ _ _ _ (turn _ _ _ _ (turn _ _ _ _ hTk (grownBy_drewN _ q) (by simp)) (grownBy_set _ _ _ _) (by simp)) (grownBy_set _ _ _ _) (by simp)
          case measure => exact hmes hkm
        · have hz0 : ((st xs k).2.2 == 0) = false := by simp [hz]
          have hw1 : wrap64 ((st xs k).2.2 + 1) = (st xs k).2.2 + 1 := w_small _ (by omega) (by omega)
          gi_wp2_with (refine ⟨trivial, (fun h => by simp [Fence.wide] at h), ?_⟩; gi_at_call 12; refine (Has_in A0 c0 xs k false _ hCk.out hc0 hhas _).mono ?_; rintro e w' ⟨rfl, q, rfl⟩)
          go_roundw
          case rel =>
            refine ⟨k + 1, rfl, hkm, ?_, ?_⟩
            · rw [st_un xs hh hz]
              exact set_heap (W := wr.drewN q) hnow _
            · rw [st_un xs hh hz]
              exact turn _ _ _ _ (turn _ _ _ _ hTk (grownBy_drewN _ q) (by simp)) (grownBy_set _ _ _ _) (by simp)
          case measure => exact hmes hkm
      | true =>
        rw [hh] at hhas
        by_cases hz : 0 < (st xs k).2.2
        · have hz0 : decide (0 < (st xs k).2.2) = true := decide_eq_true hz
          gi_wp2_with (refine ⟨trivial, (fun h => by simp [Fence.wide] at h), ?_⟩; gi_at_call 12; refine (Has_in A0 c0 xs k true _ hCk.out hc0 hhas _).mono ?_; rintro e w' ⟨rfl, q, rfl⟩; obtain ⟨fn, tmps, assign, body, hy, hR⟩ := yld _ ((st xs k).2.1, (st xs k).2.2) _ (turn _ _ _ _ hTk (grownBy_drewN _ q) (by simp)) (by omega); dsimp only at hy)
          refine ⟨(fun h => by simp [Fence.wide] at h), hR.mono ?_⟩
          rintro e W3 ⟨rfl, hT3, hn3⟩
          have hnow3 : W3.heap[w.heap.size + 2]? = some (.cells #[.int .i64 (st xs k).2.1, .int .i64 (st xs k).2.2] 47 (0, 0)) := hn3.trans hnow
          have fL3 : W3.frozen? ⟨w.heap.size + 2, 1, none⟩ = false := by simp [World.frozen?, hnow3]
          have cL3 : W3.cell? ⟨w.heap.size + 2, 1, none⟩ = some (.int .i64 (st xs k).2.2) := by simp [World.cell?, hnow3]
          gi_wp2
          go_roundw
          case rel =>
            refine ⟨k + 1, rfl, hkm, ?_, ?_⟩
            · rw [st_set xs hh hz]
              exact set_heap hnow3 _
            · rw [st_set xs hh hz]
              exact turn _ _ _ _ hT3 (grownBy_set _ _ _ _) (by simp)
          case measure => exact hmes hkm
        · have hz' : (st xs k).2.2 = 0 := by omega
          have hz0 : decide (0 < (st xs k).2.2) = false := decide_eq_false hz
          gi_wp2_with (refine ⟨trivial, (fun h => by simp [Fence.wide] at h), ?_⟩; gi_at_call 12; refine (Has_in A0 c0 xs k true _ hCk.out hc0 hhas _).mono ?_; rintro e w' ⟨rfl, q, rfl⟩)
          refine ⟨(fun _ h => by cases h), ?_⟩
          gi_wp2
          go_roundw
          case rel =>
            refine ⟨k + 1, rfl, hkm, ?_, ?_⟩
            · rw [st_set0 xs hh hz']
              exact set_heap (W := wr.drewN q) hnow _
            · rw [st_set0 xs hh hz']
              exact turn _ _ _ _ (turn _ _ _ _ hTk (grownBy_drewN _ q) (by simp)) (grownBy_set _ _ _ _) (by simp)
          case measure => exact hmes hkm
    · obtain rfl : k = m := by omega
      have hd : decide ((k : Int) < (k : Int)) = false := decide_eq_false (by omega)
      by_cases hz : 0 < (st xs k).2.2
      · have hz0 : decide (0 < (st xs k).2.2) = true := decide_eq_true hz
        obtain ⟨fn, tmps, assign, body, hy, hR⟩ := yld _ ((st xs k).2.1, (st xs k).2.2) _ hTk (by omega)
        dsimp only at hy
        gi_wp2
        refine ⟨(fun h => by simp [Fence.wide] at h), hR.mono ?_⟩
        rintro e W3 ⟨rfl, hT3, hn3⟩
        gi_wp2
        go_end0
        have e3 : strs xs k = (st xs k).1 ++ [((st xs k).2.1, (st xs k).2.2)] := by simp [strs, hz]
        first
          | exact ⟨⟨_, rfl⟩, _, e3.symm, finish _ _ hT3⟩
          | (rw [e3]; exact finish _ _ hT3)
          | (rw [e3]; exact ⟨⟨_, rfl⟩, finish _ _ hT3⟩)
      · have hz0 : decide (0 < (st xs k).2.2) = false := decide_eq_false hz
        gi_wp2
        go_end0
        have e3 : strs xs k = (st xs k).1 := by simp [strs, hz]
        first
          | exact ⟨⟨_, rfl⟩, _, e3.symm, finish _ _ hTk⟩
          | (rw [e3]; exact finish _ _ hTk)
          | (rw [e3]; exact ⟨⟨_, rfl⟩, finish _ _ hTk⟩)
end Go.Proofs.Ytpfiladhmcdjlaa.St
