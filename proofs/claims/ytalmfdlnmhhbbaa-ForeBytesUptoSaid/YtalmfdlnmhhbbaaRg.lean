/- Written by a program of this session. A range over a function whose body may return: the iterator may turn blocks of its own. -/
import Derived.Test.YtalmfdlnmhhbbaaRf
import Derived.RangeFuncNested
import Derived.Shelf.Abstract
import Derived.Shelf.RegionOpen
import Derived.WalkKit
import Derived.OwnWalkIn
import Derived.TacticsInMore
import Derived.LoopNIn
import Derived.LoopIn
import Derived.Maps.OwnIn
import Derived.Maps.AppendAt
import Derived.StringKeys
import Derived.RangeFuncBox
namespace Go.Proofs.Ytalmfdlnmhhbbaa.Rf
open Go Go.RowKit Go.Proofs

variable {F : Fence} {n : Nat} {P : Program}

/-- The contract of an iterator whose rounds may say 'no more'. -/
def Stops {α : Type} (F : Fence) (n : Nat) (P : Program) (gf : Nat) (lb : Array Value) (encs : α → Array Value) (K R : Nat → Prop) (V : List α → α → Prop) (S Sp : List α → Prop) (N ex : Nat) (w : World) : Prop :=
  ∀ (l : Nat) (J Jx : List α → World → Prop) (W : World), W.heap.size = w.heap.size + 2 → Below w.heap.size w W →
    (∀ s A A' row, J s A → W.heap.size ≤ A.heap.size → A.grownBy A' row → (∀ r, row = some r → R r) → J s A') →
    (∀ s A A' row, Jx s A → A.grownBy A' row → (∀ r, row = some r → R r) → Jx s A') →
    (∀ pre x W1, V pre x → J pre W1 → pre.length < N → W.heap.size + ex ≤ W1.heap.size → YieldAt F (n - 1) P l (encs x) W1 fun e W' =>
      (e = .returned (.bool true) ∧ J (pre ++ [x]) W' ∧ Keep K W1 W') ∨ (e = .returned (.bool false) ∧ Jx (pre ++ [x]) W')) →
    J [] W →
    CallsIn F n P gf (#[.func (.yield l) #[] #[]] ++ lb) W fun e W' => (∃ v, e = .returned v) ∧ ((∃ xs, S xs ∧ J xs W') ∨ (∃ pre, Sp pre ∧ Jx pre W'))

theorem range_stops {α : Type} {g : Operand} {ps : Array Tmp} {assign body : Code} {Q : Exit → Act → World → Prop} {a : Act} {w : World}
    (hro : F.round = none) (h1 : 1 ≤ n) {gf : Nat} {lb : Array Value} (hg : a.eval g = .func (.func gf) #[] lb) (hFg : F.fn gf) (eg : ∀ args w, (callFunc gf args).run P w = .ok (.enter gf args) w)
    {encs : α → Array Value} {K R : Nat → Prop} {V : List α → α → Prop} {S Sp : List α → Prop} {N ex : Nat}
    (hK : ¬ K w.heap.size ∧ ¬ K (w.heap.size + 1)) (hR : ¬ R w.heap.size ∧ ¬ R (w.heap.size + 1))
    (hseq : Stops F (n - 1) P gf lb encs K R V S Sp N ex w) (hps : ∀ x, (encs x).size = ps.size)
    (I Ix : List α → World → Prop)
    (hI : ∀ s A A' row, I s A → A.grownBy A' row → (∀ r, row = some r → r = w.heap.size ∨ r = w.heap.size + 1 ∨ R r) → I s A')
    (hIx : ∀ s A A' row, Ix s A → A.grownBy A' row → (∀ r, row = some r → r = w.heap.size ∨ r = w.heap.size + 1 ∨ R r) → Ix s A')
    (h0 : I [] w) (Ax : α → Act → World → Prop)
    (hAx : ∀ x a' A A' row, Ax x a' A → A.grownBy A' row → (∀ r, row = some r → r = w.heap.size ∨ r = w.heap.size + 1) → Ax x a' A')
    (hassign : ∀ (l : Nat) (pre : List α) (x : α) (W : World) (k : Act → World → Prop), V pre x → I pre W → w.heap.size + 2 + ex ≤ W.heap.size →
      (∀ a' W', Keep (fun k => K k ∨ k = w.heap.size ∨ k = w.heap.size + 1) W W' → I pre W' → Ax x a' W' → k a' W') →
      assign.wpIn (F.inRound l) (n - 1 - 1) P (Exit.then k (fun _ _ _ => False)) { tmps := (ps.zip (encs x)).foldl (fun t (p, v) => t.setIfInBounds p v) a.tmps, defers := [] } W)
    (hbody : ∀ (l : Nat) (pre : List α) (x : α) (a' : Act) (W : World), V pre x → I pre W → Ax x a' W → pre.length < N → w.heap.size + 2 + ex ≤ W.heap.size →
      body.wpIn (F.inRound l) (n - 1 - 1) P (fun e _ W' => (e = .normal ∧ Keep (fun k => K k ∨ k = w.heap.size ∨ k = w.heap.size + 1) W W' ∧ I (pre ++ [x]) W') ∨
        (e = .ret ∧ Keep (fun k => k = w.heap.size ∨ k = w.heap.size + 1) W W' ∧ Ix (pre ++ [x]) W')) a' W)
    (hdone : ∀ (xs : List α) (W : World), S xs → I xs W → W.heap[w.heap.size]? = some (.deferred (some [])) → Q .normal { a with defers := { target := .collected w.heap.size, args := #[] } :: a.defers } W)
    (hstop : ∀ (pre : List α) (W : World), Sp pre → Ix pre W → W.heap[w.heap.size]? = some (.deferred (some [])) → Code.ret.wpIn F n P Q { a with defers := { target := .collected w.heap.size, args := #[] } :: a.defers } W) :
    (Code.rangeFunc g ps assign body).wpIn F n P Q a w := by
  refine wpIn_rangeFunc fun fn hfn => ?_
  rw [hro]
  obtain ⟨rec, hrec⟩ : ∃ rec : LoopState → Option Code → Loop, rec = fun st pe => { state := st, pending := pe, fn, tmps := a.tmps, params := ps, assign, body, defers := w.heap.size } := ⟨_, rfl⟩
  obtain ⟨W1, hW1⟩ : ∃ W1, (w.alloc (.deferred (some []))).alloc (.loop (rec .ready none)) = W1 := ⟨_, rfl⟩
  have hS1 : W1.heap.size = w.heap.size + 2 := by rw [← hW1]; simp
  have hL1 : W1.heap[w.heap.size + 1]? = some (.loop (rec .ready none)) := by
    rw [← hW1]; have := World.alloc_heap_new (w.alloc (.deferred (some []))) (.loop (rec .ready none)); rwa [World.size_alloc] at this
  have hK1 : W1.heap[w.heap.size]? = some (.deferred (some [])) := by
    rw [← hW1]; exact (Below.heap_alloc _ _ _ (by simp)).trans (World.alloc_heap_new w _)
  have hG1 : w.grownBy W1 none := by
    rw [← hW1]
    exact ⟨rfl, rfl, rfl, by simp; omega, fun k hk _ => (Below.heap_alloc _ _ _ (by simp; omega)).trans (Below.heap_alloc _ _ _ hk)⟩
  have hI1 : I [] W1 := hI _ _ _ _ h0 hG1 (fun r e => by cases e)
  have hB1 : Below w.heap.size w W1 := ⟨hG1.os, hG1.tape, hG1.output, hG1.size, fun k hk => hG1.block k hk (by simp)⟩
  refine ⟨w.heap.size + 1, [{ target := .collected w.heap.size, args := #[] }], W1, { target := .fn (.func gf) lb, args := #[.func (.yield (w.heap.size + 1)) #[] #[]] }, W1, gf,
    #[.func (.yield (w.heap.size + 1)) #[] #[]] ++ lb, W1, ?_, ?_, ?_, ?_, fun _ => h1, ?_⟩
  · rw [← hW1, hrec]; exact run_enterLoop_outer _ _ _ _ _
  · simp only [resolve, hg]
    simp [go_sem]
  · intro f' hf'; simp [Target.leads] at hf'; subst hf'; exact hFg
  · simp [invoke, go_sem, eg]
  · refine (hseq (w.heap.size + 1)
      (fun pre W => I pre W ∧ W.heap[w.heap.size + 1]? = some (.loop (rec .ready none)) ∧ W.heap[w.heap.size]? = some (.deferred (some [])))
      (fun pre W => Ix pre W ∧ W.heap[w.heap.size + 1]? = some (.loop (rec .done (some .ret))) ∧ W.heap[w.heap.size]? = some (.deferred (some [])))
      W1 hS1 hB1 ?_ ?_ ?_ ⟨hI1, hL1, hK1⟩).mono ?_
    · rintro s A A' row ⟨hi, hl, hk⟩ hsz hg' hr
      refine ⟨hI _ _ _ _ hi hg' (fun r e => .inr (.inr (hr r e))), ?_, ?_⟩
      · exact (hg'.block _ (by omega) (fun e => hR.2 (hr _ e.symm))).trans hl
      · exact (hg'.block _ (by omega) (fun e => hR.1 (hr _ e.symm))).trans hk
    · rintro s A A' row ⟨hi, hl, hk⟩ hg' hr
      refine ⟨hIx _ _ _ _ hi hg' (fun r e => .inr (.inr (hr r e))), ?_, ?_⟩
      · exact (hg'.block _ (Array.getElem?_eq_some_iff.1 hl).1 (fun e => hR.2 (hr _ e.symm))).trans hl
      · exact (hg'.block _ (Array.getElem?_eq_some_iff.1 hk).1 (fun e => hR.1 (hr _ e.symm))).trans hk
    · rintro pre x W hvx ⟨hi, hl, hk⟩ hlen hsz
      have hlt : w.heap.size + 1 < W.heap.size := (Array.getElem?_eq_some_iff.1 hl).1
      have hy := run_yield (P := P) (args := encs x) hl (by rw [hrec]; exact hps x)
      rw [hrec] at hy
      refine ⟨fn, _, assign, body, hy, roundIn_of_wpIn hfn (hassign _ pre x W _ hvx hi (by omega) (fun a' W0 hk0 hi0 hax => ?_))⟩
      have hl0 : W0.heap[w.heap.size + 1]? = some (.loop (rec .ready none)) := (hk0.2 _ (.inr (.inr rfl))).trans hl
      have hd0 : W0.heap[w.heap.size]? = some (.deferred (some [])) := (hk0.2 _ (.inr (.inl rfl))).trans hk
      have hlt0 : w.heap.size + 1 < W0.heap.size := (Array.getElem?_eq_some_iff.1 hl0).1
      refine ⟨_, run_beginRound hl0 (by rw [hrec]), ?_⟩
      obtain ⟨W2, hW2⟩ : ∃ W2, W0.putObj (w.heap.size + 1) (.loop (rec .busy none)) = W2 := ⟨_, rfl⟩
      have hrb : ({ rec .ready none with state := .busy } : Loop) = rec .busy none := by rw [hrec]
      rw [hrb, hW2]
      have hg2 : W0.grownBy W2 (some (w.heap.size + 1)) := hW2 ▸ grownBy_putObj' W0 _ _
      have hl2 : W2.heap[w.heap.size + 1]? = some (.loop (rec .busy none)) := by rw [← hW2]; exact World.putObj_heap_same hlt0
      have hk2 : W2.heap[w.heap.size]? = some (.deferred (some [])) := (hg2.block _ (by omega) (by simp)).trans hd0
      refine wpIn_mono (hbody _ pre x a' W2 hvx (hI _ _ _ _ hi0 hg2 (fun r e => by cases e; exact .inr (.inl rfl))) (hAx _ _ _ _ _ hax hg2 (fun r e => by cases e; exact .inr rfl)) hlen (by have := hg2.size; have := hk0.size; omega)) ?_
      rintro e a3 W3 (⟨rfl, hk3, hi3⟩ | ⟨rfl, hk3, hi3⟩)
      · have hl3 : W3.heap[w.heap.size + 1]? = some (.loop (rec .busy none)) := (hk3.2 _ (.inr (.inr rfl))).trans hl2
        have hd3 : W3.heap[w.heap.size]? = some (.deferred (some [])) := (hk3.2 _ (.inr (.inl rfl))).trans hk2
        have hre : ({ rec .busy none with state := if (none : Option Code).isNone then .ready else .done, pending := none } : Loop) = rec .ready none := by rw [hrec]; rfl
        have hr := run_endRound (P := P) none hl3
        rw [hre] at hr
        have hg4 := grownBy_putObj' W3 (w.heap.size + 1) (.loop (rec .ready none))
        have hlt3 : w.heap.size + 1 < W3.heap.size := (Array.getElem?_eq_some_iff.1 hl3).1
        refine ⟨_, _, hr, .inl ⟨rfl, ⟨hI _ _ _ _ hi3 hg4 (fun r e => by cases e; exact .inr (.inl rfl)), World.putObj_heap_same hlt3, (World.putObj_heap_other (by omega)).trans hd3⟩, ?_⟩⟩
        refine ⟨⟨?_, ?_, ?_, ?_, fun k hk => by omega⟩, fun k hK' => ?_⟩
        · exact hg4.os.trans (hk3.1.os.trans (hg2.os.trans hk0.1.os))
        · exact hg4.tape.trans (hk3.1.tape.trans (hg2.tape.trans hk0.1.tape))
        · exact hg4.output.trans (hk3.1.output.trans (hg2.output.trans hk0.1.output))
        · exact Nat.le_trans hk0.1.size (Nat.le_trans hg2.size (Nat.le_trans hk3.1.size hg4.size))
        · have hne : k ≠ w.heap.size + 1 := fun e => hK.2 (e ▸ hK')
          refine (World.putObj_heap_other hne).trans ((hk3.2 k (.inl hK')).trans ?_)
          rw [← hW2]
          exact (World.putObj_heap_other hne).trans (hk0.2 k (.inl hK'))
      · have hl3 : W3.heap[w.heap.size + 1]? = some (.loop (rec .busy none)) := (hk3.2 _ (.inr rfl)).trans hl2
        have hd3 : W3.heap[w.heap.size]? = some (.deferred (some [])) := (hk3.2 _ (.inl rfl)).trans hk2
        have hre : ({ rec .busy none with state := if (some Code.ret : Option Code).isNone then .ready else .done, pending := some .ret } : Loop) = rec .done (some .ret) := by rw [hrec]; rfl
        have hr := run_endRound (P := P) (some .ret) hl3
        rw [hre] at hr
        have hg4 := grownBy_putObj' W3 (w.heap.size + 1) (.loop (rec .done (some .ret)))
        have hlt3 : w.heap.size + 1 < W3.heap.size := (Array.getElem?_eq_some_iff.1 hl3).1
        exact ⟨_, _, hr, .inr ⟨rfl, hIx _ _ _ _ hi3 hg4 (fun r e => by cases e; exact .inr (.inl rfl)), World.putObj_heap_same hlt3, (World.putObj_heap_other (by omega)).trans hd3⟩⟩
    · rintro e W2 ⟨⟨v, rfl⟩, (⟨xs, hS, hi, hl, hk⟩ | ⟨pre, hSp, hi, hl, hk⟩)⟩
      · have hend := run_endLoop (P := P) hl (by rw [hrec]; simp)
        have hlt : w.heap.size + 1 < W2.heap.size := (Array.getElem?_eq_some_iff.1 hl).1
        have hp : (rec .ready none).pending = none := by rw [hrec]
        rw [hp] at hend
        exact ⟨none, _, hend, hdone xs _ hS (hI _ _ _ _ hi (grownBy_putObj' W2 _ _) (fun r e => by cases e; exact .inr (.inl rfl))) ((World.putObj_heap_other (by omega)).trans hk)⟩
      · have hend := run_endLoop (P := P) hl (by rw [hrec]; simp)
        have hlt : w.heap.size + 1 < W2.heap.size := (Array.getElem?_eq_some_iff.1 hl).1
        have hp : (rec .done (some .ret)).pending = some .ret := by rw [hrec]
        rw [hp] at hend
        exact ⟨some .ret, _, hend, hstop pre _ hSp (hIx _ _ _ _ hi (grownBy_putObj' W2 _ _) (fun r e => by cases e; exact .inr (.inl rfl))) ((World.putObj_heap_other (by omega)).trans hk)⟩

end Go.Proofs.Ytalmfdlnmhhbbaa.Rf
