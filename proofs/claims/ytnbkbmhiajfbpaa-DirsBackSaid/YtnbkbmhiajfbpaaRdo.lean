/- The reader's beginning, what is left of it, its error; readers that no call made. -/
import Derived.Test.YtnbkbmhiajfbpaaRdd
namespace Go.Proofs.Ytnbkbmhiajfbpaa.Rd
open Go.RowKit Go.Proofs.Ytnbkbmhiajfbpaa.XRd Go.Proofs.YtnbkbmhiajfbpaaW.PrintWords Go.Proofs.YtnbkbmhiajfbpaaW.PrintLast
set_option linter.unusedVariables false
set_option linter.unusedSimpArgs false
theorem rdu8 : (Try.prog.info? 5).map (fun i => (i.zero, i.size, i.bytes)) = some (some (.int .u8 0), 1, 1) := by kernel_rfl

theorem own_blk {w : World} {base : Nat} {e : TypeId} {size n c : Nat} {ad : Addr} {xs : List Value} (h : w.ownsRow base e size (.slice (some ad) n c) n xs) : (Value.slice (some ad) n c).ownBlock = some ad.block := by
  rcases h.2 with ⟨h1, _⟩ | ⟨g, cap, cur, h1, _⟩
  · cases h1
  · injection h1 with h1 _ _
    injection h1 with h1
    subst h1
    rfl

set_option maxHeartbeats 4000000 in
/-- A reader over bytes: a copy of them, at their beginning. -/
theorem Over_call (A0 : Option Addr) (c0 : Nat) (l : List Int) (w : World) (hr0 : Kd.C (Kd.int .u8) w A0 l.length l) (hl : l.length ≤ 140737488355328) :
    Calls Try.prog 38 #[.slice A0 l.length c0] w fun e w' => ∃ w1 g, e = .returned (.pointer (some ⟨g, 0, none⟩)) ∧ IsRd w1 w' g l 0 0 ∧ Below w.heap.size w w1 ∧ w.heap.size ≤ w1.heap.size ∧ g < w'.heap.size ∧
      ∃ A c, w'.heap[g]? = some (.cells #[.slice A l.length c, .int .i64 0, .int .i64 0, .bool true] 78 (0, 0)) ∧ l.length ≤ c ∧ Kd.C (Kd.int .u8) w1 A l.length l ∧ ∀ ad, A = some ad → w.heap.size ≤ ad.block ∧ ad.block < g := by
  have HR0 := Aside0.mk hr0
  have LM := Aside0.mk hl
  clear hr0 hl
  go_enter Try.func38, Try.ntmps38
  go_wp2_with (first
    | ((with_reducible refine gate_builtin (b := .append) (xs := #[.const (.slice none 0 0), .tmp 3]) rfl ?_); at_builtin; refine Kd.R_append_rows (Kd.int .u8) (w0 := w) w.heap.size rfl (.const (.slice none 0 0)) (.tmp 3) 22 5 (.int .u8 0) 1 rfl Try.underlying22 rdu8 rfl (by decide) (by omega) (.slice none 0 0) ([] : List Int) l _ _ _ (fun _ => True) (fun _ => False) rfl rfl (Kd.R_nil _ _ _ _ _) HR0.out (fun _ _ h => h) (fun _ h => h.elim) (fun _ _ => trivial) (Below.refl _ _) (Nat.le_refl _) ?aL ?_; (case aL => have := LM.out; simp; omega); intro v2 w2 ho2 hb2 hg2 _; obtain ⟨inner, hown⟩ := Kd.R_own ho2; obtain ⟨A, c, rfl, hc2, hC2⟩ := Kd.R_reads ho2; have hfar : ∀ ad, A = some ad → w.heap.size ≤ ad.block ∧ ad.block < w2.heap.size := (by rintro ad rfl; exact ⟨own_base hown ad.block (by simpa using own_blk hown), own_lt hown ad.block (by simpa using own_blk hown)⟩); have HFAR := Aside0.mk hfar; clear hfar hown; have HC2 := Aside0.mk hC2; have Hc2 := Aside0.mk hc2; have HB2 := Aside0.mk hb2; have HG2 := Aside0.mk hg2; clear ho2 hb2 hC2 hc2 hg2))
  go_ret
  have hcell : (w2.alloc (.cells #[.slice A l.length c, .int .i64 0, .int .i64 0, .bool true] 78)).heap[w2.heap.size]? = some (.cells #[.slice A l.length c, .int .i64 0, .int .i64 0, .bool true] 78 (0, 0)) := by rw [heap_alloc, if_pos rfl]
  exact ⟨w2, w2.heap.size, rfl, ⟨⟨A, c, hcell, Hc2.out, HC2.out⟩, Nat.le_refl _, below_alloc (Below.refl _ _) _⟩, HB2.out, HB2.out.size, blk_lt hcell, A, c, hcell, Hc2.out, HC2.out, HFAR.out⟩

/-- Its error. -/
theorem Err_call (w0 : World) (g : Nat) (l : List Int) (p e : Int) (w : World) (hI : IsRd w0 w g l p e) :
    Calls Try.prog 41 #[.pointer (some ⟨g, 0, none⟩)] w fun r w' => r = .returned (.int .i64 e) ∧ ∃ m, w' = w.drewN m := by
  obtain ⟨A, c, ⟨hc0, hc1, hc2, hc3⟩, hc, hC⟩ := hI.cells
  clear hC hI
  have hE : ∀ W : World, (binOp .eql 61 (.pointer (some ⟨g, 0, none⟩)) (.pointer none)).run Try.prog W = .ok (.bool false) W := fun W => by rfl
  have hnot : ∀ (x : Bool) (w : World), (Op.unary .not (.bool x)).run Try.prog w = .ok (.bool (!x)) w := fun _ _ => rfl
  go_enter Try.func41, Try.ntmps41
  go_wp2
  go_ret
  exact ⟨rfl, 0, rfl⟩

/-! ### a reader that no call made -/
/-- nil, or a reader of noughts. -/
def Nob (w : World) (q : Option Addr) : Prop := q = none ∨ ∃ g, q = some ⟨g, 0, none⟩ ∧ w.heap[g]? = some (.cells #[.slice none 0 0, .int .i64 0, .int .i64 0, .bool false] 78 (0, 0))
theorem Nob.below {w w1 : World} {q : Option Addr} (h : Nob w q) (hb : Below w.heap.size w w1) : Nob w1 q := by
  rcases h with h | ⟨g, h, h2⟩
  · exact .inl h
  · exact .inr ⟨g, h, blk_grown h2 (grown_of_below hb none) (by simp)⟩

theorem do_nobody (q : Option Addr) (read : FuncId) (cap : Array Value) (w : World) (hN : Nob w q) :
    Calls Try.prog 52 #[.pointer q, .func (.func read) #[] cap] w fun r w' => r = .returned (.tuple #[]) ∧ w' = w.alloc (.cells #[.pointer q] 61) := by
  have hnot : ∀ (x : Bool) (w : World), (Op.unary .not (.bool x)).run Try.prog w = .ok (.bool (!x)) w := fun _ _ => rfl
  rcases hN with rfl | ⟨g, rfl, hb⟩
  · have hE : ∀ W : World, (binOp .eql 61 (.pointer none) (.pointer none)).run Try.prog W = .ok (.bool true) W := fun W => by rfl
    go_enter_defers Try.func52, Try.ntmps52
    go_wp2_with (fail)
    simp [bodyPostD, Leaves, settle, results, Try.results52, go_sem]
  · have hE : ∀ W : World, (binOp .eql 61 (.pointer (some ⟨g, 0, none⟩)) (.pointer none)).run Try.prog W = .ok (.bool false) W := fun W => by rfl
    have hb1 := blk_grown hb (grown_of_below (below_alloc (Below.refl w.heap.size w) (.cells #[.pointer (some ⟨g, 0, none⟩)] 61)) none) (by simp)
    have c3 := (blk_cell hb1 3).trans rfl
    clear hb1
    go_enter_defers Try.func52, Try.ntmps52
    go_wp2_with (fail)
    simp [bodyPostD, Leaves, settle, results, Try.results52, go_sem]

set_option maxHeartbeats 4000000 in
theorem Take_nobody (q : Option Addr) (n : Int) (w : World) (hN : Nob w q) :
    Calls Try.prog 39 #[.pointer q, .int .i64 n] w fun r w' => r = .returned (.int .i64 0) ∧ Below w.heap.size w w' := by
  have hmf : ∀ (fn : Fn) (first cap : Array Value) (w : World), (Instr.makeFunc fn first cap).run Try.prog w = .ok (.func fn first cap) w := fun _ _ _ _ => rfl
  have hB : Below w.heap.size w (((w.alloc (.cells #[.pointer q] 61)).alloc (.cells #[.int .i64 n] 3)).alloc (.cells #[.int .i64 0] 3)) := below_alloc (below_alloc (below_alloc (Below.refl _ _) _) _) _
  have HD := Lib.hid (do_nobody q 53 #[.pointer (some ⟨w.heap.size, 0, none⟩), .pointer (some ⟨w.heap.size + 1, 0, none⟩), .pointer (some ⟨w.heap.size + 1 + 1, 0, none⟩)] _ (hN.below hB))
  have HB := Lib.hid hB
  have hc : ((((w.alloc (.cells #[.pointer q] 61)).alloc (.cells #[.int .i64 n] 3)).alloc (.cells #[.int .i64 0] 3)).alloc (.cells #[.pointer q] 61)).cell? ⟨w.heap.size + 1 + 1, 0, none⟩ = some (.int .i64 0) := (blk_cell (h := by simp only [heap_alloc, World.size_alloc]; rw [if_neg (by omega), if_pos trivial]) 0).trans rfl
  have hq : ∀ W : World, ((W.alloc (.cells #[.pointer q] 61)).cell? ⟨W.heap.size, 0, none⟩) = some (.pointer q) := fun W => (blk_cell (h := by simp only [heap_alloc]; rw [if_pos trivial]) 0).trans rfl
  clear hB hN
  go_enter Try.func39, Try.ntmps39
  go_wp2_with (first | (go_at_call 52; refine HD.out.mono ?_; rintro r w' ⟨rfl, rfl⟩))
  go_ret
  exact ⟨rfl, below_alloc HB.out _⟩
set_option maxHeartbeats 4000000 in
theorem Text_nobody (q : Option Addr) (n : Int) (w : World) (hN : Nob w q) :
    Calls Try.prog 40 #[.pointer q, .int .i64 n] w fun r w' => r = .returned (.string ⟨#[]⟩) ∧ Below w.heap.size w w' := by
  have hmf : ∀ (fn : Fn) (first cap : Array Value) (w : World), (Instr.makeFunc fn first cap).run Try.prog w = .ok (.func fn first cap) w := fun _ _ _ _ => rfl
  have hB : Below w.heap.size w (((w.alloc (.cells #[.pointer q] 61)).alloc (.cells #[.int .i64 n] 3)).alloc (.cells #[.string ⟨#[]⟩] 9)) := below_alloc (below_alloc (below_alloc (Below.refl _ _) _) _) _
  have HD := Lib.hid (do_nobody q 56 #[.pointer (some ⟨w.heap.size, 0, none⟩), .pointer (some ⟨w.heap.size + 1, 0, none⟩), .pointer (some ⟨w.heap.size + 1 + 1, 0, none⟩)] _ (hN.below hB))
  have HB := Lib.hid hB
  have hc : ((((w.alloc (.cells #[.pointer q] 61)).alloc (.cells #[.int .i64 n] 3)).alloc (.cells #[.string ⟨#[]⟩] 9)).alloc (.cells #[.pointer q] 61)).cell? ⟨w.heap.size + 1 + 1, 0, none⟩ = some (.string ⟨#[]⟩) := (blk_cell (h := by simp only [heap_alloc, World.size_alloc]; rw [if_neg (by omega), if_pos trivial]) 0).trans rfl
  have hq : ∀ W : World, ((W.alloc (.cells #[.pointer q] 61)).cell? ⟨W.heap.size, 0, none⟩) = some (.pointer q) := fun W => (blk_cell (h := by simp only [heap_alloc]; rw [if_pos trivial]) 0).trans rfl
  clear hB hN
  go_enter Try.func40, Try.ntmps40
  go_wp2_with (first | (go_at_call 52; refine HD.out.mono ?_; rintro r w' ⟨rfl, rfl⟩))
  go_ret
  exact ⟨rfl, below_alloc HB.out _⟩
theorem Err_nobody (q : Option Addr) (w : World) (hN : Nob w q) :
    Calls Try.prog 41 #[.pointer q] w fun r w' => r = .returned (.int .i64 2) ∧ Below w.heap.size w w' := by
  have hnot : ∀ (x : Bool) (w : World), (Op.unary .not (.bool x)).run Try.prog w = .ok (.bool (!x)) w := fun _ _ => rfl
  rcases hN with rfl | ⟨g, rfl, hb⟩
  · have hE : ∀ W : World, (binOp .eql 61 (.pointer none) (.pointer none)).run Try.prog W = .ok (.bool true) W := fun W => by rfl
    go_enter Try.func41, Try.ntmps41
    go_wp2
    go_ret
    exact ⟨rfl, Below.refl _ _⟩
  · have hE : ∀ W : World, (binOp .eql 61 (.pointer (some ⟨g, 0, none⟩)) (.pointer none)).run Try.prog W = .ok (.bool false) W := fun W => by rfl
    have hc3 : w.cell? ⟨g, 3, none⟩ = some (.bool false) := (blk_cell hb 3).trans rfl
    clear hb
    go_enter Try.func41, Try.ntmps41
    go_wp2
    go_ret
    exact ⟨rfl, Below.refl _ _⟩
end Go.Proofs.Ytnbkbmhiajfbpaa.Rd
