/- word.Reader: what its calls do: Over, Take, Text, Skip, Left, Err, with the errors that end it. -/
import Derived.Test.YtnbkbmhiajfbpaaXRdx
import Derived.Defers
import Derived.Recover
import Derived.Tactics2
import Derived.WalkLawsBesides
import Derived.WalkSpells
import Derived.RegionTactic
import Derived.Laws.Pointers
import Derived.Laws.NewBlocks
import Derived.Outline
import Derived.Deep.RegionHeld3
import Derived.Deep.RegionWith
import Derived.Lib.Hide
namespace Go.Proofs.Ytnbkbmhiajfbpaa.Rd
open Go.RowKit Go.Proofs.Ytnbkbmhiajfbpaa.XRd Go.Proofs.YtnbkbmhiajfbpaaW.PrintWords Go.Proofs.YtnbkbmhiajfbpaaW.PrintLast
set_option linter.unusedVariables false
set_option linter.unusedSimpArgs false

/-- A reader in block g, made behind the world w0: its bytes, its place, its error. -/
def IsRd (w0 W : World) (g : Nat) (l : List Int) (p e : Int) : Prop :=
  (∃ A c, W.heap[g]? = some (.cells #[.slice A l.length c, .int .i64 p, .int .i64 e, .bool true] 78 (0, 0)) ∧ l.length ≤ c ∧ Kd.C (Kd.int .u8) w0 A l.length l) ∧ w0.heap.size ≤ g ∧ Below w0.heap.size w0 W

theorem IsRd.cells {w0 W : World} {g : Nat} {l : List Int} {p e : Int} (h : IsRd w0 W g l p e) : ∃ A c, (W.cell? ⟨g, 0, none⟩ = some (.slice A l.length c) ∧ W.cell? ⟨g, 1, none⟩ = some (.int .i64 p) ∧ W.cell? ⟨g, 2, none⟩ = some (.int .i64 e) ∧ W.cell? ⟨g, 3, none⟩ = some (.bool true)) ∧ l.length ≤ c ∧ Kd.C (Kd.int .u8) w0 A l.length l := by
  obtain ⟨⟨A, c, hb, hc, hC⟩, _, _⟩ := h
  exact ⟨A, c, ⟨(blk_cell hb 0).trans rfl, (blk_cell hb 1).trans rfl, (blk_cell hb 2).trans rfl, (blk_cell hb 3).trans rfl⟩, hc, hC⟩
theorem IsRd.free {w0 W : World} {g : Nat} {l : List Int} {p e : Int} (h : IsRd w0 W g l p e) (i : Nat) : W.frozen? ⟨g, i, none⟩ = false := by
  obtain ⟨⟨A, c, hb, _, _⟩, _, _⟩ := h
  exact blk_frozen hb i
theorem IsRd.lt {w0 W : World} {g : Nat} {l : List Int} {p e : Int} (h : IsRd w0 W g l p e) : g < W.heap.size := by
  obtain ⟨⟨A, c, hb, _, _⟩, _, _⟩ := h
  exact blk_lt hb
theorem IsRd.below {w0 W W1 : World} {g : Nat} {l : List Int} {p e : Int} (h : IsRd w0 W g l p e) (hw : Below W.heap.size W W1) : IsRd w0 W1 g l p e := by
  obtain ⟨⟨A, c, hb, h1, h2⟩, h3, h4⟩ := h
  exact ⟨⟨A, c, blk_grown hb (grown_of_below hw none) (by simp), h1, h2⟩, h3, below_step h4 hw⟩
theorem IsRd.set1 {w0 W : World} {g : Nat} {l : List Int} {p e : Int} (h : IsRd w0 W g l p e) (x : Int) : IsRd w0 (W.setCell ⟨g, 1, none⟩ (.int .i64 x)) g l x e := by
  obtain ⟨⟨A, c, hb, h1, h2⟩, h3, h4⟩ := h
  exact ⟨⟨A, c, by simpa using blk_set hb 1 (.int .i64 x), h1, h2⟩, h3, h4.setCell (p := ⟨g, 1, none⟩) h3 _⟩
theorem IsRd.set2 {w0 W : World} {g : Nat} {l : List Int} {p e : Int} (h : IsRd w0 W g l p e) (x : Int) : IsRd w0 (W.setCell ⟨g, 2, none⟩ (.int .i64 x)) g l p x := by
  obtain ⟨⟨A, c, hb, h1, h2⟩, h3, h4⟩ := h
  exact ⟨⟨A, c, by simpa using blk_set hb 2 (.int .i64 x), h1, h2⟩, h3, h4.setCell (p := ⟨g, 2, none⟩) h3 _⟩

theorem infou8 : (Try.prog.info? 5).map (fun i => (i.zero, i.size, i.bytes)) = some (some (.int .u8 0), 1, 1) := by kernel_rfl

/-- (*Reader).next gives up: an argument that can't be. -/
theorem next_arg (g : Nat) (n : Int) (may : Bool) (w : World) (h : n < 0 ∨ may = false) :
    Calls Try.prog 55 #[.pointer (some ⟨g, 0, none⟩), .int .i64 n, .bool may] w fun e w' => e = .panicked [{ v := .iface 28 (.int .i64 1), recovered := false }] ∧ w' = w := by
  have hnot : ∀ (x : Bool) (w : World), (Op.unary .not (.bool x)).run Try.prog w = .ok (.bool (!x)) w := fun _ _ => rfl
  by_cases hn : n < 0
  · go_enter Try.func55, Try.ntmps55
    go_wp2
    exact ⟨rfl, rfl, rfl⟩
  · obtain rfl : may = false := by rcases h with h | h; exact absurd h hn; exact h
    go_enter Try.func55, Try.ntmps55
    go_wp2
    exact ⟨rfl, rfl, rfl⟩

/-- It gives up: so many bytes are not left. -/
theorem next_past (w0 : World) (g : Nat) (l : List Int) (p e n : Int) (w : World) (hI : IsRd w0 w g l p e) (hn : 0 ≤ n) (hp : 0 ≤ p) (hl : l.length ≤ 140737488355328) (hp2 : p ≤ l.length) (h : (l.length : Int) - p < n) :
    Calls Try.prog 55 #[.pointer (some ⟨g, 0, none⟩), .int .i64 n, .bool true] w fun e w' => e = .panicked [{ v := .iface 28 (.int .i64 10), recovered := false }] ∧ ∃ m, w' = w.drewN m := by
  obtain ⟨A, c, ⟨hc0, hc1, _, _⟩, hc, hC⟩ := hI.cells
  have HC := Aside0.mk hC
  clear hC
  have hnb : decide (n < 0) = false := decide_eq_false (by omega)
  go_enter Try.func55, Try.ntmps55
  go_wp2
  go_quiet (fail)
  go_wp2
  exact ⟨rfl, rfl, _, rfl⟩

/-- The next so many bytes. -/
theorem next_ok (w0 : World) (g : Nat) (l : List Int) (p e n : Int) (w : World) (hI : IsRd w0 w g l p e) (hn : 0 ≤ n) (hp : 0 ≤ p) (hl : l.length ≤ 140737488355328) (h : p + n ≤ l.length) :
    Calls Try.prog 55 #[.pointer (some ⟨g, 0, none⟩), .int .i64 n, .bool true] w fun r w' => ∃ A c, r = .returned (.slice A ((l.take (p + n).toNat).drop p.toNat).length c) ∧
      ((l.take (p + n).toNat).drop p.toNat).length ≤ c ∧ Kd.C (Kd.int .u8) w0 A ((l.take (p + n).toNat).drop p.toNat).length ((l.take (p + n).toNat).drop p.toNat) ∧ IsRd w0 w' g l (p + n) e ∧ KeepBut w w' g none := by
  obtain ⟨A, c, ⟨hc0, hc1, _, _⟩, hc, hC⟩ := hI.cells
  have hf := hI.free 1
  have HC := Aside0.mk hC
  have HI := Aside0.mk hI
  clear hC hI
  have hnb : decide (n < 0) = false := decide_eq_false (by omega)
  go_enter Try.func55, Try.ntmps55
  go_wp2
  go_quiet (fail)
  go_wp2
  have hI2 : IsRd w0 ((w.drewN nq).setCell ⟨g, 1, none⟩ (.int .i64 (p + n))) g l (p + n) e := IsRd.set1 (HI.out.below (pw_below_drewN (Below.refl _ _) nq)) _
  have hK2 : KeepBut w ((w.drewN nq).setCell ⟨g, 1, none⟩ (.int .i64 (p + n))) g none := (KeepBut.of_below (pw_below_drewN (Below.refl _ _) nq) g none).set_ 1 _
  generalize (w.drewN nq).setCell ⟨g, 1, none⟩ (.int .i64 (p + n)) = W at *
  clear hc0 hc1 HC hc
  obtain ⟨A2, c2, ⟨hd0, hd1, _, _⟩, hc2, hC2⟩ := hI2.cells
  obtain ⟨i0, hi0, hsz⟩ : ∃ i, Try.prog.info? 5 = some i ∧ i.size = 1 := by
    obtain ⟨i0, hi0, hz⟩ := Option.map_eq_some_iff.1 infou8
    simp only [Prod.mk.injEq] at hz
    exact ⟨i0, hi0, hz.2.1⟩
  obtain ⟨A', hcut, hA, hcl⟩ := print_mid_of (P := Try.prog) (Value.int .u8) 0 22 5 .i64 .i64 Try.underlying22 hi0 hsz A2 c2 l p (p + n) hp (by omega) h hc2
  have HA := Aside0.mk (Kd.C_of_reads (h1 := fun _ => rfl) (hA _ (Kd.reads_of_C hC2)))
  have HCL := Aside0.mk hcl
  have HI2 := Aside0.mk hI2
  have HK2 := Aside0.mk hK2
  have hpn : p + n - n = p := by omega
  clear hA hcl hI2 hK2 hC2
  go_quiet (fail)
  go_wp2
  go_ret
  have hln : ((l.take (p + n).toNat).drop p.toNat).length = (p + n).toNat - p.toNat := by simp; omega
  exact ⟨A', c2 - p.toNat, by rw [hln]; rfl, HCL.out, HA.out, HI2.out.below (pw_below_drewN (Below.refl _ _) _), HK2.out.trans (KeepBut.of_below (pw_below_drewN (Below.refl _ _) _) g none) (.inl rfl)⟩

/-- The function that (*Reader).do defers, where a reading gave up: the reader keeps the error. -/
theorem catch_told (b g : Nat) (x : Int) (older : List PanicEntry) (v2 : Value) (w : World) (hb : w.cell? ⟨b, 0, none⟩ = some (.pointer (some ⟨g, 0, none⟩))) (hc : w.cell? ⟨g, 2, none⟩ = some v2) (hz : w.frozen? ⟨g, 2, none⟩ = false) :
    CallsD Try.prog 59 #[.pointer (some ⟨b, 0, none⟩)] (.panicking ({ v := .iface 28 (.int .i64 x), recovered := false } :: older)) w fun e u' w' =>
      e = .returned (.tuple #[]) ∧ u' = .panicking ({ v := .iface 28 (.int .i64 x), recovered := true } :: older) ∧ w' = w.setCell ⟨g, 2, none⟩ (.int .i64 x) := by
  refine callsD_of_wpS Try.func59 rfl fun c₀ cs hu => ?_
  apply wpS_seq
  apply wpS_region
  simp [wpOpsS, go_sem, recoverD, hu, Try.ntmps59, Exit.thenS]
  simp only [Array.replicate_succ, Array.replicate_zero, List.push_toArray, List.append_toArray, List.nil_append, List.cons_append, List.setIfInBounds_toArray, List.set_cons_zero, List.set_cons_succ]
  refine wpS_of_wp ?_
  have hta : ∀ W : World, (Instr.typeAssert (.iface 28 (.int .i64 x)) 20 28 true).run Try.prog W = .ok (.tuple #[.int .i64 x, .bool true]) W := fun W => by rfl
  clear hu
  go_wp2
  simp [bodyPostS, results, Try.results59]

/-- The same where nothing happened. -/
theorem catch_idle (b : Nat) (w : World) :
    CallsD Try.prog 59 #[.pointer (some ⟨b, 0, none⟩)] .returning w fun e u' w' => e = .returned (.tuple #[]) ∧ u' = .returning ∧ w' = w := by
  refine callsD_of_wpS Try.func59 rfl fun c₀ cs hu => ?_
  apply wpS_seq
  apply wpS_region
  simp [wpOpsS, go_sem, recoverD, hu, Try.ntmps59, Exit.thenS]
  simp only [Array.replicate_succ, Array.replicate_zero, List.push_toArray, List.append_toArray, List.nil_append, List.cons_append, List.setIfInBounds_toArray, List.set_cons_zero, List.set_cons_succ]
  refine wpS_of_wp ?_
  have hta : ∀ W : World, (Instr.typeAssert .nilIface 20 28 true).run Try.prog W = .ok (.tuple #[.int .i64 0, .bool false]) W := fun W => by rfl
  have hne : ∀ W : World, (binOp .neq 20 .nilIface .nilIface).run Try.prog W = .ok (.bool false) W := fun W => by rfl
  go_wp2
  cases c₀
  simp_all [bodyPostS, results, Try.results59]

/-- (*Reader).do, where the reader has no error yet: the reading is done; what it gives up with is kept. -/
theorem do_run (w0 : World) (g : Nat) (l : List Int) (p : Int) (read : FuncId) (cap : Array Value) (w : World) (R : Ending → World → Prop) (Post : World → Prop) (hI : IsRd w0 w g l p 0)
    (hcf : ∀ W : World, (callFunc read cap).run Try.prog W = .ok (.enter read cap) W)
    (hr : Calls Try.prog read cap (w.alloc (.cells #[.pointer (some ⟨g, 0, none⟩)] 61)) R)
    (hR : ∀ r W', R r W' → (∃ v, r = .returned v ∧ Post W') ∨ (∃ x v2, r = .panicked [{ v := .iface 28 (.int .i64 x), recovered := false }] ∧ W'.cell? ⟨w.heap.size, 0, none⟩ = some (.pointer (some ⟨g, 0, none⟩)) ∧ W'.cell? ⟨g, 2, none⟩ = some v2 ∧ W'.frozen? ⟨g, 2, none⟩ = false ∧ Post (W'.setCell ⟨g, 2, none⟩ (.int .i64 x)))) :
    Calls Try.prog 52 #[.pointer (some ⟨g, 0, none⟩), .func (.func read) #[] cap] w fun e w' => e = .returned (.tuple #[]) ∧ Post w' := by
  obtain ⟨A, c, ⟨_, _, hd2, hd3⟩, _, _⟩ := (hI.below (below_alloc (Below.refl w.heap.size w) (.cells #[.pointer (some ⟨g, 0, none⟩)] 61))).cells
  have HR := Lib.hid hR
  have HC := Lib.hid hr
  clear hI hR hr
  have hmf : ∀ (fn : Fn) (first cap : Array Value) (w : World), (Instr.makeFunc fn first cap).run Try.prog w = .ok (.func fn first cap) w := fun _ _ _ _ => rfl
  have hnot : ∀ (x : Bool) (w : World), (Op.unary .not (.bool x)).run Try.prog w = .ok (.bool (!x)) w := fun _ _ => rfl
  go_enter_defers Try.func52, Try.ntmps52
  go_wp2_with (fail)
  refine HC.out.mono ?_
  intro r W' hRW
  rcases HR.out r W' hRW with ⟨v, rfl, hP⟩ | ⟨x, v2, rfl, h1, h2, h3, hP⟩
  · go_wp2_with (fail)
    refine leaves_cons (f := 59) (args := #[.pointer (some ⟨w.heap.size, 0, none⟩)]) (by simp) (by simp [go_sem]) ?_
    refine (catch_idle w.heap.size _).mono ?_
    rintro e u' w'' ⟨rfl, rfl, rfl⟩
    simp [Leaves, settle, results, Try.results52, go_sem]
    exact hP
  · go_wp2_with (fail)
    refine leaves_cons (f := 59) (args := #[.pointer (some ⟨w.heap.size, 0, none⟩)]) (by simp) (by simp [go_sem]) ?_
    refine (catch_told w.heap.size g x [] v2 _ h1 h2 h3).mono ?_
    rintro e u' w'' ⟨rfl, rfl, rfl⟩
    simp [Leaves, settle, results, Try.results52, go_sem]
    exact hP
/-- It has an error: nothing is done. -/
theorem do_stop (w0 : World) (g : Nat) (l : List Int) (p e : Int) (read : FuncId) (cap : Array Value) (w : World) (hI : IsRd w0 w g l p e) (he : e ≠ 0) :
    Calls Try.prog 52 #[.pointer (some ⟨g, 0, none⟩), .func (.func read) #[] cap] w fun r w' => r = .returned (.tuple #[]) ∧ w' = w.alloc (.cells #[.pointer (some ⟨g, 0, none⟩)] 61) := by
  obtain ⟨A, c, ⟨_, _, hd2, hd3⟩, _, _⟩ := (hI.below (below_alloc (Below.refl w.heap.size w) (.cells #[.pointer (some ⟨g, 0, none⟩)] 61))).cells
  clear hI
  have heb : (e != 0) = true := by simpa using he
  have hnot : ∀ (x : Bool) (w : World), (Op.unary .not (.bool x)).run Try.prog w = .ok (.bool (!x)) w := fun _ _ => rfl
  go_enter_defers Try.func52, Try.ntmps52
  go_wp2_with (fail)
  simp [bodyPostD, Leaves, settle, results, Try.results52, go_sem]

theorem KeepBut.cell_ {w w1 : World} {g : Nat} {row : Option Nat} (h : KeepBut w w1 g row) {b o : Nat} {v : Value} (hc : w.cell? ⟨b, o, none⟩ = some v) (hg : b ≠ g) (hr : some b ≠ row) : w1.cell? ⟨b, o, none⟩ = some v := by
  have hlt := World.block_lt_of_cell? w ⟨b, o, none⟩ hc
  have := h.2 b hlt hg hr
  simpa [World.cell?, this] using hc

theorem KeepBut.free_ {w w1 : World} {g : Nat} {row : Option Nat} (h : KeepBut w w1 g row) {b o : Nat} {v : Value} (hc : w.cell? ⟨b, o, none⟩ = some v) (hz : w.frozen? ⟨b, o, none⟩ = false) (hg : b ≠ g) (hr : some b ≠ row) : w1.frozen? ⟨b, o, none⟩ = false := by
  have hlt := World.block_lt_of_cell? w ⟨b, o, none⟩ hc
  have := h.2 b hlt hg hr
  simpa [World.frozen?, this] using hz

/-- An end by panic inside of a region that draws: the region's walk is given an empty region to end with. -/
theorem ended {G : Prop} (h : G) (d : wpAny Try.prog Region.Mode.any #[] (fun _ _ _ => True) 0 #[] { tmps := #[], defers := [] } default) : G := h

end Go.Proofs.Ytnbkbmhiajfbpaa.Rd
