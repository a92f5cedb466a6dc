/- A row of bytes that came in full and marked, or is the call's own: what a callee that appends may be handed. -/
import Derived.Test.YtdaeanodgnmknaaDec
import Derived.ArgAppend
import Derived.Test.YtdaeanodgnmknaaWZeros
namespace Go.Proofs.Ytdaeanodgnmknaa.Rd
open Go.RowKit Go.Proofs.YtdaeanodgnmknaaW.PrintWords Go.Proofs.YtdaeanodgnmknaaW.PrintLast Go.Proofs.YtdaeanodgnmknaaW.PrintMore
theorem Skip_blk (w0 : World) (g : Nat) (l : List Int) (p n : Int) (w : World) (b : Nat) (o : Obj) (hI : IsRd w0 w g l p 0) (hl : l.length ≤ 140737488351232) (hp : 0 ≤ p) (hn : 0 ≤ n) (h : p + n ≤ l.length) (hb : w.heap[b]? = some o) (hne : b ≠ g) :
    Calls Try.prog 55 #[.pointer (some ⟨g, 0, none⟩), .int .i64 n] w fun q w' => q = .returned (.tuple #[]) ∧ IsRd w0 w' g l (p + n) 0 ∧ w'.heap[b]? = some o := by
  refine (Skip_ok w0 g l p n w hI hl hp hn h).mono ?_
  rintro q w' ⟨h1, h2, h3⟩
  exact ⟨h1, h2, (h3.2 b (blk_lt hb) hne (by simp)).trans hb⟩
end Go.Proofs.Ytdaeanodgnmknaa.Rd
namespace Go.Proofs.Ytdaeanodgnmknaa.Rw
open Go.RowKit Go.Proofs.Ytdaeanodgnmknaa.Rd Go.Proofs.YtdaeanodgnmknaaW.PrintWords Go.Proofs.YtdaeanodgnmknaaW.PrintLast Go.Proofs.YtdaeanodgnmknaaW.PrintMore
set_option linter.unusedVariables false
set_option linter.unusedSimpArgs false

def Came (e : TypeId) (W : World) (base : Nat) (ok : Nat → Prop) (v : Value) (xs : List Int) : Prop :=
  ∃ g, v = .slice (some ⟨g, 0, none⟩) xs.length xs.length ∧ 0 < xs.length ∧ base ≤ g ∧ ok g ∧ xs.length ≤ 1000 ∧ W.heap[g]? = some (.cells (xs.map (Value.int .u8)).toArray e (xs.length, xs.length + 1))
def RR (e : TypeId) (W : World) (base : Nat) (ok : Nat → Prop) (v : Value) (xs : List Int) : Prop := Kd.R (Kd.int .u8) e W base ok v xs ∨ Came e W base ok v xs
section
variable {e : TypeId} {w w1 : World} {base : Nat} {ok ok' : Nat → Prop} {v : Value} {xs : List Int}
theorem RR_mono (h : RR e w base ok v xs) (hok : ∀ k, ok k → ok' k) : RR e w base ok' v xs := by
  rcases h with h | ⟨g, h1, h2, h3, h4, h5, h6⟩
  · exact .inl (Kd.R_mono h hok)
  · exact .inr ⟨g, h1, h2, h3, hok _ h4, h5, h6⟩
theorem RR_below (h : RR e w base ok v xs) (hb : Below w.heap.size w w1) : RR e w1 base ok v xs := by
  rcases h with h | ⟨g, h1, h2, h3, h4, h5, h6⟩
  · exact .inl (Kd.R_below h hb)
  · exact .inr ⟨g, h1, h2, h3, h4, h5, blk_below h6 hb⟩
theorem RR_alloc (h : RR e w base ok v xs) (o : Obj) : RR e (w.alloc o) base ok v xs := RR_below h (below_alloc (Below.refl _ _) o)
theorem RR_drewN (h : RR e w base ok v xs) (m : Nat) : RR e (w.drewN m) base ok v xs := RR_below h (pw_below_drewN (Below.refl _ _) m)
theorem RR_drew (h : RR e w base ok v xs) : RR e w.drew base ok v xs := RR_below h (below_drew (Below.refl _ _))
theorem RR_far (h : RR e w base ok v xs) {p : Addr} (hok : ∀ k, ok k → k ≠ p.block) (u : Value) : RR e (w.setCell p u) base ok v xs := by
  rcases h with h | ⟨g, h1, h2, h3, h4, h5, h6⟩
  · exact .inl (Kd.R_far h hok u)
  · exact .inr ⟨g, h1, h2, h3, h4, h5, (Below.heap_setCell w p u g (hok g h4)).trans h6⟩
theorem RR_types (h : RR e w base ok v xs) {g t : Nat} {cells : Array Value} (hb : w.heap[g]? = some (.cells cells t (0, 0))) (ht : ∀ q, q ∈ e :: (Kd.int .u8).E → q ≠ t) : RR e w base (fun k => ok k ∧ k ≠ g) v xs := by
  rcases h with h | ⟨g', h1, h2, h3, h4, h5, h6⟩
  · exact .inl (Kd.R_types h hb ht)
  · refine .inr ⟨g', h1, h2, h3, ⟨h4, ?_⟩, h5, h6⟩
    rintro rfl
    rw [hb] at h6
    simp only [Option.some.injEq, Obj.cells.injEq] at h6
    exact ht e List.mem_cons_self h6.2.1.symm
theorem RR_own (h : RR e w base ok v xs) : ∀ k, v.ownBlock = some k → ok k := by
  rcases h with h | ⟨g, h1, h2, h3, h4, h5, h6⟩
  · exact h.1
  · intro k hk
    rw [h1] at hk
    have : g = k := by simpa [Value.ownBlock] using hk
    rw [← this]; exact h4
theorem RR_ne (h : RR e w base ok v xs) {g t : Nat} {cells : Array Value} (hb : w.heap[g]? = some (.cells cells t (0, 0))) (ht : ∀ q, q ∈ e :: (Kd.int .u8).E → q ≠ t) : some g ≠ v.ownBlock :=
  fun he => (RR_own (RR_types h hb ht) g he.symm).2 rfl
theorem RR_reads (h : RR e w base ok v xs) : ∃ A c, v = .slice A xs.length c ∧ xs.length ≤ c ∧ Kd.C (Kd.int .u8) w A xs.length xs := by
  rcases h with h | ⟨g, h1, h2, h3, h4, h5, h6⟩
  · exact Kd.R_reads h
  · refine ⟨_, _, h1, Nat.le_refl _, Kd.C_of_reads (d := (0 : Int)) (enc := Value.int .u8) (h1 := fun _ => rfl) ⟨rfl, by omega, fun _ => ⟨_, rfl, fun j hj => ?_⟩⟩⟩
    rw [add_plain, cell_of_row w g j _ e _ h6]
    simp [hj]
end
section
variable {P : Program} {ops : Array Oper} {rest : List Oper} {o : Oper} {a : Act} {Q : Exit → Act → World → Prop}
theorem RR_append {w0 W : World} (base : Nat) (hgd : o.guard = none) (s x : Operand) (t e : TypeId) (z : Value) (bytes : Nat)
    (ho : o.op = .call { callee := .builtin .append, args := #[s, x], argTypes := #[t, t] })
    (ht : P.underlying t = some (.slice e)) (hinfo : (P.info? e).map (fun i => (i.zero, i.size, i.bytes)) = some (some z, 1, bytes)) (hz : z.cells.size = 1) (hs0 : 0 < 1) (hb0 : 0 < bytes)
    (v : Value) (xs : List Int) (p : Int) (cs : List Value) (ok okp : Nat → Prop) (hs : a.eval s = v) (hx : a.eval x = .slice (some ⟨W.heap.size, 0, none⟩) 1 1) (hp : (Kd.int .u8).M W base okp p cs) (hokp : ∀ k, okp k → ok k ∧ some k ≠ v.ownBlock) (hfresh : ∀ k, W.heap.size ≤ k → ok k)
    (HO : RR e W base ok v xs) (HB : Below base w0 W) (hbase : base ≤ W.heap.size) (hl : (xs.length + 1) * bytes ≤ 140737488355328)
    (h : ∀ v1 w1, RR e w1 base ok v1 (xs ++ [p]) → Below base w0 w1 → W.grownBy w1 v.ownBlock → (v1.ownBlock = v.ownBlock ∨ ∃ b, v1.ownBlock = some b ∧ W.heap.size ≤ b) → wpList P ops Q rest (a.put o.dst v1) w1) :
    wpList P ops Q (o :: rest) a (W.alloc (.cells cs.toArray e)) := by
  rcases HO with HO | ⟨g, h1, h2, h3, h4, h5, h6⟩
  · exact Kd.R_append (Kd.int .u8) base hgd s x t e z bytes ho ht hinfo hz hs0 hb0 v xs p cs ok okp hs hx hp hokp hfresh HO HB hbase hl (fun v1 w1 hr => h v1 w1 (.inl hr))
  · obtain ⟨i, hi, hi2⟩ := Option.map_eq_some_iff.1 hinfo
    simp only [Prod.mk.injEq] at hi2
    obtain rfl : cs = [Value.int .u8 p] := hp
    have hnew : (W.alloc (.cells [Value.int .u8 p].toArray e)).heap[W.heap.size]? = some (.cells [Value.int .u8 p].toArray e (0, 0)) := blk_new W _
    have hold := blk_alloc h6 (.cells [Value.int .u8 p].toArray e)
    refine wpList_append_grows (W.alloc (.cells [Value.int .u8 p].toArray e)) hgd s x t ho e i z 1 bytes ht hi hi2.1 hi2.2.1 hi2.2.2 hz (by omega) (some ⟨g, 0, none⟩) xs.length xs.length (xs.map (Value.int .u8)) (hs.trans h1) (fun e => by cases e) (by simp) ?_ ⟨W.heap.size, 0, none⟩ 1 1 [Value.int .u8 p] hx rfl ?_ ?_ (by omega) (by simp only [maxLen]; omega) hl ?_
    · intro b hb j u hj
      obtain rfl := Option.some.inj hb
      rw [add_plain, cell_of_row _ g j _ e _ hold]
      simpa using hj
    · intro j u hj
      rw [add_plain, blk_cell hnew j]
      simpa using hj
    · intro u hu
      rw [List.mem_singleton.1 hu]; rfl
    · intro v' w' hown hg
      have hWW : Below W.heap.size W w' := below_step (below_alloc (Below.refl _ _) _) (by
        have := hg
        exact ⟨this.os, this.tape, this.output, this.size, fun i hi => this.block i hi (by simp)⟩)
      rcases hown with ⟨hlen, ⟨_, h0⟩ | ⟨g', cap, cur, k1, k2, k3, k4, k5, k6, k7⟩⟩
      · omega
      · rw [World.size_alloc] at k2
        have hl2 : (xs ++ [p]).length = xs.length + 1 := by simp
        have hxs : (encs (Value.int .u8) (xs ++ [p])) = xs.map (Value.int .u8) ++ [Value.int .u8 p] := by simp [encs]
        refine h v' w' (.inl (Kd.R_of_own (by rw [hl2]; exact ⟨by simp [encs], .inr ⟨g', cap, cur, k1, by omega, k3, k4, k5, k6, by rw [hxs]; exact k7⟩⟩) (fun k hk => ?_))) (below_then HB hbase hWW) (grown_of_below hWW _) (.inr ⟨g', by rw [k1]; rfl, by omega⟩)
        rw [k1] at hk
        have : g' = k := by simpa [Value.ownBlock] using hk
        exact hfresh k (by omega)
/-- Noughts behind a row that is full: a new row, whatever the old one's marks. -/
theorem run_zeros_full (w : World) (base : Nat) (t ti ty e : TypeId) (i : TypeInfo) (z : Value) (bytes : Nat) (ht : P.underlying t = some (.slice e)) {k : IntKind} (hti : P.underlying ti = some (.int k)) (hi : P.info? e = some i) (hz : i.zero = some z)
    (hsize : i.size = 1) (hby : i.bytes = bytes) (hzs : z.cells.size = 1) (hb0 : 0 < bytes)
    (g n : Nat) (xs : List Value) (hxl : xs.length = n) (holds : ∀ j u, xs[j]? = some u → w.cell? ((⟨g, 0, none⟩ : Addr).add j) = some u) (kx : IntKind) (m : Nat) (hm1 : 0 < m)
    (hbytes : (n + m) * bytes ≤ 140737488355328) (hbase : base ≤ w.heap.size) :
    ∃ v' w', (Builtin.append_ #[t, ti] ty #[.slice (some ⟨g, 0, none⟩) n n, .int kx m]).run P w = .ok v' w' ∧ w'.ownsRow base e 1 v' (n + m) (xs ++ (Builtin.zeroCells z.cells m).toList) ∧ w.grownBy w' none ∧ v'.ownBlock = some w.heap.size := by
  subst hby
  have hle : n + m ≤ 140737488355328 := Nat.le_trans (Nat.le_mul_of_pos_right _ hb0) hbytes
  have h63 : n + m ≤ maxLen := by simp only [maxLen]; omega
  have hw : IntKind.i64.wrap (m : Int) = m := by rw [IntKind.wrap_i64]; omega
  have hneg : ¬ ((m : Int) < 0) := by omega
  have hmb : m * i.bytes ≤ 140737488355328 := Nat.le_trans (Nat.mul_le_mul_right _ (Nat.le_add_left m n)) hbytes
  have hbig : ¬ (281474976710656 < (m : Int) * (i.bytes : Int)) := by
    rw [← Int.natCast_mul]
    omega
  obtain ⟨news, hnews⟩ : ∃ news, news = (Builtin.zeroCells z.cells m).toList := ⟨_, rfl⟩
  rw [← hnews]
  have hl : news.length = m * 1 := by rw [hnews, Array.length_toList, size_zeroCells, hzs]
  have hna : Builtin.zeroCells z.cells m = news.toArray := by rw [hnews]
  have hlen : (xs ++ news).length = (n + m) * 1 := by rw [List.length_append, hxl, hl]; omega
  have hge := grownCap_ge w (n + m) n e
  have hcm : grownCap w (n + m) n e ≤ maxLen := grownCap_le_maxLen w (n + m) n e h63
  have hn : ¬ (n + m ≤ n) := by omega
  have h63' : ¬ (9223372036854775807 < ((n : Int) + (m : Int))) := by omega
  have hfit := growslice_fits (show n < n + m by omega) hbytes
  have h48' : ¬ (281474976710656 < Builtin.nextslicecap (n + m) n * i.bytes) := by omega
  have hfo := run_firstCells_some (P := P) w.drew 1 n _ n n xs (by omega) (by simpa using holds)
  have hmz : ¬ (m = 0) := by omega
  refine ⟨.slice (some ⟨w.heap.size, 0, none⟩) (n + m) (grownCap w (n + m) n e), w.drew.alloc (.cells (xs.toArray ++ news.toArray ++ Builtin.zeroCells z.cells (grownCap w (n + m) n e - (n + m))) e), ?_, ⟨hlen, .inr ⟨w.heap.size, _, _, rfl, hbase, heap_alloc_new w.drew _, hge, hcm, ?_, ?_⟩⟩, ⟨rfl, rfl, rfl, by simp, fun k hk _ => heap_alloc_old w.drew _ hk⟩, rfl⟩
  · simp [Builtin.append_, run_underlying ht, run_underlying hti, sizeOf, typeInfo, zeroValue, hi, hz, hsize, asInt, asIntOf, hw, hneg, hbig, hn, h63', h48', Question.forced, hfo, newRow, grownCap, hmz, hna]
    congr 2
    apply Array.ext'
    simp [List.append_assoc]
  · simp only [Array.size_append, List.size_toArray, size_zeroCells, hzs, hxl, hl]
    omega
  · simp only [Array.toList_append, List.append_assoc]
    rw [← List.append_assoc, ← hlen]
    exact List.take_left
theorem came_append_zeros {ops : Array Oper} {rest : List Oper} {o : Oper} {a : Act} {Q : Exit → Act → World → Prop} {w0 W : World} (base : Nat) (ok : Nat → Prop) (hgd : o.guard = none) (s x : Operand) (t ti e : TypeId) (bytes : Nat)
    (ho : o.op = .call { callee := .builtin .append, args := #[s, x], argTypes := #[t, ti] })
    (ht : P.underlying t = some (.slice e)) {k : IntKind} (hti : P.underlying ti = some (.int k)) (hinfo : (P.info? e).map (fun i => (i.zero, i.size, i.bytes)) = some (some (.int .u8 0), 1, bytes)) (hb0 : 0 < bytes)
    (v : Value) (xs : List Int) {kx : IntKind} (m : Nat) (hs : a.eval s = v) (hx : a.eval x = .int kx m) (hm1 : 0 < m) (HO : Came e W base ok v xs) (HB : Below base w0 W) (hbase : base ≤ W.heap.size) (hl : (xs.length + m) * bytes ≤ 140737488355328)
    (h : ∀ v1 w1, Kd.R (Kd.int .u8) e w1 base (fun _ => True) v1 (xs ++ List.replicate m 0) → Below W.heap.size W w1 → Below base w0 w1 → wpList P ops Q rest (a.put o.dst v1) w1) :
    wpList P ops Q (o :: rest) a W := by
  obtain ⟨g, h1, h2, h3, h4, h5, h6⟩ := HO
  obtain ⟨i, hi, hi2⟩ := Option.map_eq_some_iff.1 hinfo
  simp only [Prod.mk.injEq] at hi2
  obtain ⟨v1, w1, hr1, hown, hg, hat⟩ := run_zeros_full (P := P) W base t ti o.type e i (.int .u8 0) bytes ht hti hi hi2.1 hi2.2.1 hi2.2.2 rfl hb0 g xs.length (xs.map (Value.int .u8)) (by simp) (fun j u hj => by
    rw [add_plain, cell_of_row W g j _ e _ h6]
    simpa using hj) kx m hm1 hl hbase
  have hz : (Builtin.zeroCells (Value.cells (.int .u8 0)) m).toList = (List.replicate m (0 : Int)).map (Value.int .u8) := by
    apply List.ext_getElem
    · simp [size_zeroCells, Value.cells]
    · intro i h1 h2
      simp [Builtin.zeroCells, Value.cells, Nat.mod_one]
  have hWW : Below W.heap.size W w1 := ⟨hg.os, hg.tape, hg.output, hg.size, fun i hi => hg.block i hi (by simp)⟩
  refine wpList_plain hgd fun K hK => ?_
  unfold Oper.wp execOp
  simp only [ho, resolve, invoke, builtin, Sem.run_bind, Sem.run_pure, Result.andThen_ok, List.map_toArray, List.map_cons, List.map_nil, hs, hx, h1, hr1]
  refine hK _ _ (h v1 w1 (Kd.R_of_own ?_ (fun _ _ => trivial)) hWW (below_then HB hbase hWW))
  rw [hz] at hown
  simpa [encs] using hown
end
end Go.Proofs.Ytdaeanodgnmknaa.Rw
