/- The reference's reader, call by call. -/
import Derived.Test.YtjageihjjmfhgaaRdp
import Derived.Test.YtjageihjjmfhgaaXRrx
namespace Go.Proofs.Ytjageihjjmfhgaa.Rd
open Go.RowKit Go.Proofs.Ytjageihjjmfhgaa.XRd Go.Proofs.Ytjageihjjmfhgaa.XRr Go.Proofs.YtjageihjjmfhgaaW.PrintWords Go.Proofs.YtjageihjjmfhgaaW.PrintLast
set_option linter.unusedVariables false
set_option linter.unusedSimpArgs false

theorem rget_l (l : List Int) (h : ∀ x ∈ l, (Lit.int .u8 x).wf = true) (hl : l.length ≤ 140737488351232) (a : Nat) (j : Nat) :
    ∀ (k : Nat) (acc : Int), j ≤ 4 → a + j ≤ l.length → j < k → 0 ≤ acc → acc < 256 ^ (4 - j) → bollardref01_Get.l0 k l (a : Int) acc ((j : Int) - 1) = some (acc * 256 ^ j + le ((l.drop a).take j), 0) := by
  induction j with
  | zero =>
    intro k acc _ _ hk h0 h1
    obtain ⟨k, rfl⟩ : ∃ m, k = m + 1 := ⟨k - 1, by omega⟩
    simp only [bollardref01_Get.l0]
    rw [if_neg (by omega)]
    simp [le]
  | succ j ih =>
    intro k acc hj haj hk h0 h1
    obtain ⟨k, rfl⟩ : ∃ m, k = m + 1 := ⟨k - 1, by omega⟩
    obtain ⟨p1, p0⟩ := pow_le4 (4 - (j + 1)) (by omega)
    have hq : (256 : Int) ^ (4 - j) = 256 ^ (4 - (j + 1)) * 256 := by rw [← Int.pow_succ]; congr 1; omega
    have hm : acc ≤ 4294967296 := Int.le_trans (Int.le_of_lt h1) p1
    have hlt : acc * 256 + 256 ≤ 256 ^ (4 - j) := by
      rw [hq]
      generalize (256 : Int) ^ (4 - (j + 1)) = p at *
      omega
    clear hq h1 p1 p0
    generalize (256 : Int) ^ (4 - j) = P at ih hlt
    obtain ⟨b0, b1⟩ := rd_u8 h ((a : Int) + (j : Int))
    rw [show (((j + 1 : Nat) : Int) - 1) = (j : Int) by omega]
    simp only [bollardref01_Get.l0]
    rw [if_pos (by omega), w_small ((a : Int) + (j : Int)) (by omega) (by omega), if_pos (by omega), if_pos (by omega), w_small (rd l ((a : Int) + (j : Int))) (by omega) (by omega), w_small ((j : Int) - 1) (by omega) (by omega), w_small (acc * 256) (by omega) (by omega), w_small (acc * 256 + rd l ((a : Int) + (j : Int))) (by omega) (by omega)]
    rw [ih k _ (by omega) (by omega) (by omega) (by omega) (by omega), take_snoc l a j (by omega), le_snoc]
    have hlen : ((l.drop a).take j).length = j := by simp; omega
    rw [hlen, Int.pow_succ, Int.add_mul, Int.mul_assoc, Int.mul_comm 256 (256 ^ j), Int.mul_comm (rd l _) (256 ^ j)]
    congr 2
    generalize acc * (256 ^ j * 256) = A
    generalize (256 : Int) ^ j * rd l ((a : Int) + (j : Int)) = B
    omega

theorem rget_f (l : List Int) (h : ∀ x ∈ l, (Lit.int .u8 x).wf = true) (hl : l.length ≤ 140737488351232) (a w : Int) (ha : (Lit.int .i64 a).wf = true) (hw : (Lit.int .i64 w).wf = true) (k : Nat) (hk : 7 ≤ k) :
    bollardref01_Get.f k l a w = some (getS l a w) := by
  have hb := i64_bd ha
  obtain ⟨k, rfl⟩ : ∃ m, k = m + 1 := ⟨k - 1, by omega⟩
  unfold bollardref01_Get.f getS
  simp only [bollardref01_Get.j0, if_true]
  by_cases h1 : w < 1
  · rw [if_pos h1, if_pos (.inl h1)]
  · rw [if_neg h1]
    by_cases h2 : w > 4
    · rw [if_pos h2, if_pos (.inr (.inl h2))]
    · rw [if_neg h2]
      by_cases h3 : a < 0
      · rw [decide_eq_true h3, if_pos rfl, if_pos (by omega)]
      · rw [decide_eq_false h3]
        simp only [Bool.false_eq_true, if_false]
        have e : wrap64 ((l.length : Int) - w) = (l.length : Int) - w := by unfold wrap64; omega
        have e' : wrap64 (w - 1) = w - 1 := by unfold wrap64; omega
        rw [e, e', if_neg (show ¬ (w < 1 ∨ 4 < w ∨ a < 0) by omega)]
        by_cases h4 : a > (l.length : Int) - w
        · rw [if_pos h4, if_pos (by omega)]
        · rw [if_neg h4, if_neg (by omega)]
          obtain ⟨a', rfl⟩ := Int.eq_ofNat_of_zero_le (show 0 ≤ a by omega)
          obtain ⟨w', rfl⟩ := Int.eq_ofNat_of_zero_le (show 0 ≤ w by omega)
          have hp := (pow_le4 (4 - w') (by omega)).2
          have := rget_l l h hl a' w' k 0 (by omega) (by omega) (by omega) (by omega) (Int.lt_of_lt_of_le (by decide) hp)
          simpa using this

/-! ### the reference's reader -/
/-- The reference's reader in block h: what is left, its error. -/
def IsRf (w0 W : World) (h : Nat) (l : List Int) (e : Int) : Prop :=
  (∃ A c, W.heap[h]? = some (.cells #[.slice A l.length c, .int .i64 e] 50 (0, 0)) ∧ l.length ≤ c ∧ Kd.C (Kd.int .u8) w0 A l.length l) ∧ w0.heap.size ≤ h ∧ Below w0.heap.size w0 W
theorem IsRf.cells {w0 W : World} {h : Nat} {l : List Int} {e : Int} (q : IsRf w0 W h l e) : ∃ A c, (W.cell? ⟨h, 0, none⟩ = some (.slice A l.length c) ∧ W.cell? ⟨h, 1, none⟩ = some (.int .i64 e)) ∧ l.length ≤ c ∧ Kd.C (Kd.int .u8) w0 A l.length l := by
  obtain ⟨⟨A, c, hb, hc, hC⟩, _, _⟩ := q
  exact ⟨A, c, ⟨(blk_cell hb 0).trans rfl, (blk_cell hb 1).trans rfl⟩, hc, hC⟩
theorem IsRf.free {w0 W : World} {h : Nat} {l : List Int} {e : Int} (q : IsRf w0 W h l e) (i : Nat) : W.frozen? ⟨h, i, none⟩ = false := by
  obtain ⟨⟨A, c, hb, _, _⟩, _, _⟩ := q
  exact blk_frozen hb i
theorem IsRf.lt {w0 W : World} {h : Nat} {l : List Int} {e : Int} (q : IsRf w0 W h l e) : h < W.heap.size := by
  obtain ⟨⟨A, c, hb, _, _⟩, _, _⟩ := q
  exact blk_lt hb
theorem IsRf.below {w0 W W1 : World} {h : Nat} {l : List Int} {e : Int} (q : IsRf w0 W h l e) (hw : Below W.heap.size W W1) : IsRf w0 W1 h l e := by
  obtain ⟨⟨A, c, hb, h1, h2⟩, h3, h4⟩ := q
  exact ⟨⟨A, c, blk_grown hb (grown_of_below hw none) (by simp), h1, h2⟩, h3, below_step h4 hw⟩
theorem IsRf.set1 {w0 W : World} {h : Nat} {l : List Int} {e : Int} (q : IsRf w0 W h l e) (x : Int) : IsRf w0 (W.setCell ⟨h, 1, none⟩ (.int .i64 x)) h l x := by
  obtain ⟨⟨A, c, hb, h1, h2⟩, h3, h4⟩ := q
  exact ⟨⟨A, c, by simpa using blk_set hb 1 (.int .i64 x), h1, h2⟩, h3, h4.setCell (p := ⟨h, 1, none⟩) h3 _⟩
theorem IsRf.set0 {w0 W : World} {h : Nat} {l l2 : List Int} {e : Int} (q : IsRf w0 W h l e) (A : Option Addr) (c : Nat) (hc : l2.length ≤ c) (hC : Kd.C (Kd.int .u8) w0 A l2.length l2) : IsRf w0 (W.setCell ⟨h, 0, none⟩ (.slice A l2.length c)) h l2 e := by
  obtain ⟨⟨A0, c0, hb, h1, h2⟩, h3, h4⟩ := q
  exact ⟨⟨A, c, by simpa using blk_set hb 0 (.slice A l2.length c), hc, hC⟩, h3, h4.setCell (p := ⟨h, 0, none⟩) h3 _⟩

/-- What a call of the reference's reader leaves: its own block alone is another. -/
structure Only (w w' : World) (h : Nat) : Prop where
  keep : KeepBut w w' h none
  bel : ∀ B, B ≤ h → Below B w w'
theorem Only.refl (w : World) (h : Nat) : Only w w h := ⟨KeepBut.refl _ _ _, fun B _ => Below.refl _ _⟩
theorem Only.set {w w' : World} {h : Nat} (q : Only w w' h) (j : Nat) (u : Value) : Only w (w'.setCell ⟨h, j, none⟩ u) h := ⟨q.keep.set_ j u, fun B hB => (q.bel B hB).setCell (p := ⟨h, j, none⟩) hB _⟩
theorem Only.drewN {w w' : World} {h : Nat} (q : Only w w' h) (n : Nat) : Only w (w'.drewN n) h := ⟨q.keep.trans (KeepBut.of_below (pw_below_drewN (Below.refl _ _) n) h none) (.inl rfl), fun B hB => pw_below_drewN (q.bel B hB) n⟩
theorem Only.trans {w w1 w2 : World} {h : Nat} (q : Only w w1 h) (r : Only w1 w2 h) : Only w w2 h := ⟨q.keep.trans r.keep (.inl rfl), fun B hB => (q.bel B hB).trans (r.bel B hB)⟩
theorem Only.rd {w w' : World} {h : Nat} (q : Only w w' h) {w0 : World} {g : Nat} {l : List Int} {p e : Int} (hI : IsRd w0 w g l p e) (hne : g ≠ h) (hs : w0.heap.size ≤ h) : IsRd w0 w' g l p e := by
  obtain ⟨⟨A, c, hb, h1, h2⟩, h3, h4⟩ := hI
  exact ⟨⟨A, c, q.keep.blk hb hne (by simp), h1, h2⟩, h3, h4.trans (q.bel _ hs)⟩
theorem IsRf.keep {w0 W W1 : World} {h g : Nat} {l : List Int} {e : Int} (q : IsRf w0 W h l e) (hk : KeepBut W W1 g none) (hne : h ≠ g) (hb : Below w0.heap.size w0 W1) : IsRf w0 W1 h l e := by
  obtain ⟨⟨A, c, h0, h1, h2⟩, h3, h4⟩ := q
  exact ⟨⟨A, c, hk.blk h0 hne (by simp), h1, h2⟩, h3, hb⟩

theorem fits_call (w0 : World) (h : Nat) (l : List Int) (e n : Int) (w : World) (hI : IsRf w0 w h l e) :
    Calls Try.prog 36 #[.pointer (some ⟨h, 0, none⟩), .int .i64 n] w fun q w' => q = .returned (.bool (texE l 0 e n == 0)) ∧ IsRf w0 w' h l (texE l 0 e n) ∧ Only w w' h := by
  obtain ⟨A, c, ⟨hc0, hc1⟩, hc, hC⟩ := hI.cells
  have hz := hI.free 1
  have HI := Lib.hid hI
  clear hI hC
  by_cases he : e = 0
  · subst he
    by_cases h1 : n < 0
    · have hE : texE l 0 0 n = 1 := by unfold texE; rw [if_neg (by decide), if_pos h1]
      rw [hE]
      clear hE
      go_enter Try.func36, Try.ntmps36
      go_wp2
      go_ret
      exact ⟨rfl, HI.out.set1 1, (Only.refl w h).set 1 _⟩
    · have hnb : decide (n < 0) = false := decide_eq_false h1
      by_cases h2 : (l.length : Int) < n
      · have hE : texE l 0 0 n = 10 := by unfold texE; rw [if_neg (by decide), if_neg h1, if_pos (by omega)]
        rw [hE]
        clear hE
        have hnl : decide ((l.length : Int) < n) = true := decide_eq_true h2
        go_enter Try.func36, Try.ntmps36
        go_wp2
        go_ret
        exact ⟨rfl, HI.out.set1 10, (Only.refl w h).set 1 _⟩
      · have hE : texE l 0 0 n = 0 := by unfold texE; rw [if_neg (by decide), if_neg h1, if_neg (by omega)]
        rw [hE]
        clear hE
        have hnl : decide ((l.length : Int) < n) = false := decide_eq_false h2
        go_enter Try.func36, Try.ntmps36
        go_wp2
        go_ret
        exact ⟨rfl, HI.out, Only.refl w h⟩
  · have hE : texE l 0 e n = e := by unfold texE; rw [if_pos he]
    rw [hE]
    clear hE
    have heb : (e != 0) = true := by simpa using he
    have heq : (e == 0) = false := by simpa using he
    go_enter Try.func36, Try.ntmps36
    go_wp2
    go_ret
    exact ⟨by rw [heq]; rfl, HI.out, Only.refl w h⟩

theorem rf_info : ∃ i, Try.prog.info? 5 = some i ∧ i.size = 1 := by
  obtain ⟨i0, hi0, hz⟩ := Option.map_eq_some_iff.1 infou8
  simp only [Prod.mk.injEq] at hz
  exact ⟨i0, hi0, hz.2.1⟩

theorem SkipR_call (w0 : World) (h : Nat) (l : List Int) (e n : Int) (w : World) (hI : IsRf w0 w h l e) :
    Calls Try.prog 29 #[.pointer (some ⟨h, 0, none⟩), .int .i64 n] w fun q w' => q = .returned (.tuple #[]) ∧ IsRf w0 w' h (if texE l 0 e n = 0 then l.drop n.toNat else l) (texE l 0 e n) ∧ Only w w' h := by
  have HF := Lib.hid (fits_call w0 h l e n w hI)
  clear hI
  by_cases hE : texE l 0 e n = 0
  · obtain ⟨he, hn, hl⟩ := texE_ok hE
    rw [hE] at HF ⊢
    rw [if_pos rfl]
    obtain ⟨i0, hi0, hsz⟩ := rf_info
    clear hE
    go_enter Try.func29, Try.ntmps29
    go_wp2_with (first | (go_at_call 36; refine HF.out.mono ?_; rintro q w1 ⟨rfl, hI, hO⟩; have HI := Lib.hid hI; have HO := Lib.hid hO; obtain ⟨A, c, ⟨hc0, hc1⟩, hc, hC⟩ := hI.cells; have hz := hI.free 0; obtain ⟨A', hcut, hA, hcl⟩ := print_drop_of (P := Try.prog) (Value.int .u8) 0 22 5 .i64 Try.underlying22 hi0 hsz A c l n hn (by omega) hc; have HA := Lib.hid (Kd.C_of_reads (h1 := fun _ => rfl) (hA _ (Kd.reads_of_C hC))); have HCL := Lib.hid hcl; clear hI hO hC hA hcl))
    go_end0
    exact ⟨rfl, by simpa only [List.length_drop] using HI.out.set0 A' (c - n.toNat) HCL.out HA.out, HO.out.set 0 _⟩
  · have hb : (texE l 0 e n == 0) = false := by simpa using hE
    rw [hb] at HF
    rw [if_neg hE]
    generalize texE l 0 e n = E at *
    go_enter Try.func29, Try.ntmps29
    go_wp2_with (first | (go_at_call 36; refine HF.out.mono ?_; rintro q w1 ⟨rfl, hI, hO⟩; have HI := Lib.hid hI; have HO := Lib.hid hO; clear hI hO))
    go_end0
    exact ⟨rfl, HI.out, HO.out⟩

theorem TextR_call (w0 : World) (h : Nat) (l : List Int) (e n : Int) (w : World) (hI : IsRf w0 w h l e) :
    Calls Try.prog 28 #[.pointer (some ⟨h, 0, none⟩), .int .i64 n] w fun q w' => q = .returned (.string (if texE l 0 e n = 0 then strOfNums (l.take n.toNat) else ⟨#[]⟩)) ∧ IsRf w0 w' h (if texE l 0 e n = 0 then l.drop n.toNat else l) (texE l 0 e n) ∧ Only w w' h := by
  have HF := Lib.hid (fits_call w0 h l e n w hI)
  clear hI
  have hnot : ∀ (x : Bool) (w : World), (Op.unary .not (.bool x)).run Try.prog w = .ok (.bool (!x)) w := fun _ _ => rfl
  by_cases hE : texE l 0 e n = 0
  · obtain ⟨he, hn, hl⟩ := texE_ok hE
    rw [hE] at HF ⊢
    rw [if_pos rfl, if_pos rfl]
    obtain ⟨i0, hi0, hsz⟩ := rf_info
    clear hE
    go_enter Try.func28, Try.ntmps28
    go_wp2_with (first | (go_at_call 36; refine HF.out.mono ?_; rintro q w1 ⟨rfl, hI, hO⟩; have HI := Lib.hid hI; have HO := Lib.hid hO; obtain ⟨A, c, ⟨hc0, hc1⟩, hc, hC⟩ := hI.cells; have hz := hI.free 0; obtain ⟨A', hcut, hA, hcl⟩ := print_drop_of (P := Try.prog) (Value.int .u8) 0 22 5 .i64 Try.underlying22 hi0 hsz A c l n hn (by omega) hc; have HA := Lib.hid (Kd.C_of_reads (h1 := fun _ => rfl) (hA _ (Kd.reads_of_C hC))); have HCL := Lib.hid hcl; have hln : (l.take n.toNat).length = n.toNat := (by rw [List.length_take]; omega); obtain ⟨htk, hTK, _⟩ := print_take_of (P := Try.prog) (Value.int .u8) 0 22 5 .i64 Try.underlying22 hi0 hsz A c l n hn (by omega) hc; have hcv := Kd.C_string (P := Try.prog) (c := c) Try.underlying22 Try.underlying5 Try.underlying9 (Kd.C_below (Kd.C_of_reads (h1 := fun _ => rfl) (hTK _ (Kd.reads_of_C hC))) hI.2.2); rw [hln] at hcv htk; clear hTK hln;  clear hI hO hA hcl hC))
    go_ret
    exact ⟨rfl, by simpa only [List.length_drop] using HI.out.set0 A' (c - n.toNat) HCL.out HA.out, HO.out.set 0 _⟩
  · have hb : (texE l 0 e n == 0) = false := by simpa using hE
    rw [hb] at HF
    rw [if_neg hE, if_neg hE]
    generalize texE l 0 e n = E at *
    go_enter Try.func28, Try.ntmps28
    go_wp2_with (first | (go_at_call 36; refine HF.out.mono ?_; rintro q w1 ⟨rfl, hI, hO⟩; have HI := Lib.hid hI; have HO := Lib.hid hO; clear hI hO))
    go_ret
    exact ⟨rfl, HI.out, HO.out⟩

theorem takE_tex {l : List Int} {e n : Int} (h1 : 1 ≤ n) (h2 : n ≤ 4) : takE l 0 e n = texE l 0 e n := by
  unfold takE texE
  by_cases he : e = 0
  · subst he
    rw [if_neg (show ¬ ((0 : Int) ≠ 0) by decide), if_neg (show ¬ (n < 1 ∨ 4 < n) by omega), if_neg (show ¬ ((0 : Int) ≠ 0) by decide), if_neg (show ¬ n < 0 by omega)]
  · rw [if_pos he, if_pos he]

theorem TakeR_call (w0 : World) (h : Nat) (l : List Int) (e n : Int) (w : World) (hI : IsRf w0 w h l e) (hl : l.length ≤ 140737488351232) (hwf : ∀ x ∈ l, (Lit.int .u8 x).wf = true) (hnw : (Lit.int .i64 n).wf = true) :
    Calls Try.prog 27 #[.pointer (some ⟨h, 0, none⟩), .int .i64 n] w fun q w' => q = .returned (.int .i64 (if takE l 0 e n = 0 then le (l.take n.toNat) else 0)) ∧ IsRf w0 w' h (if takE l 0 e n = 0 then l.drop n.toNat else l) (takE l 0 e n) ∧ Only w w' h := by
  have hnot : ∀ (x : Bool) (w : World), (Op.unary .not (.bool x)).run Try.prog w = .ok (.bool (!x)) w := fun _ _ => rfl
  have HI := Lib.hid hI
  obtain ⟨A0, c0, ⟨ha0, ha1⟩, _, _⟩ := hI.cells
  have hz1 := hI.free 1
  clear hI
  by_cases he : e = 0
  · subst he
    by_cases h1 : n < 1 ∨ 4 < n
    · have hE : takE l 0 0 n = 1 := by unfold takE; rw [if_neg (by decide), if_pos h1]
      have hT : texE l 0 1 n = 1 := by unfold texE; rw [if_pos (by decide)]
      rw [hE, if_neg (by decide), if_neg (by decide)]
      have HF := Lib.hid (fits_call w0 h l 1 n _ (HI.out.set1 1))
      rw [hT] at HF
      clear hE hT
      rcases h1 with h1 | h1
      · have b1 : decide (n < 1) = true := decide_eq_true h1
        go_enter Try.func27, Try.ntmps27
        go_wp2_with (first | (go_at_call 36; refine HF.out.mono ?_; rintro q w1 ⟨rfl, hI, hO⟩; have HI2 := Lib.hid hI; have HO := Lib.hid hO; clear hI hO))
        go_ret
        exact ⟨rfl, HI2.out, ((Only.refl w h).set 1 _).trans HO.out⟩
      · have b1 : decide (n < 1) = false := decide_eq_false (by omega)
        have b2 : decide (4 < n) = true := decide_eq_true h1
        go_enter Try.func27, Try.ntmps27
        go_wp2_with (first | (go_at_call 36; refine HF.out.mono ?_; rintro q w1 ⟨rfl, hI, hO⟩; have HI2 := Lib.hid hI; have HO := Lib.hid hO; clear hI hO))
        go_ret
        exact ⟨rfl, HI2.out, ((Only.refl w h).set 1 _).trans HO.out⟩
    · have b1 : decide (n < 1) = false := decide_eq_false (by omega)
      have b2 : decide (4 < n) = false := decide_eq_false (by omega)
      have HF := Lib.hid (fits_call w0 h l 0 n w HI.out)
      rw [takE_tex (by omega) (by omega)]
      by_cases hE : texE l 0 0 n = 0
      · obtain ⟨_, hn, hln⟩ := texE_ok hE
        rw [hE] at HF ⊢
        rw [if_pos rfl, if_pos rfl]
        have hG : bollardref01_Get.f 7 l 0 n = some (le (l.take n.toNat), 0) := by
          rw [rget_f l hwf hl 0 n (by decide) hnw 7 (by omega)]
          unfold getS
          rw [if_neg (by omega), if_neg (by omega)]
          rfl
        have HG := Lib.hid hG
        obtain ⟨i0, hi0, hsz⟩ := rf_info
        clear hE hG
        go_enter Try.func27, Try.ntmps27
        go_wp2_with (first | (go_at_call 36; refine HF.out.mono ?_; rintro q w1 ⟨rfl, hI, hO⟩; have HI2 := Lib.hid hI; have HO := Lib.hid hO; obtain ⟨A, c, ⟨hc0, hc1⟩, hc, hC⟩ := hI.cells; have hz := hI.free 0; obtain ⟨A', hcut, hA, hcl⟩ := print_drop_of (P := Try.prog) (Value.int .u8) 0 22 5 .i64 Try.underlying22 hi0 hsz A c l n hn (by omega) hc; have HA := Lib.hid (Kd.C_of_reads (h1 := fun _ => rfl) (hA _ (Kd.reads_of_C hC))); have HCL := Lib.hid hcl; have HC := Lib.hid hC; have HCC := Lib.hid hc; clear hI hO hC hA hcl hc) | (go_at_call 14; refine (bollardref01_Get.calls 7 _ _ _ _ _ _ _ _ (Kd.C_below HC.out HI2.out.2.2) HCC.out HG.out).mono ?_; rintro q w2 ⟨rfl, ⟨nd, rfl⟩⟩))
        go_ret
        exact ⟨rfl, by simpa only [List.length_drop] using (HI2.out.below (pw_below_drewN (Below.refl _ _) nd)).set0 A' (c - n.toNat) HCL.out HA.out, (HO.out.drewN nd).set 0 _⟩
      · have hb : (texE l 0 0 n == 0) = false := by simpa using hE
        rw [hb] at HF
        rw [if_neg hE, if_neg hE]
        generalize texE l 0 0 n = E at *
        go_enter Try.func27, Try.ntmps27
        go_wp2_with (first | (go_at_call 36; refine HF.out.mono ?_; rintro q w1 ⟨rfl, hI, hO⟩; have HI2 := Lib.hid hI; have HO := Lib.hid hO; clear hI hO))
        go_ret
        exact ⟨rfl, HI2.out, HO.out⟩
  · have hE : takE l 0 e n = e := by unfold takE; rw [if_pos he]
    have hT : texE l 0 e n = e := by unfold texE; rw [if_pos he]
    have heb : (e == 0) = false := by simpa using he
    have HF := Lib.hid (fits_call w0 h l e n w HI.out)
    rw [hT, heb] at HF
    rw [hE, if_neg he, if_neg he]
    clear hE hT
    go_enter Try.func27, Try.ntmps27
    go_wp2_with (first | (go_at_call 36; refine HF.out.mono ?_; rintro q w1 ⟨rfl, hI, hO⟩; have HI2 := Lib.hid hI; have HO := Lib.hid hO; clear hI hO))
    go_ret
    exact ⟨rfl, HI2.out, HO.out⟩

theorem takE_drop {l : List Int} {p e n : Int} (hp : 0 ≤ p) (hp2 : p ≤ l.length) : takE (l.drop p.toNat) 0 e n = takE l p e n := by
  unfold takE
  rw [List.length_drop, show (((l.length - p.toNat : Nat) : Int) - 0) = (l.length : Int) - p by omega]
theorem texE_drop {l : List Int} {p e n : Int} (hp : 0 ≤ p) (hp2 : p ≤ l.length) : texE (l.drop p.toNat) 0 e n = texE l p e n := by
  unfold texE
  rw [List.length_drop, show (((l.length - p.toNat : Nat) : Int) - 0) = (l.length : Int) - p by omega]
theorem cutL_drop {l : List Int} {p n : Int} (hp : 0 ≤ p) (hn : 0 ≤ n) : cutL l p n = (l.drop p.toNat).take n.toNat := by
  unfold cutL
  rw [List.drop_take, show (p + n).toNat - p.toNat = n.toNat by omega]
theorem drop_nx {l : List Int} {p n E : Int} (hp : 0 ≤ p) (hn : E = 0 → 0 ≤ n) : (if E = 0 then (l.drop p.toNat).drop n.toNat else l.drop p.toNat) = l.drop (nxP p n E).toNat := by
  unfold nxP
  split
  · rename_i h
    rw [List.drop_drop, show p.toNat + n.toNat = (p + n).toNat by have := hn h; omega]
  · rfl

theorem TakeR_spec (w0 : World) (h : Nat) (l : List Int) (p e n : Int) (w : World) (hI : IsRf w0 w h (l.drop p.toNat) e) (hl : l.length ≤ 140737488351232) (hwf : ∀ x ∈ l, (Lit.int .u8 x).wf = true) (hp : 0 ≤ p) (hp2 : p ≤ l.length) (hnw : (Lit.int .i64 n).wf = true) :
    Calls Try.prog 27 #[.pointer (some ⟨h, 0, none⟩), .int .i64 n] w fun q w' => q = .returned (.int .i64 (takV l p e n)) ∧ IsRf w0 w' h (l.drop (nxP p n (takE l p e n)).toNat) (takE l p e n) ∧ Only w w' h := by
  have H := TakeR_call w0 h (l.drop p.toNat) e n w hI (by rw [List.length_drop]; omega) (fun x hx => hwf x (List.mem_of_mem_drop hx)) hnw
  rw [takE_drop hp hp2, drop_nx hp (fun h => by have := takE_ok h; omega)] at H
  have hv : takV l p e n = if takE l p e n = 0 then le ((l.drop p.toNat).take n.toNat) else 0 := by
    unfold takV
    split
    · rename_i h
      rw [cutL_drop hp (by have := takE_ok h; omega)]
    · rfl
  rw [hv]
  exact H

theorem TextR_spec (w0 : World) (h : Nat) (l : List Int) (p e n : Int) (w : World) (hI : IsRf w0 w h (l.drop p.toNat) e) (hp : 0 ≤ p) (hp2 : p ≤ l.length) :
    Calls Try.prog 28 #[.pointer (some ⟨h, 0, none⟩), .int .i64 n] w fun q w' => q = .returned (.string (texV l p e n)) ∧ IsRf w0 w' h (l.drop (nxP p n (texE l p e n)).toNat) (texE l p e n) ∧ Only w w' h := by
  have H := TextR_call w0 h (l.drop p.toNat) e n w hI
  rw [texE_drop hp hp2, drop_nx hp (fun h => by have := texE_ok h; omega)] at H
  have hv : texV l p e n = if texE l p e n = 0 then strOfNums ((l.drop p.toNat).take n.toNat) else ⟨#[]⟩ := by
    unfold texV
    split
    · rename_i h
      rw [cutL_drop hp (by have := texE_ok h; omega)]
    · rfl
  rw [hv]
  exact H

theorem SkipR_spec (w0 : World) (h : Nat) (l : List Int) (p e n : Int) (w : World) (hI : IsRf w0 w h (l.drop p.toNat) e) (hp : 0 ≤ p) (hp2 : p ≤ l.length) :
    Calls Try.prog 29 #[.pointer (some ⟨h, 0, none⟩), .int .i64 n] w fun q w' => q = .returned (.tuple #[]) ∧ IsRf w0 w' h (l.drop (nxP p n (texE l p e n)).toNat) (texE l p e n) ∧ Only w w' h := by
  have H := SkipR_call w0 h (l.drop p.toNat) e n w hI
  rw [texE_drop hp hp2, drop_nx hp (fun h => by have := texE_ok h; omega)] at H
  exact H

end Go.Proofs.Ytjageihjjmfhgaa.Rd
