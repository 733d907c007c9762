/-
  ratio: Small, One, Nought, Sign, Check. ratio: Check. ratio: Checks, Long, Answer. frac: answered, Make, Of. frac: always, do, Mul, Sub.
-/
import Derived.Test.YtpmfohhpaoagfaaMF
namespace Go.Proofs.Ytpmfohhpaoagfaa
open Go Go.RowKit Go.Proofs
theorem nl_i64 {n : Int} (h0 : -9223372036854775808 ≤ n) (h1 : n < 9223372036854775808) : nl n ≤ 1073741824 := by
  unfold nl
  exact Nat.le_trans (lim_length_le (k := 2) (by omega)) (by omega)
set_option maxHeartbeats 1600000 in
theorem small_f (n d : Int) (w : World) (h0 : -9223372036854775808 ≤ n) (h1 : n < 9223372036854775808) (h2 : -9223372036854775808 ≤ d) (h3 : d < 9223372036854775808) (hd : d ≠ 0) :
    Calls Try.prog 44 #[.int .i64 n, .int .i64 d] w fun e w' => ∃ v, e = .returned v ∧ Ext w w' ∧ FracO w' w.heap.size v (Rat.divInt n d) := by
  have o1 := mkHid (fun w => of_c n w h0 h1)
  have o2 := mkHid (fun w => of_c d w h2 h3)
  have lo := mkHid (fun v w' v' (hb : w.heap.size + 1 ≤ w'.heap.size) k1 k2 => lowest_o (w.heap.size + 1) v v' n d w' hb (nl_i64 h0 h1) (nl_i64 h2 h3) hd k1 k2)
  clear h0 h1 h2 h3 hd
  go_enter Try.func44, Try.ntmps44
  go_wp2_with fail
  refine (o1.out _).mono ?_
  rintro e w1 ⟨x, rfl, hE1, hx⟩
  have hB := hE1.blk (heap_alloc_new _ _)
  have hs1 := hE1.size
  simp at hs1
  replace hE1 := mkHid (((Ext.refl w).al _).trans hE1)
  replace hx := mkHid hx
  replace hB := mkHid hB
  go_wp2_with fail
  refine (o2.out _).mono ?_
  rintro e w2 ⟨y, rfl, hE2, hy⟩
  have hs2 := hE2.size
  have hx2 := mkHid ((hx.out.ext hE2).mono (show w.heap.size + 1 ≤ _ by simp))
  replace hy := mkHid (hy.mono (show w.heap.size + 1 ≤ _ by omega))
  replace hB := mkHid (hE2.blk hB.out)
  replace hE1 := mkHid (hE1.out.trans hE2)
  clear hE2 hx
  go_wp2_with fail
  refine (lo.out _ _ _ (by omega) hx2.out hy.out).mono ?_
  rintro e w3 ⟨v, rfl, hE3, hv⟩
  obtain ⟨x1, x2, x3, x4, y1, y2, y3, y4, rfl⟩ := hv.r.shape
  replace hB := hE3.blk hB.out
  have FR := (hv.row (g := w.heap.size) (by omega) #[.bool x1, .slice x2 x3 x4, .bool y1, .slice y2 y3 y4]).mono (show w.heap.size ≤ w.heap.size + 1 by omega)
  have FE := (hE1.out.trans hE3).row (Nat.le_refl _) #[.bool x1, .slice x2 x3 x4, .bool y1, .slice y2 y3 y4]
  replace FR := mkHid FR
  replace FE := mkHid FE
  clear hv hE3 hE1
  go_wp2_with (refine wpList_store_row rfl 26 (.tmp 4) (.tmp 9) rfl w.heap.size #[.bool x1, .slice x2 x3 x4, .bool y1, .slice y2 y3 y4] rfl rfl 26 _ hB (by kernel_rfl) rfl (by kernel_rfl) ?_)
  exact bodyPost_ret (results_cell_row rfl _ _ w.heap.size 26 #[.bool x1, .slice x2 x3 x4, .bool y1, .slice y2 y3 y4] (0, 0) _ rfl (setRow_heap _ _ _ _ _ _ hB) Try.underlying26 rfl (by kernel_rfl)) rfl ⟨_, rfl, FE.out, FR.out⟩
theorem one_f (w : World) : Calls Try.prog 33 #[] w fun e w' => ∃ v, e = .returned v ∧ Ext w w' ∧ FracO w' w.heap.size v 1 := by
  have o1 := mkHid (fun w => small_f 1 1 w (by omega) (by omega) (by omega) (by omega) (by omega))
  go_enter Try.func33, Try.ntmps33
  go_wp2_with fail
  refine (o1.out _).mono ?_
  rintro e w3 ⟨v, rfl, hE3, hv⟩
  obtain ⟨x1, x2, x3, x4, y1, y2, y3, y4, rfl⟩ := hv.r.shape
  have hB := hE3.blk (heap_alloc_new _ _)
  rw [show Rat.divInt 1 1 = (1 : Rat) by decide] at hv
  have FR := (hv.row (g := w.heap.size) (by simp) #[.bool x1, .slice x2 x3 x4, .bool y1, .slice y2 y3 y4]).mono (show w.heap.size ≤ _ by simp)
  have FE := (((Ext.refl w).al _).trans hE3).row (Nat.le_refl _) #[.bool x1, .slice x2 x3 x4, .bool y1, .slice y2 y3 y4]
  replace FR := mkHid FR
  replace FE := mkHid FE
  clear hv hE3
  go_wp2_with (refine wpList_store_row rfl 26 (.tmp 0) (.tmp 1) rfl w.heap.size #[.bool x1, .slice x2 x3 x4, .bool y1, .slice y2 y3 y4] rfl rfl 26 _ hB (by kernel_rfl) rfl (by kernel_rfl) ?_)
  exact bodyPost_ret (results_cell_row rfl _ _ w.heap.size 26 #[.bool x1, .slice x2 x3 x4, .bool y1, .slice y2 y3 y4] (0, 0) _ rfl (setRow_heap _ _ _ _ _ _ hB) Try.underlying26 rfl (by kernel_rfl)) rfl ⟨_, rfl, FE.out, FR.out⟩
theorem nought_f (w : World) : Calls Try.prog 45 #[] w fun e w' => ∃ v, e = .returned v ∧ Ext w w' ∧ FracO w' w.heap.size v 0 := by
  have o1 := mkHid (fun w => of_c 1 w (by omega) (by omega))
  go_enter Try.func45, Try.ntmps45
  go_wp2_with fail
  refine (o1.out _).mono ?_
  rintro e w3 ⟨v, rfl, hE3, hv⟩
  obtain ⟨y1, y2, y3, y4, rfl⟩ := hv.r.shape
  have hB := hE3.blk (heap_alloc_new _ _)
  have hz : IntO w3 (w.alloc (.cells #[.bool false, .slice none 0 0, .bool false, .slice none 0 0] 26)).heap.size (.agg #[.bool false, .slice none 0 0]) 0 := ⟨.slice none 0 0, by simp, by simp [lim_zero]; exact magO_nil _ _⟩
  have R : FracO w3 (w.alloc (.cells #[.bool false, .slice none 0 0, .bool false, .slice none 0 0] 26)).heap.size (.agg #[.bool false, .slice none 0 0, .bool y1, .slice y2 y3 y4]) 0 := ⟨_, _, _, _, _, _, _, _, rfl, hz, hv⟩
  have FR := (R.row (g := w.heap.size) (by simp) #[.bool false, .slice none 0 0, .bool y1, .slice y2 y3 y4]).mono (show w.heap.size ≤ _ by simp)
  have FE := (((Ext.refl w).al _).trans hE3).row (Nat.le_refl _) #[.bool false, .slice none 0 0, .bool y1, .slice y2 y3 y4]
  replace FR := mkHid FR
  replace FE := mkHid FE
  clear hv hE3 hz R
  go_wp2_with (refine wpList_store_row rfl 26 (.tmp 0) (.tmp 2) rfl w.heap.size #[.bool false, .slice none 0 0, .bool y1, .slice y2 y3 y4] rfl rfl 26 _ hB (by kernel_rfl) rfl (by kernel_rfl) ?_)
  exact bodyPost_ret (results_cell_row rfl _ _ w.heap.size 26 #[.bool false, .slice none 0 0, .bool y1, .slice y2 y3 y4] (0, 0) _ rfl (setRow_heap _ _ _ _ _ _ hB) Try.underlying26 rfl (by kernel_rfl)) rfl ⟨_, rfl, FE.out, FR.out⟩
theorem sign_f (v : Value) (x : Rat) (w : World) (hX : nf x ≤ 268435456) (h : FracR w v x) :
    Calls Try.prog 49 #[v] w fun e w' => e = .returned (.int .i64 x.num.sign) ∧ Ext w w' := by
  have H := h
  obtain ⟨x1, x2, x3, x4, y1, y2, y3, y4, rfl⟩ := h.shape
  have hn : nl x.num ≤ 1073741824 := Nat.le_trans (Nat.le_max_left _ _) (Nat.le_trans hX (by decide))
  have hs := mkHid (fun w h => sign_c (.agg #[.bool x1, .slice x2 x3 x4]) x.num w h hn)
  replace H := mkHid H
  clear h
  go_enter Try.func49, Try.ntmps49
  go_wp2_with fail
  refine (hs.out _ (H.out.ext ((Ext.refl w).al _)).num).mono ?_
  rintro e w' ⟨rfl, hE⟩
  have FE := mkHid (((Ext.refl w).al _).trans hE)
  clear hE
  go_wp2_with fail
  go_ret
  exact ⟨rfl, FE.out⟩
end Go.Proofs.Ytpmfohhpaoagfaa
namespace Go.Proofs.Ytpmfohhpaoagfaa
open Go Go.RowKit Go.Proofs
/-- A value of api.Frac with these limbs, whatever they be. -/
def AnyL (w : World) (v : Value) (b1 : Bool) (l1 : List Nat) (b2 : Bool) (l2 : List Nat) : Prop :=
  ∃ a1 c1 a2 c2, v = .agg #[.bool b1, .slice a1 l1.length c1, .bool b2, .slice a2 l2.length c2] ∧ l1.length ≤ 4294967296 ∧ l2.length ≤ 4294967296 ∧ AnyR w (.agg #[.bool b1, .slice a1 l1.length c1]) b1 l1 ∧ AnyR w (.agg #[.bool b2, .slice a2 l2.length c2]) b2 l2
def okF (b1 : Bool) (l1 : List Nat) (b2 : Bool) (l2 : List Nat) : Bool :=
  goodI b1 l1 && goodI b2 l2 && decide (0 < sg b2 (val l2)) && decide (Int.gcd (sg b1 (val l1)) (sg b2 (val l2)) = 1)
/-- The fraction that these limbs are, if they are one that Check lets in. -/
def ratF (b1 : Bool) (l1 : List Nat) (b2 : Bool) (l2 : List Nat) : Option Rat :=
  if okF b1 l1 b2 l2 then some (Rat.divInt (sg b1 (val l1)) (sg b2 (val l2))) else none
/-- A value of api.Frac: 'some x' where Check lets it in, none where not. -/
def AnyF (w : World) (v : Value) (o : Option Rat) : Prop := ∃ b1 l1 b2 l2, AnyL w v b1 l1 b2 l2 ∧ o = ratF b1 l1 b2 l2
theorem AnyF.ext {w w' : World} {v : Value} {o : Option Rat} (h : AnyF w v o) (e : Ext w w') : AnyF w' v o := by
  obtain ⟨b1, l1, b2, l2, ⟨a1, c1, a2, c2, h1, h2, h3, h4, h5⟩, h6⟩ := h
  exact ⟨b1, l1, b2, l2, ⟨a1, c1, a2, c2, h1, h2, h3, h4.ext e, h5.ext e⟩, h6⟩
theorem AnyF.shape {w : World} {v : Value} {o : Option Rat} (h : AnyF w v o) : ∃ b1 a1 n1 c1 b2 a2 n2 c2, v = .agg #[.bool b1, .slice a1 n1 c1, .bool b2, .slice a2 n2 c2] := by
  obtain ⟨b1, l1, b2, l2, ⟨a1, c1, a2, c2, h1, h2, h3, h4, h5⟩, h6⟩ := h
  exact ⟨_, _, _, _, _, _, _, _, h1⟩
theorem low_prime {n d : Int} (hd : 0 < d) (hg : Int.gcd n d = 1) : (Rat.divInt n d).num = n ∧ ((Rat.divInt n d).den : Int) = d := by
  rw [low_num, low_den n d (by omega), hg]
  simp
  omega
theorem AnyF.frac {w : World} {v : Value} {x : Rat} (h : AnyF w v (some x)) : FracR w v x ∧ nf x ≤ 2048 := by
  obtain ⟨b1, l1, b2, l2, ⟨a1, c1, a2, c2, rfl, h2, h3, h4, h5⟩, h6⟩ := h
  unfold ratF at h6
  split at h6
  · rename_i ho
    unfold okF at ho
    simp only [Bool.and_eq_true, decide_eq_true_eq] at ho
    obtain ⟨⟨⟨o1, o2⟩, o3⟩, o4⟩ := ho
    simp only [Option.some.injEq] at h6
    obtain ⟨e1, e2⟩ := low_prime o3 o4
    rw [← h6] at e1 e2
    obtain ⟨i1, i2⟩ := any_int h4 o1
    obtain ⟨j1, j2⟩ := any_int h5 o2
    refine ⟨⟨_, _, _, _, _, _, _, _, rfl, by rw [e1]; exact i1, by rw [e2]; exact j1⟩, ?_⟩
    unfold nf
    rw [e1, e2]
    exact Nat.max_le.2 ⟨i2, j2⟩
  · cases h6
theorem sg_abs (X : Int) : sg (decide (X < 0)) X.natAbs = X := by
  unfold sg
  split
  · rename_i h
    simp at h
    omega
  · rename_i h
    simp at h
    omega
theorem good_int_iff (X : Int) : goodI (decide (X < 0)) (lim X.natAbs) = decide (nl X ≤ 2048) := by
  by_cases h : nl X ≤ 2048
  · rw [good_int h, decide_eq_true h]
  · have : goodI (decide (X < 0)) (lim X.natAbs) = false := by
      unfold goodI nl at *
      simp [h]
    rw [this, decide_eq_false h]
theorem FracR.any {w : World} {v : Value} {x : Rat} (h : FracR w v x) (hn : nf x ≤ 4294967296) : AnyF w v (if nf x ≤ 2048 then some x else none) := by
  obtain ⟨b1, a1, n1, c1, b2, a2, n2, c2, rfl, h1, h2⟩ := h
  obtain ⟨s1, e1, x1, y1, rfl, k1, r1⟩ := h1
  obtain ⟨s2, e2, x2, y2, rfl, k2, r2⟩ := h2
  simp only [Value.agg.injEq, Array.mk.injEq, List.cons.injEq, and_true, Value.bool.injEq, Value.slice.injEq] at e1 e2
  obtain ⟨rfl, rfl, rfl, rfl⟩ := e1
  obtain ⟨rfl, rfl, rfl, rfl⟩ := e2
  have m1 : nl x.num ≤ nf x := Nat.le_max_left _ _
  have m2 : nl (x.den : Int) ≤ nf x := Nat.le_max_right _ _
  refine ⟨_, lim x.num.natAbs, _, lim (x.den : Int).natAbs, ⟨_, _, _, _, rfl, by unfold nl at *; omega, by unfold nl at *; omega, ⟨_, _, rfl, lim_ok _, k1, r1⟩, ⟨_, _, rfl, lim_ok _, k2, r2⟩⟩, ?_⟩
  unfold ratF okF
  rw [val_lim, val_lim, sg_abs, sg_abs, good_int_iff, good_int_iff]
  have hd : decide (0 < (x.den : Int)) = true := by simp; exact Nat.pos_of_ne_zero x.den_nz
  have hg : Int.gcd x.num x.den = 1 := x.reduced
  rw [hd, hg, Rat.num_divInt_den]
  have : (decide (nl x.num ≤ 2048) && decide (nl (x.den : Int) ≤ 2048) && true && decide (1 = 1)) = decide (nf x ≤ 2048) := by
    unfold nf
    by_cases u1 : nl x.num ≤ 2048 <;> by_cases u2 : nl (x.den : Int) ≤ 2048 <;> simp [u1, u2, Nat.max_le]
  rw [this]
  by_cases u : nf x ≤ 2048 <;> simp [u]
theorem row4_cells {w : World} {g T : Nat} {u1 u2 u3 u4 : Value} (h : w.heap[g]? = some (.cells #[u1, u2, u3, u4] T (0, 0))) : w.cell? ⟨g, 0, none⟩ = some u1 ∧ w.cell? ⟨g, 1, none⟩ = some u2 ∧ w.cell? ⟨g, 2, none⟩ = some u3 ∧ w.cell? ⟨g, 3, none⟩ = some u4 := by
  refine ⟨?_, ?_, ?_, ?_⟩ <;> simp [World.cell?, h]
set_option maxHeartbeats 3200000 in
theorem check_f (v : Value) (o : Option Rat) (w : World) (h : AnyF w v o) :
    Calls Try.prog 30 #[v] w fun e w' => e = .returned (.int .i64 (if o.isSome then 0 else 1)) ∧ Ext w w' := by
  obtain ⟨b1, l1, b2, l2, ⟨a1, c1, a2, c2, rfl, h2, h3, h4, h5⟩, rfl⟩ := h
  have k1 := mkHid (fun w h => check_c (.agg #[.bool b1, .slice a1 l1.length c1]) b1 l1 w h2 h)
  have k2 := mkHid (fun w h => check_c (.agg #[.bool b2, .slice a2 l2.length c2]) b2 l2 w h3 h)
  replace h4 := mkHid h4
  replace h5 := mkHid h5
  by_cases g1 : goodI b1 l1 = true
  · rw [if_pos g1] at k1
    by_cases g2 : goodI b2 l2 = true
    · rw [if_pos g2] at k2
      obtain ⟨i1, n1⟩ := any_int h4.out g1
      obtain ⟨i2, n2⟩ := any_int h5.out g2
      have hn1 : nl (sg b1 (val l1)) ≤ 1073741824 := Nat.le_trans n1 (by decide)
      have hn2 : nl (sg b2 (val l2)) ≤ 1073741824 := Nat.le_trans n2 (by decide)
      have hr : (ratF b1 l1 b2 l2).isSome = decide (0 < sg b2 (val l2) ∧ Int.gcd (sg b1 (val l1)) (sg b2 (val l2)) = 1) := by
        unfold ratF okF
        rw [g1, g2]
        by_cases u1 : 0 < sg b2 (val l2) <;> by_cases u2 : Int.gcd (sg b1 (val l1)) (sg b2 (val l2)) = 1 <;> simp [u1, u2]
      rw [hr]
      clear hr g1 g2 h2 h3 n1 n2
      generalize sg b1 (val l1) = X at *
      generalize sg b2 (val l2) = Y at *
      have hsg := mkHid (fun w h => sign_c (.agg #[.bool b2, .slice a2 l2.length c2]) Y w h hn2)
      have hcm := mkHid (fun w h h' => common_c (.agg #[.bool b1, .slice a1 l1.length c1]) (.agg #[.bool b2, .slice a2 l2.length c2]) X Y w hn1 hn2 h h')
      replace i1 := mkHid i1
      replace i2 := mkHid i2
      by_cases hy : 0 < Y
      · have hs : Y.sign = 1 := Int.sign_eq_one_of_pos hy
        rw [hs] at hsg
        have hgl : nl (Int.gcd X Y : Nat) ≤ 1073741824 := by
          refine Nat.le_trans (lim_mono ?_) hn2
          rw [Int.natAbs_natCast]
          exact Nat.le_of_dvd (by omega) (by simpa using (Int.natAbs_dvd_natAbs.2 (Int.gcd_dvd_right X Y)))
        have hof := mkHid (fun w => of_c 1 w (by omega) (by omega))
        by_cases hg : Int.gcd X Y = 1
        · rw [if_pos (decide_eq_true ⟨hy, hg⟩)]
          have hcp := mkHid (fun v1 v2 w h1 h2 => cmp_c v1 v2 (Int.gcd X Y : Nat) 1 w hgl nl_one h1 h2)
          rw [show (((Int.gcd X Y : Nat) : Int) - 1).sign = 0 by rw [hg]; rfl] at hcp
          clear hs hgl hn1 hn2
          generalize Int.gcd X Y = G at *
          replace hy := mkHid hy
          replace hg := mkHid hg
          go_enter Try.func30, Try.ntmps30
          go_wp2_with fail
          refine (k1.out _ (h4.out.ext ((Ext.refl w).al _))).mono ?_
          rintro e w1 ⟨rfl, hE1⟩
          have hb := row4_cells (hE1.blk (heap_alloc_new w _))
          have E1 := ((Ext.refl w).al _).trans hE1
          replace k2 := mkHid (k2.out w1 (h5.out.ext E1))
          replace hb := hb
          have hE1' := mkHid hE1
          replace E1 := mkHid E1
          clear hE1 k1
          go_wp2_with fail
          refine k2.out.mono ?_
          rintro e w2 ⟨rfl, hE2⟩
          have hE12 := hE1'.out.trans hE2
          replace hb := row4_cells (hE12.blk (heap_alloc_new w _))
          replace E1 := mkHid (E1.out.trans hE2)
          replace hE12 := mkHid hE12
          clear hE2 k2 hE1'
          go_wp2_with fail
          refine (hsg.out w2 (i2.out.ext E1.out)).mono ?_
          rintro e w3 ⟨rfl, hE3⟩
          replace hE12 := mkHid (hE12.out.trans hE3)
          replace hb := row4_cells (hE12.out.blk (heap_alloc_new w _))
          replace E1 := mkHid (E1.out.trans hE3)
          clear hE3
          go_wp2_with fail
          refine (hcm.out w3 (i1.out.ext E1.out) (i2.out.ext E1.out)).mono ?_
          rintro e w4 ⟨vg, rfl, hE4, hgv⟩
          replace E1 := mkHid (E1.out.trans hE4)
          replace hgv := mkHid hgv
          clear hE4 hb hE12
          go_wp2_with fail
          refine (hof.out w4).mono ?_
          rintro e w5 ⟨vo, rfl, hE5, hov⟩
          replace E1 := mkHid (E1.out.trans hE5)
          replace hgv := mkHid (hgv.out.r.ext hE5)
          replace hov := mkHid hov.r
          clear hE5
          go_wp2_with fail
          refine (hcp.out _ _ w5 hgv.out hov.out).mono ?_
          rintro e w6 ⟨rfl, hE6⟩
          replace E1 := mkHid (E1.out.trans hE6)
          clear hE6
          go_wp2_with fail
          go_ret
          exact ⟨rfl, E1.out⟩
        · rw [if_neg (fun h => hg (of_decide_eq_true h).2)]
          obtain ⟨S, hS⟩ : ∃ S, S = (((Int.gcd X Y : Nat) : Int) - 1).sign := ⟨_, rfl⟩
          have hS0 : (S == 0) = false := by
            rw [hS, beq_eq_false_iff_ne]
            intro h
            have := Int.sign_eq_zero_iff_zero.1 h
            omega
          have hcp := mkHid (fun v1 v2 w h1 h2 => cmp_c v1 v2 (Int.gcd X Y : Nat) 1 w hgl nl_one h1 h2)
          rw [← hS] at hcp
          replace hS := mkHid hS
          clear hs hgl hn1 hn2
          generalize Int.gcd X Y = G at *
          replace hy := mkHid hy
          replace hg := mkHid hg
          go_enter Try.func30, Try.ntmps30
          go_wp2_with fail
          refine (k1.out _ (h4.out.ext ((Ext.refl w).al _))).mono ?_
          rintro e w1 ⟨rfl, hE1⟩
          have hb := row4_cells (hE1.blk (heap_alloc_new w _))
          have E1 := ((Ext.refl w).al _).trans hE1
          replace k2 := mkHid (k2.out w1 (h5.out.ext E1))
          replace hb := hb
          have hE1' := mkHid hE1
          replace E1 := mkHid E1
          clear hE1 k1
          go_wp2_with fail
          refine k2.out.mono ?_
          rintro e w2 ⟨rfl, hE2⟩
          have hE12 := hE1'.out.trans hE2
          replace hb := row4_cells (hE12.blk (heap_alloc_new w _))
          replace E1 := mkHid (E1.out.trans hE2)
          replace hE12 := mkHid hE12
          clear hE2 k2 hE1'
          go_wp2_with fail
          refine (hsg.out w2 (i2.out.ext E1.out)).mono ?_
          rintro e w3 ⟨rfl, hE3⟩
          replace hE12 := mkHid (hE12.out.trans hE3)
          replace hb := row4_cells (hE12.out.blk (heap_alloc_new w _))
          replace E1 := mkHid (E1.out.trans hE3)
          clear hE3
          go_wp2_with fail
          refine (hcm.out w3 (i1.out.ext E1.out) (i2.out.ext E1.out)).mono ?_
          rintro e w4 ⟨vg, rfl, hE4, hgv⟩
          replace E1 := mkHid (E1.out.trans hE4)
          replace hgv := mkHid hgv
          clear hE4 hb hE12
          go_wp2_with fail
          refine (hof.out w4).mono ?_
          rintro e w5 ⟨vo, rfl, hE5, hov⟩
          replace E1 := mkHid (E1.out.trans hE5)
          replace hgv := mkHid (hgv.out.r.ext hE5)
          replace hov := mkHid hov.r
          clear hE5
          go_wp2_with fail
          refine (hcp.out _ _ w5 hgv.out hov.out).mono ?_
          rintro e w6 ⟨rfl, hE6⟩
          replace E1 := mkHid (E1.out.trans hE6)
          clear hE6
          go_wp2_with fail
          go_ret
          exact ⟨rfl, E1.out⟩
      · rw [if_neg (fun h => hy (of_decide_eq_true h).1)]
        have hs : Y.sign ≤ 0 := by
          rcases Int.lt_trichotomy Y 0 with h | h | h
          · rw [Int.sign_eq_neg_one_of_neg h]; decide
          · rw [h]; decide
          · exact absurd h hy
        generalize Y.sign = S at *
        replace hy := mkHid hy
        go_enter Try.func30, Try.ntmps30
        go_wp2_with fail
        refine (k1.out _ (h4.out.ext ((Ext.refl w).al _))).mono ?_
        rintro e w1 ⟨rfl, hE1⟩
        have hb := row4_cells (hE1.blk (heap_alloc_new w _))
        have E1 := ((Ext.refl w).al _).trans hE1
        replace k2 := mkHid (k2.out w1 (h5.out.ext E1))
        replace hb := hb
        have hE1' := mkHid hE1
        replace E1 := mkHid E1
        clear hE1 k1
        go_wp2_with fail
        refine k2.out.mono ?_
        rintro e w2 ⟨rfl, hE2⟩
        have hE12 := hE1'.out.trans hE2
        replace hb := row4_cells (hE12.blk (heap_alloc_new w _))
        replace E1 := mkHid (E1.out.trans hE2)
        replace hE12 := mkHid hE12
        clear hE2 k2 hE1'
        go_wp2_with fail
        refine (hsg.out w2 (i2.out.ext E1.out)).mono ?_
        rintro e w3 ⟨rfl, hE3⟩
        replace E1 := mkHid (E1.out.trans hE3)
        clear hE3
        go_wp2_with fail
        go_ret
        exact ⟨rfl, E1.out⟩
    · rw [if_neg g2] at k2
      have ho : ratF b1 l1 b2 l2 = none := by unfold ratF okF; simp [g2]
      rw [ho]
      clear ho g1 g2 h2 h3
      simp only [Option.isSome_none]
      rw [if_neg (by decide)]
      go_enter Try.func30, Try.ntmps30
      go_wp2_with fail
      refine (k1.out _ (h4.out.ext ((Ext.refl w).al _))).mono ?_
      rintro e w1 ⟨rfl, hE1⟩
      have hb := row4_cells (hE1.blk (heap_alloc_new w _))
      have E1 := ((Ext.refl w).al _).trans hE1
      replace k2 := mkHid (k2.out w1 (h5.out.ext E1))
      replace hb := hb
      have hE1' := mkHid hE1
      replace E1 := mkHid E1
      clear hE1 k1
      go_wp2_with fail
      refine k2.out.mono ?_
      rintro e w2 ⟨rfl, hE2⟩
      have hE12 := hE1'.out.trans hE2
      replace hb := row4_cells (hE12.blk (heap_alloc_new w _))
      replace E1 := mkHid (E1.out.trans hE2)
      replace hE12 := mkHid hE12
      clear hE2 k2 hE1'
      go_wp2_with fail
      go_ret
      exact ⟨rfl, E1.out⟩
  · rw [if_neg g1] at k1
    have ho : ratF b1 l1 b2 l2 = none := by unfold ratF okF; simp [g1]
    rw [ho]
    clear ho g1 h2 h3
    simp only [Option.isSome_none]
    rw [if_neg (by decide)]
    go_enter Try.func30, Try.ntmps30
    go_wp2_with fail
    refine (k1.out _ (h4.out.ext ((Ext.refl w).al _))).mono ?_
    rintro e w1 ⟨rfl, hE1⟩
    replace hE1 := mkHid (((Ext.refl w).al _).trans hE1)
    go_wp2_with fail
    go_ret
    exact ⟨rfl, hE1.out⟩
end Go.Proofs.Ytpmfohhpaoagfaa
namespace Go.Proofs.Ytpmfohhpaoagfaa
open Go Go.RowKit Go.Proofs
/-- Fractions side by side in a block. -/
def LF (w : World) (g : Nat) (os : List (Option Rat)) : Prop :=
  ∀ k, k < os.length → ∃ b1 a1 n1 c1 b2 a2 n2 c2, w.cell? ⟨g, k * 4, none⟩ = some (.bool b1) ∧ w.cell? ⟨g, k * 4 + 1, none⟩ = some (.slice a1 n1 c1) ∧ w.cell? ⟨g, k * 4 + 2, none⟩ = some (.bool b2) ∧ w.cell? ⟨g, k * 4 + 3, none⟩ = some (.slice a2 n2 c2) ∧
    AnyF w (.agg #[.bool b1, .slice a1 n1 c1, .bool b2, .slice a2 n2 c2]) (os.getD k none)
theorem LF.ext {w w' : World} {g : Nat} {os : List (Option Rat)} (h : LF w g os) (e : Ext w w') : LF w' g os := by
  intro k hk
  obtain ⟨b1, a1, n1, c1, b2, a2, n2, c2, h1, h2, h3, h4, h5⟩ := h k hk
  exact ⟨b1, a1, n1, c1, b2, a2, n2, c2, e.cell h1, e.cell h2, e.cell h3, e.cell h4, h5.ext e⟩
set_option maxHeartbeats 1600000 in
theorem checks_f (g cap : Nat) (os : List (Option Rat)) (w : World) (hn : os.length ≤ 4294967296) (h : LF w g os) :
    Calls Try.prog 48 #[.slice (some ⟨g, 0, none⟩) os.length cap] w fun e w' => e = .returned (.bool (os.all Option.isSome)) ∧ Ext w w' := by
  replace h := mkHid h
  obtain ⟨n, hnn⟩ : ∃ n, n = os.length := ⟨_, rfl⟩
  rw [← hnn]
  obtain ⟨r, hr⟩ : ∃ r, r = os.all Option.isSome := ⟨_, rfl⟩
  rw [← hr]
  have hn2 : n ≤ 4294967296 := by omega
  replace hnn := mkHid hnn
  replace hr := mkHid hr
  clear hn
  obtain ⟨wo, hwo⟩ : ∃ wo : World, wo = w := ⟨_, rfl⟩
  go_enter Try.func48, Try.ntmps48
  go_wp2_with fail
  go_loopw [7] (fun i wr => ∃ k, k ≤ n ∧ i = .int .i64 (k : Nat) ∧ Ext wo wr ∧ ∀ j, j < k → (os.getD j none).isSome = true) (fun i _ => n - (intOf i).toNat)
  case atStart => exact ⟨0, Nat.zero_le _, rfl, hwo ▸ Ext.refl _, fun j hj => absurd hj (by omega)⟩
  case round =>
    obtain ⟨k, hk, rfl, hE, hj⟩ := hrel
    by_cases hlt : k < n
    · obtain ⟨b1, a1, n1, c1, b2, a2, n2, c2, h1, h2, h3, h4, h5⟩ := (h.out.ext (hwo ▸ hE)) k (by rw [← hnn.out]; exact hlt)
      have hck := mkHid (fun w h => check_f (.agg #[.bool b1, .slice a1 n1 c1, .bool b2, .slice a2 n2 c2]) (os.getD k none) w h)
      obtain ⟨o, ho⟩ : ∃ o, o = os.getD k none := ⟨_, rfl⟩
      rw [← ho] at hck h5
      replace h5 := mkHid h5
      replace hE := mkHid hE
      replace hj := mkHid hj
      replace ho := mkHid ho
      cases o with
      | none =>
        have hf : r = false := by
          rw [hr.out, Bool.eq_false_iff]
          intro e
          rw [List.all_eq_true] at e
          have hkl : k < os.length := by rw [← hnn.out]; exact hlt
          have := e _ (List.getElem_mem hkl)
          have h2 := ho.out
          rw [List.getD_eq_getElem?_getD, List.getElem?_eq_getElem hkl] at h2
          simp at h2
          rw [← h2] at this
          cases this
        subst hf
        simp only [Option.isSome_none] at hck
        go_wp2_with fail
        refine (hck.out _ (h5.out.ext ((Ext.refl wr).al _))).mono ?_
        rintro e w2 ⟨rfl, hE2⟩
        replace hE := mkHid (hE.out.trans (((Ext.refl wr).al _).trans hE2))
        clear hE2 h1 h2 h3 h4
        go_wp2_with fail
        go_ret
        exact ⟨rfl, hwo ▸ hE.out⟩
      | some x =>
        simp only [Option.isSome_some] at hck
        go_wp2_with fail
        refine (hck.out _ (h5.out.ext ((Ext.refl wr).al _))).mono ?_
        rintro e w2 ⟨rfl, hE2⟩
        replace hE := mkHid (hE.out.trans (((Ext.refl wr).al _).trans hE2))
        clear hE2 h1 h2 h3 h4
        go_wp2_with fail
        go_roundw
        case rel =>
          refine ⟨k + 1, by omega, by go_num, hE.out, fun j hjk => ?_⟩
          rcases Nat.lt_or_ge j k with h | h
          · exact hj.out j h
          · obtain rfl : j = k := by omega
            rw [← ho.out]
            rfl
        case measure => simp [intOf] <;> omega
    · obtain rfl : n = k := by omega
      have hf : r = true := by
        rw [hr.out, List.all_eq_true]
        intro x hx
        obtain ⟨j, hjl, rfl⟩ := List.getElem_of_mem hx
        have := hj j (by rw [hnn.out]; exact hjl)
        rwa [List.getD_eq_getElem?_getD, List.getElem?_eq_getElem hjl] at this
      subst hf
      replace hE := mkHid hE
      replace hj := mkHid hj
      go_wp2_with fail
      go_ret
      exact ⟨rfl, hwo ▸ hE.out⟩
/-- Fractions in lowest terms side by side in a block. -/
def LR (w : World) (g : Nat) (os : List Rat) : Prop :=
  ∀ k, k < os.length → ∃ b1 a1 n1 c1 b2 a2 n2 c2, w.cell? ⟨g, k * 4, none⟩ = some (.bool b1) ∧ w.cell? ⟨g, k * 4 + 1, none⟩ = some (.slice a1 n1 c1) ∧ w.cell? ⟨g, k * 4 + 2, none⟩ = some (.bool b2) ∧ w.cell? ⟨g, k * 4 + 3, none⟩ = some (.slice a2 n2 c2) ∧
    FracR w (.agg #[.bool b1, .slice a1 n1 c1, .bool b2, .slice a2 n2 c2]) (os.getD k 0)
theorem LR.ext {w w' : World} {g : Nat} {os : List Rat} (h : LR w g os) (e : Ext w w') : LR w' g os := by
  intro k hk
  obtain ⟨b1, a1, n1, c1, b2, a2, n2, c2, h1, h2, h3, h4, h5⟩ := h k hk
  exact ⟨b1, a1, n1, c1, b2, a2, n2, c2, e.cell h1, e.cell h2, e.cell h3, e.cell h4, h5.ext e⟩
theorem frac_lens {w : World} {b1 b2 : Bool} {a1 a2 : Option Addr} {n1 c1 n2 c2 : Nat} {x : Rat} (h : FracR w (.agg #[.bool b1, .slice a1 n1 c1, .bool b2, .slice a2 n2 c2]) x) : n1 = nl x.num ∧ n2 = nl (x.den : Int) := by
  obtain ⟨s1, e1, _, _, rfl, _, _⟩ := h.num
  obtain ⟨s2, e2, _, _, rfl, _, _⟩ := h.den
  simp only [Value.agg.injEq, Array.mk.injEq, List.cons.injEq, and_true, Value.slice.injEq] at e1 e2
  exact ⟨e1.2.2.1, e2.2.2.1⟩
set_option maxHeartbeats 1600000 in
theorem longs_f (g cap : Nat) (os : List Rat) (w : World) (hn : os.length ≤ 4294967296) (hb : ∀ x ∈ os, nf x ≤ 4294967296) (h : LR w g os) :
    Calls Try.prog 67 #[.slice (some ⟨g, 0, none⟩) os.length cap] w fun e w' => e = .returned (.bool (os.any fun x => decide (2048 < nf x))) ∧ Ext w w' := by
  replace h := mkHid h
  replace hb := mkHid hb
  obtain ⟨n, hnn⟩ : ∃ n, n = os.length := ⟨_, rfl⟩
  rw [← hnn]
  obtain ⟨r, hr⟩ : ∃ r, r = os.any fun x => decide (2048 < nf x) := ⟨_, rfl⟩
  rw [← hr]
  have hn2 : n ≤ 4294967296 := by omega
  replace hnn := mkHid hnn
  replace hr := mkHid hr
  clear hn
  obtain ⟨wo, hwo⟩ : ∃ wo : World, wo = w := ⟨_, rfl⟩
  go_enter Try.func67, Try.ntmps67
  go_wp2_with fail
  go_loopw [7] (fun i wr => ∃ k, k ≤ n ∧ i = .int .i64 (k : Nat) ∧ Ext wo wr ∧ ∀ j, j < k → nf (os.getD j 0) ≤ 2048) (fun i _ => n - (intOf i).toNat)
  case atStart => exact ⟨0, Nat.zero_le _, rfl, hwo ▸ Ext.refl _, fun j hj => absurd hj (by omega)⟩
  case round =>
    obtain ⟨k, hk, rfl, hE, hj⟩ := hrel
    by_cases hlt : k < n
    · have hkl : k < os.length := by rw [← hnn.out]; exact hlt
      obtain ⟨b1, a1, n1, c1, b2, a2, n2, c2, h1, h2, h3, h4, h5⟩ := (h.out.ext (hwo ▸ hE)) k hkl
      obtain ⟨l1, l2⟩ := frac_lens h5
      have hmem : os.getD k 0 ∈ os := by
        rw [List.getD_eq_getElem?_getD, List.getElem?_eq_getElem hkl]
        exact List.getElem_mem hkl
      have hbk := hb.out _ hmem
      have hfx : nf (os.getD k 0) = max n1 n2 := by rw [l1, l2]; rfl
      have hm1 : n1 ≤ 4294967296 := by omega
      have hm2 : n2 ≤ 4294967296 := by omega
      have lg1 := mkHid (fun gg w h0 h1 => long_c gg b1 a1 n1 c1 1 w hm1 h0 h1)
      have lg2 := mkHid (fun gg w h0 h1 => long_c gg b2 a2 n2 c2 1 w hm2 h0 h1)
      have hrt : 2048 < nf (os.getD k 0) → r = true := by
        intro h
        rw [hr.out, List.any_eq_true]
        exact ⟨_, hmem, decide_eq_true h⟩
      replace hE := mkHid hE
      replace hj := mkHid hj
      replace hrt := mkHid hrt
      clear l1 l2 hbk h5
      replace hfx := mkHid hfx
      replace hkl := mkHid hkl
      replace hmem := mkHid hmem
      by_cases g1 : 2048 < n1
      · rw [decide_eq_true g1] at lg1
        have hr1 : r = true := hrt.out (by rw [hfx.out]; omega)
        subst hr1
        go_wp2_with fail
        refine (lg1.out _ _ (by go_simp) (by go_simp)).mono ?_
        rintro e w2 ⟨rfl, hE2⟩
        replace hE := mkHid (hE.out.trans ((((Ext.refl wr).al _).al _).trans hE2))
        clear hE2 h1 h2 h3 h4
        go_wp2_with fail
        go_ret
        exact ⟨rfl, hwo ▸ hE.out⟩
      · rw [decide_eq_false g1] at lg1
        go_wp2_with fail
        refine (lg1.out _ _ (by go_simp) (by go_simp)).mono ?_
        rintro e w2 ⟨rfl, hE2⟩
        have hb4 := row4_cells (hE2.blk ((heap_alloc_old _ _ (by simp)).trans (heap_alloc_new wr _)))
        replace hE := mkHid (hE.out.trans ((((Ext.refl wr).al _).al _).trans hE2))
        clear hE2 h1 h2 h3 h4
        by_cases g2 : 2048 < n2
        · rw [decide_eq_true g2] at lg2
          have hr1 : r = true := hrt.out (by rw [hfx.out]; omega)
          subst hr1
          go_wp2_with fail
          refine (lg2.out _ _ (by go_simp) (by go_simp)).mono ?_
          rintro e w3 ⟨rfl, hE2⟩
          replace hE := mkHid (hE.out.trans (((Ext.refl w2).al _).trans hE2))
          clear hE2 hb4
          go_wp2_with fail
          go_ret
          exact ⟨rfl, hwo ▸ hE.out⟩
        · rw [decide_eq_false g2] at lg2
          go_wp2_with fail
          refine (lg2.out _ _ (by go_simp) (by go_simp)).mono ?_
          rintro e w3 ⟨rfl, hE2⟩
          replace hE := mkHid (hE.out.trans (((Ext.refl w2).al _).trans hE2))
          clear hE2 hb4
          go_wp2_with fail
          go_roundw
          case rel =>
            refine ⟨k + 1, by omega, by go_num, hE.out, fun j hjk => ?_⟩
            rcases Nat.lt_or_ge j k with h | h
            · exact hj.out j h
            · obtain rfl : j = k := by omega
              rw [hfx.out]
              omega
          case measure => simp [intOf] <;> omega
    · obtain rfl : n = k := by omega
      have hf : r = false := by
        rw [hr.out, List.any_eq_false]
        intro x hx
        obtain ⟨j, hjl, rfl⟩ := List.getElem_of_mem hx
        have := hj j (by rw [hnn.out]; exact hjl)
        rw [List.getD_eq_getElem?_getD, List.getElem?_eq_getElem hjl] at this
        simpa using this
      subst hf
      replace hE := mkHid hE
      replace hj := mkHid hj
      go_wp2_with fail
      go_ret
      exact ⟨rfl, hwo ▸ hE.out⟩
theorem answer_f (g cap : Nat) (os : List Rat) (w : World) (hn : os.length ≤ 4294967296) (hb : ∀ x ∈ os, nf x ≤ 4294967296) (h : LR w g os) :
    Calls Try.prog 36 #[.slice (some ⟨g, 0, none⟩) os.length cap] w fun e w' => e = .returned (.int .i64 (if (os.any fun x => decide (2048 < nf x)) = true then 4 else 0)) ∧ Ext w w' := by
  have hl := mkHid (longs_f g cap os w hn hb h)
  clear h hb hn
  generalize (os.any fun x => decide (2048 < nf x)) = r at *
  generalize os.length = n at *
  cases r
  · rw [if_neg (by decide)]
    go_enter Try.func36, Try.ntmps36
    go_wp2_with fail
    refine hl.out.mono ?_
    rintro e w' ⟨rfl, hE⟩
    go_wp2_with fail
    go_ret
    exact ⟨rfl, hE⟩
  · rw [if_pos rfl]
    go_enter Try.func36, Try.ntmps36
    go_wp2_with fail
    refine hl.out.mono ?_
    rintro e w' ⟨rfl, hE⟩
    go_wp2_with fail
    go_ret
    exact ⟨rfl, hE⟩
end Go.Proofs.Ytpmfohhpaoagfaa
namespace Go.Proofs.Ytpmfohhpaoagfaa
open Go Go.RowKit Go.Proofs
theorem results_row_tmp {P : Program} {fn : Func} {p q : Tmp} {ty : TypeId} (h : fn.results = #[.cell p ty, .tmp q]) (tmps : Array Value) (w : World) (g : Nat) (t : TypeId) (cs : Array Value) (u : Value) (d : TypeDesc)
    (hp : tmps.getD p undef = .pointer (some ⟨g, 0, none⟩)) (hq : tmps.getD q undef = u) (hg : w.heap[g]? = some (.cells cs t (0, 0)))
    (hu : P.underlying ty = some d) (hd : (match d with | .struct _ | .array _ _ => true | _ => false) = true) (hi : (P.info? ty).map (·.size) = some cs.size) :
    (results fn tmps).run P w = .ok (.tuple #[.agg cs, u]) w := by
  have hp' : tmps[p]?.getD undef = .pointer (some ⟨g, 0, none⟩) := by simpa using hp
  have hq' : tmps[q]?.getD undef = u := by simpa using hq
  simp [results, h, hp', hq', asAddr, run_loadVar_row w g t ty cs (0, 0) d hg hu hd hi]
theorem okL_nil : OkL [] := by intro x hx; simp at hx
theorem any_zero (w : World) : AnyF w (.agg #[.bool false, .slice none 0 0, .bool false, .slice none 0 0]) none :=
  ⟨false, [], false, [], ⟨none, 0, none, 0, rfl, by simp, by simp, ⟨none, 0, rfl, okL_nil, Nat.le_refl _, row_nil w⟩, ⟨none, 0, rfl, okL_nil, Nat.le_refl _, row_nil w⟩⟩, by unfold ratF okF; simp [sg, val]⟩
theorem lr_one {w : World} {g : Nat} {b1 b2 : Bool} {a1 a2 : Option Addr} {n1 c1 n2 c2 : Nat} {x : Rat} {T : Nat} (hg : w.heap[g]? = some (.cells #[.bool b1, .slice a1 n1 c1, .bool b2, .slice a2 n2 c2] T (0, 0)))
    (h : FracR w (.agg #[.bool b1, .slice a1 n1 c1, .bool b2, .slice a2 n2 c2]) x) : LR w g [x] := by
  intro k hk
  obtain rfl : k = 0 := by simpa using hk
  have := row4_cells hg
  exact ⟨_, _, _, _, _, _, _, _, this.1, this.2.1, this.2.2.1, this.2.2.2, h⟩
/-- What is handed out of a number reckoned: the number, or nothing where it is too long. -/
def capF (x : Rat) : Option Rat := if nf x ≤ 2048 then some x else none
def capE (x : Rat) : Int := if nf x ≤ 2048 then 0 else 4
set_option maxHeartbeats 1600000 in
theorem answered_f (v : Value) (x : Rat) (w : World) (hx : nf x ≤ 268435456) (h : FracR w v x) :
    Calls Try.prog 72 #[v] w fun e w' => ∃ v', e = .returned (.tuple #[v', .int .i64 (capE x)]) ∧ Ext w w' ∧ AnyF w' v' (capF x) := by
  have H := h
  obtain ⟨p1, q1, r1, s1, p2, q2, r2, s2, rfl⟩ := h.shape
  have ha := mkHid (fun w gg (hg : LR w gg [x]) => answer_f gg 1 [x] w (by simp) (fun y hy => by simp at hy; subst hy; omega) hg)
  have hc := mkHid (fun w h => copy_f (.agg #[.bool p1, .slice q1 r1 s1, .bool p2, .slice q2 r2 s2]) x w hx h)
  simp only [List.any_cons, List.any_nil, Bool.or_false, decide_eq_true_eq] at ha
  obtain ⟨w3, hw3⟩ : ∃ w3, w3 = ((w.alloc (.cells #[.bool p1, .slice q1 r1 s1, .bool p2, .slice q2 r2 s2] 26)).alloc (.cells #[.bool false, .slice none 0 0, .bool false, .slice none 0 0] 26)).alloc (.cells #[.bool p1, .slice q1 r1 s1, .bool p2, .slice q2 r2 s2] 26) := ⟨_, rfl⟩
  have hE : Ext w w3 := by rw [hw3]; exact (((Ext.refl w).al _).al _).al _
  have z0 : w3.heap[w.heap.size]? = some (.cells #[.bool p1, .slice q1 r1 s1, .bool p2, .slice q2 r2 s2] 26 (0, 0)) := by rw [hw3]; exact (heap_alloc_old _ _ (by simp; omega)).trans ((heap_alloc_old _ _ (by simp)).trans (heap_alloc_new _ _))
  have z1 : w3.heap[w.heap.size + 1]? = some (.cells #[.bool false, .slice none 0 0, .bool false, .slice none 0 0] 26 (0, 0)) := by rw [hw3]; exact (heap_alloc_old _ _ (by simp)).trans (heap_at _ _ _ (by simp))
  have z2 : w3.heap[w.heap.size + 1 + 1]? = some (.cells #[.bool p1, .slice q1 r1 s1, .bool p2, .slice q2 r2 s2] 26 (0, 0)) := by rw [hw3]; exact heap_at _ _ _ (by simp)
  replace H := H.ext hE
  replace ha := mkHid (ha.out w3 _ (lr_one z2 H))
  rw [List.length_singleton] at ha
  unfold capE capF
  replace H := mkHid H
  replace hE := mkHid hE
  replace z0 := mkHid z0
  replace z1 := mkHid z1
  clear h z2
  by_cases hl : nf x ≤ 2048
  · rw [if_pos hl, if_pos hl]
    rw [if_neg (show ¬ 2048 < nf x by omega)] at ha
    go_enter Try.func72, Try.ntmps72
    go_wp2_with fail
    rw [← hw3]
    clear hw3
    refine ha.out.mono ?_
    rintro e w4 ⟨rfl, hE4⟩
    have b0 := row4_cells (hE4.blk z0.out)
    replace z1 := mkHid (hE4.blk z1.out)
    have hz4 : w.heap.size + 2 ≤ w4.heap.size := (Array.getElem?_eq_some_iff.1 z1.out).1
    replace H := mkHid (H.out.ext hE4)
    replace hE := mkHid (hE.out.trans hE4)
    clear hE4 ha
    go_wp2_with fail
    refine (hc.out w4 H.out).mono ?_
    rintro e w5 ⟨v, rfl, hE5, hv⟩
    obtain ⟨x1, x2, x3, x4, y1, y2, y3, y4, rfl⟩ := hv.r.shape
    replace z1 := hE5.blk z1.out
    have hsz4 : w.heap.size + 2 ≤ w4.heap.size := hz4
    have FR := (hv.row (g := w.heap.size + 1) (by omega) #[.bool x1, .slice x2 x3 x4, .bool y1, .slice y2 y3 y4]).r.any (by omega)
    rw [if_pos hl] at FR
    have FE := (hE.out.trans hE5).row (show w.heap.size ≤ w.heap.size + 1 by omega) #[.bool x1, .slice x2 x3 x4, .bool y1, .slice y2 y3 y4]
    replace FR := mkHid FR
    replace FE := mkHid FE
    clear hv hE5 b0
    go_wp2_with (refine wpList_store_row rfl 26 (.tmp 2) (.tmp 13) rfl (w.heap.size + 1) #[.bool x1, .slice x2 x3 x4, .bool y1, .slice y2 y3 y4] rfl rfl 26 _ z1 (by kernel_rfl) rfl (by kernel_rfl) ?_)
    exact bodyPost_ret (results_row_tmp rfl _ _ (w.heap.size + 1) 26 #[.bool x1, .slice x2 x3 x4, .bool y1, .slice y2 y3 y4] _ _ rfl rfl (setRow_heap _ _ _ _ _ _ z1) Try.underlying26 rfl (by kernel_rfl)) rfl ⟨_, rfl, FE.out, FR.out⟩
  · rw [if_neg hl, if_neg hl]
    rw [if_pos (show 2048 < nf x by omega)] at ha
    go_enter Try.func72, Try.ntmps72
    go_wp2_with fail
    rw [← hw3]
    clear hw3
    refine ha.out.mono ?_
    rintro e w4 ⟨rfl, hE4⟩
    replace z1 := hE4.blk z1.out
    have FR := any_zero (w4.setRow (w.heap.size + 1) #[.bool false, .slice none 0 0, .bool false, .slice none 0 0])
    have FE := (hE.out.trans hE4).row (show w.heap.size ≤ w.heap.size + 1 by omega) #[.bool false, .slice none 0 0, .bool false, .slice none 0 0]
    replace FR := mkHid FR
    replace FE := mkHid FE
    clear hE4 ha
    go_wp2_with (refine wpList_store_row rfl 26 (.tmp 2) (.tmp 10) rfl (w.heap.size + 1) #[.bool false, .slice none 0 0, .bool false, .slice none 0 0] rfl rfl 26 _ z1 (by kernel_rfl) rfl (by kernel_rfl) ?_)
    exact bodyPost_ret (results_row_tmp rfl _ _ (w.heap.size + 1) 26 #[.bool false, .slice none 0 0, .bool false, .slice none 0 0] _ _ rfl rfl (setRow_heap _ _ _ _ _ _ z1) Try.underlying26 rfl (by kernel_rfl)) rfl ⟨_, rfl, FE.out, FR.out⟩
end Go.Proofs.Ytpmfohhpaoagfaa
namespace Go.Proofs.Ytpmfohhpaoagfaa
open Go Go.RowKit Go.Proofs
/-- No number among the cells. -/
def flatV : Value → Bool
  | .int _ _ => false
  | _ => true
theorem Row.flat {w : World} {a : Option Addr} {l : List Nat} {g T : Nat} {fr : Nat × Nat} {old : Array Value} (h : Row w a (limV l)) (hg : w.heap[g]? = some (.cells old T fr)) (ho : old.all flatV = true) (cs : Array Value) : Row (w.setRow g cs) a (limV l) := by
  obtain ⟨b, off, h1, h2⟩ := h
  refine ⟨b, off, h1, fun j hj => ?_⟩
  have hc := h2 j hj
  have hne : b ≠ g := by
    rintro rfl
    rw [limV_getD _ _ (by rw [limV_length] at hj; exact hj)] at hc
    have hc2 : old[off + j]? = some (.int .u32 ((l.getD j 0 : Nat) : Int)) := by
      simp only [World.cell?, hg] at hc
      simpa using hc
    obtain ⟨hlt, he⟩ := Array.getElem?_eq_some_iff.1 hc2
    have := Array.all_eq_true.1 ho _ hlt
    rw [he] at this
    cases this
  have : ((w.setRow g cs).heap[b]?) = w.heap[b]? := setRow_other _ _ _ _ hne
  simp only [World.cell?, this] at hc ⊢
  exact hc
theorem AnyF.flat {w : World} {v : Value} {o : Option Rat} {g T : Nat} {fr : Nat × Nat} {old : Array Value} (h : AnyF w v o) (hg : w.heap[g]? = some (.cells old T fr)) (ho : old.all flatV = true) (cs : Array Value) : AnyF (w.setRow g cs) v o := by
  obtain ⟨b1, l1, b2, l2, ⟨a1, c1, a2, c2, h1, h2, h3, ⟨x1, y1, e1, f1, g1, r1⟩, ⟨x2, y2, e2, f2, g2, r2⟩⟩, h6⟩ := h
  exact ⟨b1, l1, b2, l2, ⟨a1, c1, a2, c2, h1, h2, h3, ⟨x1, y1, e1, f1, g1, r1.flat hg ho cs⟩, ⟨x2, y2, e2, f2, g2, r2.flat hg ho cs⟩⟩, h6⟩
theorem IntR.flat {w : World} {v : Value} {x : Int} {g T : Nat} {fr : Nat × Nat} {old : Array Value} (h : IntR w v x) (hg : w.heap[g]? = some (.cells old T fr)) (ho : old.all flatV = true) (cs : Array Value) : IntR (w.setRow g cs) v x := by
  obtain ⟨s, h1, a, c, h2, h3, r⟩ := h
  exact ⟨s, h1, a, c, h2, h3, r.flat hg ho cs⟩
theorem FracR.flat {w : World} {v : Value} {q : Rat} {g T : Nat} {fr : Nat × Nat} {old : Array Value} (h : FracR w v q) (hg : w.heap[g]? = some (.cells old T fr)) (ho : old.all flatV = true) (cs : Array Value) : FracR (w.setRow g cs) v q := by
  obtain ⟨b1, a1, n1, c1, b2, a2, n2, c2, h1, h2, h3⟩ := h
  exact ⟨b1, a1, n1, c1, b2, a2, n2, c2, h1, h2.flat hg ho cs, h3.flat hg ho cs⟩
set_option maxHeartbeats 1600000 in
theorem alw_times (g : Nat) (vx vy : Value) (x y z : Rat) (w : World) (hc : w.cell? ⟨g, 0, none⟩ = some (.func (.func 39) #[] #[])) (hx : FracR w vx x) (hy : FracR w vy y)
    (hF : ∀ W, FracR W vx x → FracR W vy y → Calls Try.prog 39 #[vx, vy] W fun e w' => ∃ v, e = .returned v ∧ Ext W w' ∧ FracO w' W.heap.size v z) :
    Calls Try.prog 69 #[vx, vy, .pointer (some ⟨g, 0, none⟩)] w fun e w' => ∃ v, e = .returned (.tuple #[v, .bool true]) ∧ Ext w w' ∧ FracR w' v z := by
  have Hx := mkHid hx
  have Hy := mkHid hy
  obtain ⟨p1, q1, r1, s1, p2, q2, r2, s2, rfl⟩ := hx.shape
  obtain ⟨t1, u1, f1, g1, t2, u2, f2, g2, rfl⟩ := hy.shape
  replace hF := mkHid hF
  obtain ⟨w3, hw3⟩ : ∃ w3, w3 = ((w.alloc (.cells #[.bool p1, .slice q1 r1 s1, .bool p2, .slice q2 r2 s2] 26)).alloc (.cells #[.bool t1, .slice u1 f1 g1, .bool t2, .slice u2 f2 g2] 26)).alloc (.cells #[.bool false, .slice none 0 0, .bool false, .slice none 0 0] 26) := ⟨_, rfl⟩
  have hE : Ext w w3 := by rw [hw3]; exact (((Ext.refl w).al _).al _).al _
  have hB : w3.heap[w.heap.size + 1 + 1]? = some (.cells #[.bool false, .slice none 0 0, .bool false, .slice none 0 0] 26 (0, 0)) := by rw [hw3]; exact heap_at _ _ _ (by simp)
  have hc3 : (((w.alloc (.cells #[.bool p1, .slice q1 r1 s1, .bool p2, .slice q2 r2 s2] 26)).alloc (.cells #[.bool t1, .slice u1 f1 g1, .bool t2, .slice u2 f2 g2] 26)).alloc (.cells #[.bool false, .slice none 0 0, .bool false, .slice none 0 0] 26)).cell? ⟨g, 0, none⟩ = some (.func (.func 39) #[] #[]) := ((((Ext.refl w).al _).al _).al _).cell hc
  have hF3 := hF.out w3 (Hx.out.ext hE) (Hy.out.ext hE)
  replace hB := mkHid hB
  replace hE := mkHid hE
  replace hF3 := mkHid hF3
  replace hw3 := mkHid hw3
  clear hc hx hy Hx Hy hF
  go_enter Try.func69, Try.ntmps69
  go_wp2_with fail
  rw [← hw3.out]
  clear hw3 hc3
  refine hF3.out.mono ?_
  rintro e w4 ⟨v, rfl, hE4, hv⟩
  obtain ⟨x1, x2, x3, x4, y1, y2, y3, y4, rfl⟩ := hv.r.shape
  replace hB := hE4.blk hB.out
  have hB' := hB
  have FR := (hv.row_type hB (by decide) #[.bool x1, .slice x2 x3 x4, .bool y1, .slice y2 y3 y4]).r
  have FE := (hE.out.trans hE4).row (show w.heap.size ≤ w.heap.size + 1 + 1 by omega) #[.bool x1, .slice x2 x3 x4, .bool y1, .slice y2 y3 y4]
  replace FR := mkHid FR
  replace FE := mkHid FE
  clear hv hE4 hF3 hE hB'
  go_wp2_with (refine wpList_store_row rfl 26 (.tmp 5) (.tmp 10) rfl (w.heap.size + 1 + 1) #[.bool x1, .slice x2 x3 x4, .bool y1, .slice y2 y3 y4] rfl rfl 26 _ hB (by kernel_rfl) rfl (by kernel_rfl) ?_)
  exact bodyPost_ret (results_row_tmp rfl _ _ (w.heap.size + 1 + 1) 26 #[.bool x1, .slice x2 x3 x4, .bool y1, .slice y2 y3 y4] _ _ rfl rfl (setRow_heap _ _ _ _ _ _ hB) Try.underlying26 rfl (by kernel_rfl)) rfl ⟨_, rfl, FE.out, FR.out⟩
set_option maxHeartbeats 1600000 in
theorem alw_minus (g : Nat) (vx vy : Value) (x y z : Rat) (w : World) (hc : w.cell? ⟨g, 0, none⟩ = some (.func (.func 41) #[] #[])) (hx : FracR w vx x) (hy : FracR w vy y)
    (hF : ∀ W, FracR W vx x → FracR W vy y → Calls Try.prog 41 #[vx, vy] W fun e w' => ∃ v, e = .returned v ∧ Ext W w' ∧ FracO w' W.heap.size v z) :
    Calls Try.prog 69 #[vx, vy, .pointer (some ⟨g, 0, none⟩)] w fun e w' => ∃ v, e = .returned (.tuple #[v, .bool true]) ∧ Ext w w' ∧ FracR w' v z := by
  have Hx := mkHid hx
  have Hy := mkHid hy
  obtain ⟨p1, q1, r1, s1, p2, q2, r2, s2, rfl⟩ := hx.shape
  obtain ⟨t1, u1, f1, g1, t2, u2, f2, g2, rfl⟩ := hy.shape
  replace hF := mkHid hF
  obtain ⟨w3, hw3⟩ : ∃ w3, w3 = ((w.alloc (.cells #[.bool p1, .slice q1 r1 s1, .bool p2, .slice q2 r2 s2] 26)).alloc (.cells #[.bool t1, .slice u1 f1 g1, .bool t2, .slice u2 f2 g2] 26)).alloc (.cells #[.bool false, .slice none 0 0, .bool false, .slice none 0 0] 26) := ⟨_, rfl⟩
  have hE : Ext w w3 := by rw [hw3]; exact (((Ext.refl w).al _).al _).al _
  have hB : w3.heap[w.heap.size + 1 + 1]? = some (.cells #[.bool false, .slice none 0 0, .bool false, .slice none 0 0] 26 (0, 0)) := by rw [hw3]; exact heap_at _ _ _ (by simp)
  have hc3 : (((w.alloc (.cells #[.bool p1, .slice q1 r1 s1, .bool p2, .slice q2 r2 s2] 26)).alloc (.cells #[.bool t1, .slice u1 f1 g1, .bool t2, .slice u2 f2 g2] 26)).alloc (.cells #[.bool false, .slice none 0 0, .bool false, .slice none 0 0] 26)).cell? ⟨g, 0, none⟩ = some (.func (.func 41) #[] #[]) := ((((Ext.refl w).al _).al _).al _).cell hc
  have hF3 := hF.out w3 (Hx.out.ext hE) (Hy.out.ext hE)
  replace hB := mkHid hB
  replace hE := mkHid hE
  replace hF3 := mkHid hF3
  replace hw3 := mkHid hw3
  clear hc hx hy Hx Hy hF
  go_enter Try.func69, Try.ntmps69
  go_wp2_with fail
  rw [← hw3.out]
  clear hw3 hc3
  refine hF3.out.mono ?_
  rintro e w4 ⟨v, rfl, hE4, hv⟩
  obtain ⟨x1, x2, x3, x4, y1, y2, y3, y4, rfl⟩ := hv.r.shape
  replace hB := hE4.blk hB.out
  have hB' := hB
  have FR := (hv.row_type hB (by decide) #[.bool x1, .slice x2 x3 x4, .bool y1, .slice y2 y3 y4]).r
  have FE := (hE.out.trans hE4).row (show w.heap.size ≤ w.heap.size + 1 + 1 by omega) #[.bool x1, .slice x2 x3 x4, .bool y1, .slice y2 y3 y4]
  replace FR := mkHid FR
  replace FE := mkHid FE
  clear hv hE4 hF3 hE hB'
  go_wp2_with (refine wpList_store_row rfl 26 (.tmp 5) (.tmp 10) rfl (w.heap.size + 1 + 1) #[.bool x1, .slice x2 x3 x4, .bool y1, .slice y2 y3 y4] rfl rfl 26 _ hB (by kernel_rfl) rfl (by kernel_rfl) ?_)
  exact bodyPost_ret (results_row_tmp rfl _ _ (w.heap.size + 1 + 1) 26 #[.bool x1, .slice x2 x3 x4, .bool y1, .slice y2 y3 y4] _ _ rfl rfl (setRow_heap _ _ _ _ _ _ hB) Try.underlying26 rfl (by kernel_rfl)) rfl ⟨_, rfl, FE.out, FR.out⟩
theorem lf_two {w : World} {g : Nat} {b1 b2 b3 b4 : Bool} {a1 a2 a3 a4 : Option Addr} {n1 c1 n2 c2 n3 c3 n4 c4 : Nat} {o1 o2 : Option Rat} {T : Nat}
    (hg : w.heap[g]? = some (.cells #[.bool b1, .slice a1 n1 c1, .bool b2, .slice a2 n2 c2, .bool b3, .slice a3 n3 c3, .bool b4, .slice a4 n4 c4] T (0, 0)))
    (h : AnyF w (.agg #[.bool b1, .slice a1 n1 c1, .bool b2, .slice a2 n2 c2]) o1) (h' : AnyF w (.agg #[.bool b3, .slice a3 n3 c3, .bool b4, .slice a4 n4 c4]) o2) : LF w g [o1, o2] := by
  intro k hk
  have hk2 : k = 0 ∨ k = 1 := by simp at hk; omega
  rcases hk2 with rfl | rfl
  · exact ⟨_, _, _, _, _, _, _, _, by simp [World.cell?, hg], by simp [World.cell?, hg], by simp [World.cell?, hg], by simp [World.cell?, hg], h⟩
  · exact ⟨_, _, _, _, _, _, _, _, by simp [World.cell?, hg], by simp [World.cell?, hg], by simp [World.cell?, hg], by simp [World.cell?, hg], h'⟩
/-- What Mul, Sub answer. -/
def opO (f : Rat → Rat → Rat) (o1 o2 : Option Rat) : Option Rat := match o1, o2 with | some x, some y => capF (f x y) | _, _ => none
def opE (f : Rat → Rat → Rat) (o1 o2 : Option Rat) : Int := match o1, o2 with | some x, some y => capE (f x y) | _, _ => 1
set_option maxHeartbeats 3200000 in
theorem do_f (f : Rat → Rat → Rat) (g : Nat) (u : Value) (vx vy : Value) (o1 o2 : Option Rat) (w : World) (hc : w.cell? ⟨g, 0, none⟩ = some u) (hx : AnyF w vx o1) (hy : AnyF w vy o2)
    (hl : ∀ x y, nf x ≤ 2048 → nf y ≤ 2048 → nf (f x y) ≤ 268435456)
    (hF : ∀ W x y, W.cell? ⟨g, 0, none⟩ = some u → nf x ≤ 2048 → nf y ≤ 2048 → FracR W vx x → FracR W vy y → Calls Try.prog 69 #[vx, vy, .pointer (some ⟨g, 0, none⟩)] W fun e w' => ∃ v, e = .returned (.tuple #[v, .bool true]) ∧ Ext W w' ∧ FracR w' v (f x y)) :
    Calls Try.prog 40 #[.func (.func 69) #[] #[.pointer (some ⟨g, 0, none⟩)], vx, vy] w fun e w' => ∃ v, e = .returned (.tuple #[v, .int .i64 (opE f o1 o2)]) ∧ Ext w w' ∧ AnyF w' v (opO f o1 o2) := by
  have Hx := hx
  have Hy := hy
  obtain ⟨p1, q1, r1, s1, p2, q2, r2, s2, rfl⟩ := hx.shape
  obtain ⟨t1, u1, f1, g1, t2, u2, f2, g2, rfl⟩ := hy.shape
  have hck := fun w gg (h : LF w gg [o1, o2]) => checks_f gg 2 [o1, o2] w (by simp) h
  obtain ⟨w3, hw3⟩ : ∃ w3, w3 = (((w.alloc (.cells #[.bool p1, .slice q1 r1 s1, .bool p2, .slice q2 r2 s2] 26)).alloc (.cells #[.bool t1, .slice u1 f1 g1, .bool t2, .slice u2 f2 g2] 26)).alloc (.cells #[.bool false, .slice none 0 0, .bool false, .slice none 0 0] 26)).alloc (.cells #[.bool p1, .slice q1 r1 s1, .bool p2, .slice q2 r2 s2, .bool t1, .slice u1 f1 g1, .bool t2, .slice u2 f2 g2] 26) := ⟨_, rfl⟩
  have hE : Ext w w3 := by rw [hw3]; exact ((((Ext.refl w).al _).al _).al _).al _
  have z0 : w3.heap[w.heap.size]? = some (.cells #[.bool p1, .slice q1 r1 s1, .bool p2, .slice q2 r2 s2] 26 (0, 0)) := by rw [hw3]; exact (heap_alloc_old _ _ (by simp <;> omega)).trans ((heap_alloc_old _ _ (by simp <;> omega)).trans ((heap_alloc_old _ _ (by simp <;> omega)).trans (heap_alloc_new _ _)))
  have z1 : w3.heap[w.heap.size + 1]? = some (.cells #[.bool t1, .slice u1 f1 g1, .bool t2, .slice u2 f2 g2] 26 (0, 0)) := by rw [hw3]; exact (heap_alloc_old _ _ (by simp <;> omega)).trans ((heap_alloc_old _ _ (by simp <;> omega)).trans (heap_at _ _ _ (by simp)))
  have z2 : w3.heap[w.heap.size + 1 + 1]? = some (.cells #[.bool false, .slice none 0 0, .bool false, .slice none 0 0] 26 (0, 0)) := by rw [hw3]; exact (heap_alloc_old _ _ (by simp)).trans (heap_at _ _ _ (by simp))
  have z3 : w3.heap[w.heap.size + 1 + 1 + 1]? = some (.cells #[.bool p1, .slice q1 r1 s1, .bool p2, .slice q2 r2 s2, .bool t1, .slice u1 f1 g1, .bool t2, .slice u2 f2 g2] 26 (0, 0)) := by rw [hw3]; exact heap_at _ _ _ (by simp)
  replace hx := hx.ext hE
  replace hy := hy.ext hE
  replace hc := hE.cell hc
  replace hck := hck w3 _ (lf_two z3 hx hy)
  rw [show [o1, o2].length = 2 from rfl, show [o1, o2].all Option.isSome = (o1.isSome && o2.isSome) by simp] at hck
  clear z3 Hx Hy
  replace z0 := mkHid z0
  replace z1 := mkHid z1
  replace z2 := mkHid z2
  replace hE := mkHid hE
  replace hF := mkHid hF
  replace hl := mkHid hl
  replace hw3 := mkHid hw3
  replace hx := mkHid hx
  replace hy := mkHid hy
  replace hc := mkHid hc
  by_cases hs : o1.isSome = true ∧ o2.isSome = true
  · obtain ⟨s1', s2'⟩ := hs
    obtain ⟨x, rfl⟩ := Option.isSome_iff_exists.1 s1'
    obtain ⟨y, rfl⟩ := Option.isSome_iff_exists.1 s2'
    rw [show (some x).isSome = true from rfl, show (some y).isSome = true from rfl] at hck
    clear s1' s2'
    simp only [opE, opO]
    obtain ⟨fx, nx⟩ := hx.out.frac
    obtain ⟨fy, ny⟩ := hy.out.frac
    have hlz := hl.out x y nx ny
    have hF2 := fun W h0 h1 h2 => hF.out W x y h0 nx ny h1 h2
    have han := fun v w h => answered_f v (f x y) w hlz h
    generalize f x y = z at *
    replace hck := mkHid hck
    replace hF2 := mkHid hF2
    replace han := mkHid han
    replace fx := mkHid fx
    replace fy := mkHid fy
    clear hlz nx ny hl hF hx hy
    go_enter Try.func40, Try.ntmps40
    go_wp2_with fail
    rw [← hw3.out]
    clear hw3
    refine hck.out.mono ?_
    rintro e w4 ⟨rfl, hE4⟩
    have b0 := row4_cells (hE4.blk z0.out)
    have b1 := row4_cells (hE4.blk z1.out)
    replace z2 := mkHid (hE4.blk z2.out)
    replace hF2 := mkHid (hF2.out w4 (hE4.cell hc.out) (fx.out.ext hE4) (fy.out.ext hE4))
    replace hE := mkHid (hE.out.trans hE4)
    clear hE4 hck z0 z1 hc fx fy
    go_wp2_with fail
    refine hF2.out.mono ?_
    rintro e w5 ⟨v, rfl, hE5, hv⟩
    obtain ⟨x1, x2, x3, x4, y1, y2, y3, y4, rfl⟩ := hv.shape
    replace z2 := mkHid (hE5.blk z2.out)
    replace hE := mkHid (hE.out.trans hE5)
    replace hv := mkHid hv
    clear hE5 b0 b1 hF2
    go_wp2_with fail
    refine (han.out _ _ (hv.out.ext ((Ext.refl w5).al _))).mono ?_
    rintro e w6 ⟨v, rfl, hE6, hv6⟩
    obtain ⟨i1, i2, i3, i4, j1, j2, j3, j4, rfl⟩ := hv6.shape
    have hE56 := ((Ext.refl w5).al _).trans hE6
    replace z2 := hE56.blk z2.out
    have FE0 := hE.out.trans hE56
    have FE := FE0.row (show w.heap.size ≤ w.heap.size + 1 + 1 by omega) #[.bool i1, .slice i2 i3 i4, .bool j1, .slice j2 j3 j4]
    have FR := hv6.flat z2 (by simp [flatV]) #[.bool i1, .slice i2 i3 i4, .bool j1, .slice j2 j3 j4]
    replace FR := mkHid FR
    replace FE := mkHid FE
    clear hv6 hE6 hE56 FE0 hE hv han
    go_wp2_with (refine wpList_store_row rfl 26 (.tmp 6) (.tmp 28) rfl (w.heap.size + 1 + 1) #[.bool i1, .slice i2 i3 i4, .bool j1, .slice j2 j3 j4] rfl rfl 26 _ z2 (by kernel_rfl) rfl (by kernel_rfl) ?_)
    exact bodyPost_ret (results_row_tmp rfl _ _ (w.heap.size + 1 + 1) 26 #[.bool i1, .slice i2 i3 i4, .bool j1, .slice j2 j3 j4] _ _ rfl rfl (setRow_heap _ _ _ _ _ _ z2) Try.underlying26 rfl (by kernel_rfl)) rfl ⟨_, rfl, FE.out, FR.out⟩
  · have e1 : (o1.isSome && o2.isSome) = false := by
      cases o1 <;> cases o2 <;> simp_all
    have e2 : opO f o1 o2 = none := by cases o1 <;> cases o2 <;> simp_all [opO]
    have e3 : opE f o1 o2 = 1 := by cases o1 <;> cases o2 <;> simp_all [opE]
    rw [e1] at hck
    rw [e2, e3]
    clear e1 e2 e3 hs
    replace hck := mkHid hck
    go_enter Try.func40, Try.ntmps40
    go_wp2_with fail
    rw [← hw3.out]
    clear hw3
    refine hck.out.mono ?_
    rintro e w4 ⟨rfl, hE4⟩
    replace z2 := hE4.blk z2.out
    have FR := any_zero (w4.setRow (w.heap.size + 1 + 1) #[.bool false, .slice none 0 0, .bool false, .slice none 0 0])
    have FE := (hE.out.trans hE4).row (show w.heap.size ≤ w.heap.size + 1 + 1 by omega) #[.bool false, .slice none 0 0, .bool false, .slice none 0 0]
    replace FR := mkHid FR
    replace FE := mkHid FE
    clear hE4 hck
    go_wp2_with (refine wpList_store_row rfl 26 (.tmp 6) (.tmp 15) rfl (w.heap.size + 1 + 1) #[.bool false, .slice none 0 0, .bool false, .slice none 0 0] rfl rfl 26 _ z2 (by kernel_rfl) rfl (by kernel_rfl) ?_)
    exact bodyPost_ret (results_row_tmp rfl _ _ (w.heap.size + 1 + 1) 26 #[.bool false, .slice none 0 0, .bool false, .slice none 0 0] _ _ rfl rfl (setRow_heap _ _ _ _ _ _ z2) Try.underlying26 rfl (by kernel_rfl)) rfl ⟨_, rfl, FE.out, FR.out⟩
end Go.Proofs.Ytpmfohhpaoagfaa
