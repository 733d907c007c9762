/-
  ratio: turned, and what a fraction in memory is. ratio: Lowest. ratio: Times, Plus, Minus, Cmp, Turned, Copy: printed by tools/gen_ratio.py. ratio: Turned, Copy: printed by tools/gen_ratio.py. ratio: Small, One, Nought, Sign, Check. ratio: Check. ratio: Checks, Long, Answer. frac: answered, Make, Of. frac: always, do, Mul, Sub. frac: Mul, Sub.
-/
import Derived.Test.YtjelnmokcpoofaaGreatDoorKAD
namespace Go.Proofs.YtjelnmokcpoofaaGreatDoor
set_option maxRecDepth 100000
open Go Go.RowKit Go.Proofs
/-- A fraction that reads so. -/
def FracR (w : World) (v : Value) (q : Rat) : Prop :=
  ∃ b1 a1 n1 c1 b2 a2 n2 c2, v = .agg #[.bool b1, .slice a1 n1 c1, .bool b2, .slice a2 n2 c2] ∧ IntR w (.agg #[.bool b1, .slice a1 n1 c1]) q.num ∧ IntR w (.agg #[.bool b2, .slice a2 n2 c2]) (q.den : Int)
def FracO (w : World) (base : Nat) (v : Value) (q : Rat) : Prop :=
  ∃ b1 a1 n1 c1 b2 a2 n2 c2, v = .agg #[.bool b1, .slice a1 n1 c1, .bool b2, .slice a2 n2 c2] ∧ IntO w base (.agg #[.bool b1, .slice a1 n1 c1]) q.num ∧ IntO w base (.agg #[.bool b2, .slice a2 n2 c2]) (q.den : Int)
theorem FracO.r {w : World} {base : Nat} {v : Value} {q : Rat} (h : FracO w base v q) : FracR w v q := by
  obtain ⟨b1, a1, n1, c1, b2, a2, n2, c2, h1, h2, h3⟩ := h
  exact ⟨b1, a1, n1, c1, b2, a2, n2, c2, h1, h2.r, h3.r⟩
theorem FracR.ext {w w' : World} {v : Value} {q : Rat} (h : FracR w v q) (e : Ext w w') : FracR w' v q := by
  obtain ⟨b1, a1, n1, c1, b2, a2, n2, c2, h1, h2, h3⟩ := h
  exact ⟨b1, a1, n1, c1, b2, a2, n2, c2, h1, h2.ext e, h3.ext e⟩
theorem FracO.ext {w w' : World} {base : Nat} {v : Value} {q : Rat} (h : FracO w base v q) (e : Ext w w') : FracO w' base v q := by
  obtain ⟨b1, a1, n1, c1, b2, a2, n2, c2, h1, h2, h3⟩ := h
  exact ⟨b1, a1, n1, c1, b2, a2, n2, c2, h1, h2.ext e, h3.ext e⟩
theorem FracO.mono {w : World} {base base' : Nat} {v : Value} {q : Rat} (h : FracO w base v q) (e : base' ≤ base) : FracO w base' v q := by
  obtain ⟨b1, a1, n1, c1, b2, a2, n2, c2, h1, h2, h3⟩ := h
  exact ⟨b1, a1, n1, c1, b2, a2, n2, c2, h1, h2.mono e, h3.mono e⟩
theorem FracO.row {w : World} {base g : Nat} {v : Value} {q : Rat} (h : FracO w base v q) (hg : g < base) (cs : Array Value) : FracO (w.setRow g cs) base v q := by
  obtain ⟨b1, a1, n1, c1, b2, a2, n2, c2, h1, h2, h3⟩ := h
  exact ⟨b1, a1, n1, c1, b2, a2, n2, c2, h1, h2.row hg cs, h3.row hg cs⟩
theorem FracR.shape {w : World} {v : Value} {q : Rat} (h : FracR w v q) : ∃ b1 a1 n1 c1 b2 a2 n2 c2, v = .agg #[.bool b1, .slice a1 n1 c1, .bool b2, .slice a2 n2 c2] := by
  obtain ⟨b1, a1, n1, c1, b2, a2, n2, c2, h1, h2, h3⟩ := h
  exact ⟨b1, a1, n1, c1, b2, a2, n2, c2, h1⟩
theorem FracR.num {w : World} {b1 b2 : Bool} {a1 a2 : Option Addr} {n1 c1 n2 c2 : Nat} {q : Rat} (h : FracR w (.agg #[.bool b1, .slice a1 n1 c1, .bool b2, .slice a2 n2 c2]) q) : IntR w (.agg #[.bool b1, .slice a1 n1 c1]) q.num := by
  obtain ⟨x1, x2, x3, x4, x5, x6, x7, x8, h1, h2, h3⟩ := h
  simp only [Value.agg.injEq, Array.mk.injEq, List.cons.injEq, and_true] at h1
  obtain ⟨h4, h5, h6, h7⟩ := h1
  rw [h4, h5]
  exact h2
theorem FracR.den {w : World} {b1 b2 : Bool} {a1 a2 : Option Addr} {n1 c1 n2 c2 : Nat} {q : Rat} (h : FracR w (.agg #[.bool b1, .slice a1 n1 c1, .bool b2, .slice a2 n2 c2]) q) : IntR w (.agg #[.bool b2, .slice a2 n2 c2]) (q.den : Int) := by
  obtain ⟨x1, x2, x3, x4, x5, x6, x7, x8, h1, h2, h3⟩ := h
  simp only [Value.agg.injEq, Array.mk.injEq, List.cons.injEq, and_true] at h1
  obtain ⟨h4, h5, h6, h7⟩ := h1
  rw [h6, h7]
  exact h3
/-- The greater of the two lengths. -/
def nf (q : Rat) : Nat := max (nl q.num) (nl (q.den : Int))
set_option maxHeartbeats 1600000 in
theorem turned_c (v : Value) (X : Int) (w : World) (hX : nl X ≤ 1073741824) (h : IntR w v X) :
    Calls Tryz.prog 164 #[v] w fun e w' => ∃ v, e = .returned v ∧ Ext w w' ∧ IntO w' w.heap.size v (-X) := by
  have H1 := h
  obtain ⟨b, a, n, c, rfl⟩ := h.shape
  have h0 : nl 0 ≤ 1073741824 := by unfold nl; simp [lim_zero]
  have hm := fun v0 w (h1 : IntR w v0 0) h2 => minus_c v0 (.agg #[.bool b, .slice a n c]) 0 X w h0 hX h1 h2
  have ho := fun w => of_c 0 w (by omega) (by omega)
  rw [show (0 : Int) - X = -X by omega] at hm
  replace hm := mkHid hm
  replace ho := mkHid ho
  replace H1 := mkHid H1
  clear h
  go_enter Tryz.func164, Tryz.ntmps164
  go_wp2_with fail
  obtain ⟨wb, hwb⟩ : ∃ wb, wb = (w.alloc (.cells #[.bool b, .slice a n c] 50)).alloc (.cells #[.bool false, .slice none 0 0] 50) := ⟨_, rfl⟩
  have hE : Ext w wb := by rw [hwb]; exact ((Ext.refl w).al _).al _
  have c0 : ∀ W, Ext wb W → W.cell? ⟨w.heap.size, 0, none⟩ = some (.bool b) := fun W e => e.cell (by rw [hwb]; go_simp)
  have c1 : ∀ W, Ext wb W → W.cell? ⟨w.heap.size, 1, none⟩ = some (.slice a n c) := fun W e => e.cell (by rw [hwb]; go_simp)
  have hB : ∀ W, Ext wb W → W.heap[w.heap.size + 1]? = some (.cells #[.bool false, .slice none 0 0] 50) := fun W e => e.blk (by rw [hwb]; exact heap_at _ _ _ (by simp))
  have hsz : w.heap.size + 2 ≤ wb.heap.size := by rw [hwb]; simp
  have H1b := mkHid (H1.out.ext hE)
  rw [← hwb]
  replace hB := mkHid hB
  replace hE := mkHid hE
  clear hwb H1
  apply region_ext [.pred (fun W v => IntO W (w.heap.size + 2) v 0), .val _, .pred (fun W v => IntO W (w.heap.size + 2) v (-X))] (by kernel_rfl) (st_intO _ _ (stable_vals _ (st_intO _ _ trivial)))
  refine ⟨fun W hW _ => ?g0, fun v0 => ?_⟩
  case g0 =>
    go_simp
    refine (ho.out W).mono ?_
    rintro e w' ⟨v, rfl, h1, h2⟩
    exact ⟨v, rfl, h1, h2.mono (Nat.le_trans hsz hW.size)⟩
  refine ⟨fun W hW _ => by go_simp; exact ⟨Ext.refl _, rfl⟩, ?_⟩
  refine ⟨fun W hW hF => ?g2, fun v2 => fun W hW hF => ?fin⟩
  case g2 =>
    have h0 : IntO W (w.heap.size + 2) v0 0 := hF.1 (by kernel_rfl)
    replace h0 := mkHid h0
    clear hF
    go_simp
    refine (hm.out _ W h0.out.r (H1b.out.ext hW)).mono ?_
    rintro e w' ⟨v, rfl, h1, h2⟩
    exact ⟨v, rfl, h1, h2.mono (Nat.le_trans hsz hW.size)⟩
  case fin =>
    have h2 : IntO W (w.heap.size + 2) v2 (-X) := hF.1 rfl
    obtain ⟨nb, a2, n2, c2, rfl⟩ := h2.r.shape
    have hBW := hB.out W hW
    have hR : IntO (W.setRow (w.heap.size + 1) #[.bool nb, .slice a2 n2 c2]) w.heap.size (.agg #[.bool nb, .slice a2 n2 c2]) (-X) := (h2.row (by omega) _).mono (by omega)
    have hEW := (hE.out.trans hW).row (show w.heap.size ≤ w.heap.size + 1 by omega) #[.bool nb, .slice a2 n2 c2]
    replace hR := mkHid hR
    replace hEW := mkHid hEW
    clear h2 hF c0 c1
    go_simp
    go_wp2_with (refine wpList_store_row rfl 50 (.tmp 2) (.tmp 5) rfl (w.heap.size + 1) #[.bool nb, .slice a2 n2 c2] rfl rfl 50 _ hBW (by kernel_rfl) rfl (by kernel_rfl) ?_)
    exact bodyPost_ret (results_cell_row rfl _ _ (w.heap.size + 1) 50 #[.bool nb, .slice a2 n2 c2] (0, 0) _ rfl (setRow_heap _ _ _ _ _ _ hBW) Tryz.underlying50 rfl (by kernel_rfl)) rfl ⟨_, rfl, hEW.out, hR.out⟩
end Go.Proofs.YtjelnmokcpoofaaGreatDoor
namespace Go.Proofs.YtjelnmokcpoofaaGreatDoor
set_option maxRecDepth 100000
open Go Go.RowKit Go.Proofs
theorem low_num (n d : Int) : (Rat.divInt n d).num = if d < 0 then -(n.tdiv (Int.gcd n d : Nat)) else if d = 0 then 0 else n.tdiv (Int.gcd n d : Nat) := by
  have hdv : ((Int.gcd n d : Nat) : Int) ∣ n := Int.gcd_dvd_left ..
  rw [Rat.num_divInt, Int.gcd_comm d n, Int.tdiv_eq_ediv_of_dvd hdv]
  rcases Int.lt_trichotomy d 0 with h | h | h
  · rw [if_pos h, Int.sign_eq_neg_one_of_neg h, Int.neg_mul, Int.one_mul, Int.neg_ediv_of_dvd hdv]
  · subst h
    simp
  · rw [if_neg (by omega), if_neg (by omega), Int.sign_eq_one_of_pos h, Int.one_mul]
theorem low_den (n d : Int) (h0 : d ≠ 0) : ((Rat.divInt n d).den : Int) = if d < 0 then -(d.tdiv (Int.gcd n d : Nat)) else d.tdiv (Int.gcd n d : Nat) := by
  have hdv : ((Int.gcd n d : Nat) : Int) ∣ d := Int.gcd_dvd_right ..
  rw [Rat.den_divInt, if_neg h0, Int.gcd_comm d n, Int.tdiv_eq_ediv_of_dvd hdv, Int.natCast_ediv]
  split
  · rw [← Int.neg_ediv_of_dvd hdv]
    congr 1
    omega
  · congr 1
    omega
theorem tdiv_nl (n : Int) (g : Nat) : nl (n.tdiv g) ≤ nl n := by
  unfold nl
  refine lim_mono ?_
  rw [Int.natAbs_tdiv]
  exact Nat.div_le_self _ _
theorem tdiv_neg (Y : Int) (g : Nat) (h0 : g ≠ 0) (h : (g : Int) ∣ Y) : Y.tdiv (g : Nat) < 0 ↔ Y < 0 := by
  obtain ⟨k, rfl⟩ := h
  rw [Int.mul_tdiv_cancel_left _ (by omega)]
  have hp : (0 : Int) < g := by omega
  constructor
  · intro h
    exact Int.mul_neg_of_pos_of_neg hp h
  · intro h
    rcases Int.lt_or_le k 0 with h1 | h1
    · exact h1
    · have := Int.mul_nonneg (Int.le_of_lt hp) h1
      omega
/-- What is kept of a whole number that another function has been given, or has made, while later variables change. -/
structure Keep (w : World) (K : World → Value → Int → Prop) : Prop where
  ext : ∀ {W W' v x}, K W v x → Ext W W' → K W' v x
  row : ∀ {W v x g old T fr} (cs : Array Value), K W v x → W.heap[g]? = some (.cells old T fr) → T ≠ 140 → w.heap.size ≤ g → K (W.setRow g cs) v x
  r : ∀ {W v x}, K W v x → IntR W v x
  o : ∀ {W v x}, IntO W w.heap.size v x → K W v x
theorem keep_o (w : World) (base : Nat) (hb : base ≤ w.heap.size) : Keep w (fun W v x => IntO W base v x) :=
  ⟨fun h e => h.ext e, fun cs h hg hT _ => h.row_type hg hT cs, fun h => h.r, fun h => h.mono hb⟩
theorem keep_r (w : World) : Keep w (fun W v x => IntO W w.heap.size v x ∨ (IntR w v x ∧ Ext w W)) := by
  refine ⟨?_, ?_, ?_, fun h => .inl h⟩
  · rintro W W' v x (h | h) e
    · exact .inl (h.ext e)
    · exact .inr ⟨h.1, h.2.trans e⟩
  · rintro W v x g old T fr cs (h | h) hg hT hs
    · exact .inl (h.row_type hg hT cs)
    · exact .inr ⟨h.1, h.2.row hs cs⟩
  · rintro W v x (h | h)
    · exact h.r
    · exact h.1.ext h.2
set_option maxHeartbeats 3200000 in
theorem lowest_k (K : World → Value → Int → Prop) (v1 v2 : Value) (X Y : Int) (w : World) (hK : Keep w K) (hX : nl X ≤ 1073741824) (hY : nl Y ≤ 1073741824) (hY0 : Y ≠ 0) (h1 : K w v1 X) (h2 : K w v2 Y) :
    Calls Tryz.prog 102 #[v1, v2] w fun e w' => ∃ b1 a1 n1 c1 b2 a2 n2 c2, e = .returned (.agg #[.bool b1, .slice a1 n1 c1, .bool b2, .slice a2 n2 c2]) ∧ Ext w w' ∧
      K w' (.agg #[.bool b1, .slice a1 n1 c1]) (Rat.divInt X Y).num ∧ K w' (.agg #[.bool b2, .slice a2 n2 c2]) ((Rat.divInt X Y).den : Int) := by
  have H1 := h1
  have H2 := h2
  obtain ⟨b1, a1, n1, m1, rfl⟩ := (hK.r h1).shape
  obtain ⟨b2, a2, n2, m2, rfl⟩ := (hK.r h2).shape
  have en := low_num X Y
  have ed := low_den X Y hY0
  rw [if_neg hY0] at en
  have hcm := fun w h1 h2 => common_c (.agg #[.bool b1, .slice a1 n1 m1]) (.agg #[.bool b2, .slice a2 n2 m2]) X Y w hX hY h1 h2
  have hg0 : Int.gcd X Y ≠ 0 := by
    intro h
    exact hY0 (Int.gcd_eq_zero_iff.1 h).2
  have hgl : nl (Int.gcd X Y : Nat) ≤ 1073741824 := by
    refine Nat.le_trans (lim_mono ?_) hY
    rw [Int.natAbs_natCast]
    exact Nat.le_of_dvd (by omega) (by simpa using (Int.natAbs_dvd_natAbs.2 (Int.gcd_dvd_right X Y)))
  have hd1 : (X.tdiv (Int.gcd X Y : Nat)) = X ∧ (Y.tdiv (Int.gcd X Y : Nat)) = Y ∨ Int.gcd X Y ≠ 1 := by
    by_cases h : Int.gcd X Y = 1
    · left; rw [h]; simp
    · exact .inr h
  have hX2 := Nat.le_trans (tdiv_nl X (Int.gcd X Y)) hX
  have hY2 := Nat.le_trans (tdiv_nl Y (Int.gcd X Y)) hY
  have hYz : Y.tdiv (Int.gcd X Y : Nat) ≠ 0 := by
    intro h
    have e := Int.tdiv_mul_cancel (Int.gcd_dvd_right X Y)
    rw [h] at e
    omega
  have hs2 := tdiv_neg Y (Int.gcd X Y) hg0 (Int.gcd_dvd_right X Y)
  generalize Int.gcd X Y = G at *
  generalize (Rat.divInt X Y).num = RN at *
  generalize ((Rat.divInt X Y).den : Int) = RD at *
  obtain ⟨S, hS⟩ : ∃ S, S = ((G : Int) - 1).sign := ⟨_, rfl⟩
  have h01 : nl 1 ≤ 1073741824 := by unfold nl; simp; rw [lim_one (by omega) (by omega)]; simp
  have hof := fun w => of_c 1 w (by omega) (by omega)
  have hcmp := fun v1 v2 w h1 h2 => cmp_c v1 v2 (G : Int) 1 w hgl h01 h1 h2
  rw [← hS] at hcmp
  replace hcm := mkHid hcm
  replace hof := mkHid hof
  replace hcmp := mkHid hcmp
  replace hS := mkHid hS
  replace H1 := mkHid H1
  replace H2 := mkHid H2
  replace en := mkHid en
  replace ed := mkHid ed
  replace hd1 := mkHid hd1
  replace hs2 := mkHid hs2
  replace hYz := mkHid hYz
  replace hgl := mkHid hgl
  replace hX2 := mkHid hX2
  replace hY2 := mkHid hY2
  clear h1 h2 h01
  go_enter Tryz.func102, Tryz.ntmps102
  go_wp2_with fail
  obtain ⟨wb, hwb⟩ : ∃ wb, wb = ((w.alloc (.cells #[.bool b1, .slice a1 n1 m1] 50)).alloc (.cells #[.bool b2, .slice a2 n2 m2] 50)).alloc (.cells #[.bool false, .slice none 0 0, .bool false, .slice none 0 0] 52) := ⟨_, rfl⟩
  rw [← hwb]
  have hE : Ext w wb := by rw [hwb]; exact (((Ext.refl w).al _).al _).al _
  have hB0 : wb.heap[w.heap.size]? = some (.cells #[.bool b1, .slice a1 n1 m1] 50) := by rw [hwb]; exact (heap_alloc_old _ _ (by simp; omega)).trans ((heap_alloc_old _ _ (by simp)).trans (heap_alloc_new _ _))
  have hB1 : wb.heap[w.heap.size + 1]? = some (.cells #[.bool b2, .slice a2 n2 m2] 50) := by rw [hwb]; exact (heap_alloc_old _ _ (by simp)).trans (heap_at _ _ _ (by simp))
  have hB2 : wb.heap[w.heap.size + 2]? = some (.cells #[.bool false, .slice none 0 0, .bool false, .slice none 0 0] 52) := by rw [hwb]; exact heap_at _ _ _ (by simp)
  have hsz : w.heap.size + 3 ≤ wb.heap.size := by rw [hwb]; simp
  replace H1 := mkHid (hK.ext H1.out hE)
  replace H2 := mkHid (hK.ext H2.out hE)
  clear hwb
  refine (hcm.out wb (hK.r H1.out) (hK.r H2.out)).mono ?_
  rintro e w1 ⟨vg, rfl, hE1, hg⟩
  obtain ⟨bg, ag, ng, mg, rfl⟩ := hg.r.shape
  replace hg := mkHid hg
  have hszb := hsz
  replace hE := mkHid (hE.trans hE1)
  replace H1 := mkHid (hK.ext H1.out hE1)
  replace H2 := mkHid (hK.ext H2.out hE1)
  replace hB0 := mkHid (hE1.blk hB0)
  replace hB1 := mkHid (hE1.blk hB1)
  replace hB2 := mkHid (hE1.blk hB2)
  replace hsz : w.heap.size + 3 ≤ w1.heap.size := Nat.le_trans hsz hE1.size
  clear hE1 hcm
  go_wp2_with fail
  obtain ⟨w2, hw2⟩ : ∃ w2, w2 = w1.alloc (.cells #[.bool bg, .slice ag ng mg] 50) := ⟨_, rfl⟩
  rw [← hw2]
  have hE2 : Ext w1 w2 := by rw [hw2]; exact (Ext.refl _).al _
  have hBg : w2.heap[w1.heap.size]? = some (.cells #[.bool bg, .slice ag ng mg] 50) := by rw [hw2]; exact heap_alloc_new _ _
  replace hg := mkHid ((hg.out.ext hE2).mono hszb)
  replace hE := mkHid (hE.out.trans hE2)
  replace H1 := mkHid (hK.ext H1.out hE2)
  replace H2 := mkHid (hK.ext H2.out hE2)
  replace hB0 := mkHid (hE2.blk hB0.out)
  replace hB1 := mkHid (hE2.blk hB1.out)
  replace hB2 := mkHid (hE2.blk hB2.out)
  have k0 : ∀ W, Ext w2 W → W.cell? ⟨w1.heap.size, 0, none⟩ = some (.bool bg) := fun W e => e.cell (row2_cells hBg).1
  have k1 : ∀ W, Ext w2 W → W.cell? ⟨w1.heap.size, 1, none⟩ = some (.slice ag ng mg) := fun W e => e.cell (row2_cells hBg).2
  replace hBg := mkHid hBg
  have hsz2 : w1.heap.size + 1 ≤ w2.heap.size := by rw [hw2]; simp
  clear hw2 hE2
  apply region_ext [.val _, .pred (fun W v => IntO W (w1.heap.size + 1) v 1), .val (.int .i64 S)] (by kernel_rfl) (stable_vals _ (st_intO _ _ (stable_vals _ trivial)))
  refine ⟨fun W hW _ => by go_simp; exact ⟨Ext.refl _, rfl⟩, ?_⟩
  refine ⟨fun W hW _ => ?g1, fun v1 => ?_⟩
  case g1 =>
    go_simp
    refine (hof.out W).mono ?_
    rintro e w' ⟨v, rfl, h1, h2⟩
    exact ⟨v, rfl, h1, h2.mono (Nat.le_trans hsz2 hW.size)⟩
  refine ⟨fun W hW hF => ?g2, fun W hW _ => ?fin⟩
  case g2 =>
    have h0 : IntO W (w1.heap.size + 1) v1 1 := hF.1 (by kernel_rfl)
    replace h0 := mkHid h0
    clear hF
    go_simp
    refine (hcmp.out _ _ W (hg.out.r.ext hW) h0.out.r).mono ?_
    rintro e w' ⟨rfl, hE⟩
    exact ⟨rfl, hE⟩
  case fin =>
    have E2 := hE.out.trans hW
    have J1 := hK.ext H1.out hW
    have J2 := hK.ext H2.out hW
    have r0 := hW.blk hB0.out
    have r1 := hW.blk hB1.out
    have r2 := hW.blk hB2.out
    have rg := hW.blk hBg.out
    have Jg := hg.out.ext hW
    clear hE H1 H2 hB0 hB1 hB2 hBg k0 k1 hsz2 hg hW
    by_cases hG : G = 1
    · have hS0 : S = 0 := by rw [hS.out, hG]; rfl
      subst hS0
      obtain ⟨e1, e2⟩ := hd1.out.resolve_right (by omega)
      rw [e1] at en
      rw [e2] at ed
      have JN := J1
      have JD := J2
      clear rg Jg J1 J2
      have hsg := mkHid (sign_c _ (Y) W (hK.r JD) hY)
      have c1 := row2_cells r1
      replace r0 := mkHid r0
      replace r1 := mkHid r1
      replace r2 := mkHid r2
      replace E2 := mkHid E2
      replace JN := mkHid JN
      replace JD := mkHid JD
      (go_simp; go_wp2_with fail)
      refine hsg.out.mono ?_
      rintro e w7 ⟨rfl, hE7⟩
      have q0 := hE7.blk r0.out
      have q1 := hE7.blk r1.out
      have q2 := hE7.blk r2.out
      have JN := hK.ext JN.out hE7
      have JD := hK.ext JD.out hE7
      have E7 := E2.out.trans hE7
      clear r0 r1 r2 E2 hE7 c1 hsg
      by_cases hneg : Y < 0
      · have hsn : (Y).sign = -1 := Int.sign_eq_neg_one_of_neg ((Iff.refl (Y < 0)).2 hneg)
        rw [hsn]
        have en := en.out
        have ed := ed.out
        rw [if_pos hneg] at en ed
        subst en
        subst ed
        have c0 := row2_cells q0
        have c1 := row2_cells q1
        have t1 := fun W e => turned_c _ (X) W hX ((hK.r JN).ext (w' := W) e)
        have t2 := fun W e => turned_c _ (Y) W hY ((hK.r JD).ext (w' := W) e)
        replace t1 := mkHid t1
        replace t2 := mkHid t2
        replace q0 := mkHid q0
        replace q1 := mkHid q1
        replace q2 := mkHid q2
        replace E7 := mkHid E7
        clear JN JD
        replace hneg := mkHid hneg
        go_wp2_with fail
        have k00 := fun W (e : Ext w7 W) => e.cell c0.1
        have k01 := fun W (e : Ext w7 W) => e.cell c0.2
        have k10 := fun W (e : Ext w7 W) => e.cell c1.1
        have k11 := fun W (e : Ext w7 W) => e.cell c1.2
        have hz7 : w.heap.size + 3 ≤ w7.heap.size := (Array.getElem?_eq_some_iff.1 q2.out).1
        apply region_ext [.val _, .pred (fun W v => IntO W (w.heap.size + 3) v (-(X))), .val _, .pred (fun W v => IntO W (w.heap.size + 3) v (-(Y)))] (by kernel_rfl) (stable_vals _ (st_intO _ _ (stable_vals _ (st_intO _ _ trivial))))
        refine ⟨fun W hW _ => by go_simp; exact ⟨Ext.refl _, rfl⟩, ?_⟩
        refine ⟨fun W hW _ => ?h1, fun v1 => ?_⟩
        case h1 =>
          go_simp
          refine (t1.out W hW).mono ?_
          rintro e w' ⟨v, rfl, h1, h2⟩
          exact ⟨v, rfl, h1, h2.mono (Nat.le_trans hz7 hW.size)⟩
        refine ⟨fun W hW _ => by go_simp; exact ⟨Ext.refl _, rfl⟩, ?_⟩
        refine ⟨fun W hW _ => ?h3, fun v3 => fun W hW hF => ?fin⟩
        case h3 =>
          go_simp
          refine (t2.out W hW).mono ?_
          rintro e w' ⟨v, rfl, h1, h2⟩
          exact ⟨v, rfl, h1, h2.mono (Nat.le_trans hz7 hW.size)⟩
        case fin =>
          have J3 : IntO W (w.heap.size + 3) v3 (-(Y)) := hF.1 rfl
          have J1 : IntO W (w.heap.size + 3) v1 (-(X)) := hF.2.1 rfl
          obtain ⟨x1, x2, x3, x4, rfl⟩ := J1.r.shape
          obtain ⟨y1, y2, y3, y4, rfl⟩ := J3.r.shape
          have p0 := hW.blk q0.out
          have p1 := hW.blk q1.out
          have p2 := hW.blk q2.out
          have hrows := two_rows W w.heap.size (w.heap.size + 1) #[.bool x1, .slice x2 x3 x4] #[.bool y1, .slice y2 y3 y4] _ _ _ (by omega) p0 p1
          have p3 : ((W.setRow w.heap.size #[.bool x1, .slice x2 x3 x4]).setRow (w.heap.size + 1) #[.bool y1, .slice y2 y3 y4]).heap[w.heap.size + 2]? = some (.cells #[.bool false, .slice none 0 0, .bool false, .slice none 0 0] 52 (0, 0)) := by
            rw [setRow_other _ _ _ _ (by omega), setRow_other _ _ _ _ (by omega)]
            exact p2
          have d0 := row2_cells hrows.1
          have d1 := row2_cells hrows.2.1
          have F1 := hK.o (((((J1.row (g := w.heap.size) (by omega) #[.bool x1, .slice x2 x3 x4]).row (g := w.heap.size + 1) (by omega) #[.bool y1, .slice y2 y3 y4]).row (g := w.heap.size + 2) (by omega) #[.bool x1, .slice x2 x3 x4, .bool y1, .slice y2 y3 y4])).mono (show w.heap.size ≤ w.heap.size + 3 by omega))
          have F3 := hK.o (((((J3.row (g := w.heap.size) (by omega) #[.bool x1, .slice x2 x3 x4]).row (g := w.heap.size + 1) (by omega) #[.bool y1, .slice y2 y3 y4]).row (g := w.heap.size + 2) (by omega) #[.bool x1, .slice x2 x3 x4, .bool y1, .slice y2 y3 y4])).mono (show w.heap.size ≤ w.heap.size + 3 by omega))
          have FE := (((E7.out.trans hW).row (show w.heap.size ≤ w.heap.size by omega) #[.bool x1, .slice x2 x3 x4]).row (show w.heap.size ≤ w.heap.size + 1 by omega) #[.bool y1, .slice y2 y3 y4]).row (show w.heap.size ≤ w.heap.size + 2 by omega) #[.bool x1, .slice x2 x3 x4, .bool y1, .slice y2 y3 y4]
          replace p0 := mkHid p0
          replace p3 := mkHid p3
          replace hrows := mkHid hrows
          replace F1 := mkHid F1
          replace F3 := mkHid F3
          replace FE := mkHid FE
          clear J1 J3 hF k00 k01 k10 k11 p1 p2 c0 c1 hW
          go_simp
          go_wp2_with (first
            | (refine wpList_store_row rfl 50 (.tmp 2) (.tmp 29) rfl w.heap.size #[.bool x1, .slice x2 x3 x4] rfl rfl 50 _ p0.out (by kernel_rfl) rfl (by kernel_rfl) ?_)
            | (refine wpList_store_row rfl 50 (.tmp 3) (.tmp 31) rfl (w.heap.size + 1) #[.bool y1, .slice y2 y3 y4] rfl rfl 50 _ hrows.out.2.2 (by kernel_rfl) rfl (by kernel_rfl) ?_)
            | (refine wpList_store_row rfl 52 (.tmp 4) (.tmp 34) rfl (w.heap.size + 2) #[.bool x1, .slice x2 x3 x4, .bool y1, .slice y2 y3 y4] rfl rfl 52 _ p3.out (by kernel_rfl) rfl (by kernel_rfl) ?_))
          exact bodyPost_ret (results_cell_row rfl _ _ (w.heap.size + 2) 52 #[.bool x1, .slice x2 x3 x4, .bool y1, .slice y2 y3 y4] (0, 0) _ rfl (setRow_heap _ _ _ _ _ _ p3.out) Tryz.underlying52 rfl (by kernel_rfl)) rfl ⟨_, _, _, _, _, _, _, _, rfl, FE.out, F1.out, F3.out⟩
      · have hsn : (Y).sign = 1 := Int.sign_eq_one_of_pos (by have := mt (Iff.refl (Y < 0)).1 hneg; have := hY0; omega)
        rw [hsn]
        have en := en.out
        have ed := ed.out
        rw [if_neg hneg] at en ed
        subst en
        subst ed
        have c0 := row2_cells q0
        have c1 := row2_cells q1
        have F1 := hK.row (g := w.heap.size + 2) #[.bool b1, .slice a1 n1 m1, .bool b2, .slice a2 n2 m2] JN q2 (by decide) (by omega)
        have F3 := hK.row (g := w.heap.size + 2) #[.bool b1, .slice a1 n1 m1, .bool b2, .slice a2 n2 m2] JD q2 (by decide) (by omega)
        have FE := E7.row (show w.heap.size ≤ w.heap.size + 2 by omega) #[.bool b1, .slice a1 n1 m1, .bool b2, .slice a2 n2 m2]
        replace q0 := mkHid q0
        replace q1 := mkHid q1
        replace q2 := mkHid q2
        replace E7 := mkHid E7
        replace F1 := mkHid F1
        replace F3 := mkHid F3
        replace FE := mkHid FE
        clear JN JD
        replace hneg := mkHid hneg
        go_wp2_with (refine wpList_store_row rfl 52 (.tmp 4) (.tmp 34) rfl (w.heap.size + 2) #[.bool b1, .slice a1 n1 m1, .bool b2, .slice a2 n2 m2] rfl rfl 52 _ q2.out (by kernel_rfl) rfl (by kernel_rfl) ?_)
        exact bodyPost_ret (results_cell_row rfl _ _ (w.heap.size + 2) 52 #[.bool b1, .slice a1 n1 m1, .bool b2, .slice a2 n2 m2] (0, 0) _ rfl (setRow_heap _ _ _ _ _ _ q2.out) Tryz.underlying52 rfl (by kernel_rfl)) rfl ⟨_, _, _, _, _, _, _, _, rfl, FE.out, F1.out, F3.out⟩
    · have hS0 : (S == 0) = false := by
        rw [hS.out, beq_eq_false_iff_ne]
        intro h
        have := Int.sign_eq_zero_iff_zero.1 h
        omega
      have c0 := row2_cells r0
      have c1 := row2_cells r1
      have cg := row2_cells rg
      have hdv := mkHid (div_c _ _ X (G : Int) W hX hgl.out (by omega) (hK.r J1) Jg.r)
      replace r0 := mkHid r0
      replace r1 := mkHid r1
      replace r2 := mkHid r2
      replace rg := mkHid rg
      replace E2 := mkHid E2
      replace J1 := mkHid J1
      replace J2 := mkHid J2
      replace Jg := mkHid Jg
      go_simp
      go_wp2_with fail
      refine hdv.out.mono ?_
      rintro e w3 ⟨q, r, rfl, hE3, hq, _⟩
      obtain ⟨x1, x2, x3, x4, rfl⟩ := hq.r.shape
      have p0 := hE3.blk r0.out
      have p1 := hE3.blk r1.out
      have p2 := hE3.blk r2.out
      have pg := hE3.blk rg.out
      have s0 := setRow_heap _ _ _ #[.bool x1, .slice x2 x3 x4] _ _ p0
      have s1 := (setRow_other w3 w.heap.size _ #[.bool x1, .slice x2 x3 x4] (show w.heap.size + 1 ≠ w.heap.size by omega)).trans p1
      have s2 := (setRow_other w3 w.heap.size _ #[.bool x1, .slice x2 x3 x4] (show w.heap.size + 2 ≠ w.heap.size by omega)).trans p2
      have sg := (setRow_other w3 w.heap.size _ #[.bool x1, .slice x2 x3 x4] (show w1.heap.size ≠ w.heap.size by omega)).trans pg
      have hszW : w.heap.size + 3 ≤ W.heap.size := (Array.getElem?_eq_some_iff.1 r2.out).1
      have M1 := (hq.mono hszW).row (g := w.heap.size) (by omega) #[.bool x1, .slice x2 x3 x4]
      have M2 := hK.row #[.bool x1, .slice x2 x3 x4] (hK.ext J2.out hE3) p0 (by decide) (Nat.le_refl _)
      have Mg := (Jg.out.ext hE3).row (g := w.heap.size) (by omega) #[.bool x1, .slice x2 x3 x4]
      have E4 := (E2.out.trans hE3).row (Nat.le_refl _) #[.bool x1, .slice x2 x3 x4]
      have hdv2 := mkHid (div_c _ _ Y (G : Int) (w3.setRow w.heap.size #[.bool x1, .slice x2 x3 x4]) hY hgl.out (by omega) (hK.r M2) Mg.r)
      have d1 := row2_cells s1
      have dg := row2_cells sg
      replace p0 := mkHid p0
      replace s0 := mkHid s0
      replace s1 := mkHid s1
      replace s2 := mkHid s2
      replace M1 := mkHid M1
      replace E4 := mkHid E4
      clear hq r0 r1 r2 rg E2 J1 J2 Jg c0 c1 cg p1 p2 pg hdv sg M2 Mg hE3
      go_wp2_with (refine wpList_store_row rfl 50 (.tmp 2) (.tmp 17) rfl w.heap.size #[.bool x1, .slice x2 x3 x4] rfl rfl 50 _ p0.out (by kernel_rfl) rfl (by kernel_rfl) ?_)
      refine hdv2.out.mono ?_
      rintro e w5 ⟨q, r, rfl, hE5, hq, _⟩
      obtain ⟨y1, y2, y3, y4, rfl⟩ := hq.r.shape
      have u0 := hE5.blk s0.out
      have u1 := hE5.blk s1.out
      have u2 := hE5.blk s2.out
      have hsz4 : w.heap.size + 3 ≤ (w3.setRow w.heap.size #[.bool x1, .slice x2 x3 x4]).heap.size := (Array.getElem?_eq_some_iff.1 s2.out).1
      have r0 := (setRow_other w5 (w.heap.size + 1) _ #[.bool y1, .slice y2 y3 y4] (show w.heap.size ≠ w.heap.size + 1 by omega)).trans u0
      have r1 := setRow_heap _ _ _ #[.bool y1, .slice y2 y3 y4] _ _ u1
      have r2 := (setRow_other w5 (w.heap.size + 1) _ #[.bool y1, .slice y2 y3 y4] (show w.heap.size + 2 ≠ w.heap.size + 1 by omega)).trans u2
      have JN := hK.o (((M1.out.ext hE5).row (g := w.heap.size + 1) (by omega) #[.bool y1, .slice y2 y3 y4]).mono (show w.heap.size ≤ w.heap.size + 3 by omega))
      have JD := hK.o (((hq.mono hsz4).row (g := w.heap.size + 1) (by omega) #[.bool y1, .slice y2 y3 y4]).mono (show w.heap.size ≤ w.heap.size + 3 by omega))
      have E2 := (E4.out.trans hE5).row (show w.heap.size ≤ w.heap.size + 1 by omega) #[.bool y1, .slice y2 y3 y4]
      replace u1 := mkHid u1
      clear u0 u2 M1 E4 hE5 hq s0 s1 s2 d1 dg hdv2 hsz4
      have hYn : Y.tdiv (G : Int) ≠ 0 := by
        intro h
        exact hYz.out h
      have hsg := mkHid (sign_c _ (Y.tdiv (G : Int)) (w5.setRow (w.heap.size + 1) #[.bool y1, .slice y2 y3 y4]) (hK.r JD) hY2.out)
      have c1 := row2_cells r1
      replace r0 := mkHid r0
      replace r1 := mkHid r1
      replace r2 := mkHid r2
      replace E2 := mkHid E2
      replace JN := mkHid JN
      replace JD := mkHid JD
      (go_wp2_with (refine wpList_store_row rfl 50 (.tmp 3) (.tmp 23) rfl (w.heap.size + 1) #[.bool y1, .slice y2 y3 y4] rfl rfl 50 _ u1.out (by kernel_rfl) rfl (by kernel_rfl) ?_))
      refine hsg.out.mono ?_
      rintro e w7 ⟨rfl, hE7⟩
      have q0 := hE7.blk r0.out
      have q1 := hE7.blk r1.out
      have q2 := hE7.blk r2.out
      have JN := hK.ext JN.out hE7
      have JD := hK.ext JD.out hE7
      have E7 := E2.out.trans hE7
      clear r0 r1 r2 E2 hE7 c1 hsg
      by_cases hneg : Y < 0
      · have hsn : (Y.tdiv (G : Int)).sign = -1 := Int.sign_eq_neg_one_of_neg ((hs2.out).2 hneg)
        rw [hsn]
        have en := en.out
        have ed := ed.out
        rw [if_pos hneg] at en ed
        subst en
        subst ed
        have c0 := row2_cells q0
        have c1 := row2_cells q1
        have t1 := fun W e => turned_c _ (X.tdiv (G : Int)) W hX2.out ((hK.r JN).ext (w' := W) e)
        have t2 := fun W e => turned_c _ (Y.tdiv (G : Int)) W hY2.out ((hK.r JD).ext (w' := W) e)
        replace t1 := mkHid t1
        replace t2 := mkHid t2
        replace q0 := mkHid q0
        replace q1 := mkHid q1
        replace q2 := mkHid q2
        replace E7 := mkHid E7
        clear JN JD
        replace hneg := mkHid hneg
        go_wp2_with fail
        have k00 := fun W (e : Ext w7 W) => e.cell c0.1
        have k01 := fun W (e : Ext w7 W) => e.cell c0.2
        have k10 := fun W (e : Ext w7 W) => e.cell c1.1
        have k11 := fun W (e : Ext w7 W) => e.cell c1.2
        have hz7 : w.heap.size + 3 ≤ w7.heap.size := (Array.getElem?_eq_some_iff.1 q2.out).1
        apply region_ext [.val _, .pred (fun W v => IntO W (w.heap.size + 3) v (-(X.tdiv (G : Int)))), .val _, .pred (fun W v => IntO W (w.heap.size + 3) v (-(Y.tdiv (G : Int))))] (by kernel_rfl) (stable_vals _ (st_intO _ _ (stable_vals _ (st_intO _ _ trivial))))
        refine ⟨fun W hW _ => by go_simp; exact ⟨Ext.refl _, rfl⟩, ?_⟩
        refine ⟨fun W hW _ => ?h1, fun v1 => ?_⟩
        case h1 =>
          go_simp
          refine (t1.out W hW).mono ?_
          rintro e w' ⟨v, rfl, h1, h2⟩
          exact ⟨v, rfl, h1, h2.mono (Nat.le_trans hz7 hW.size)⟩
        refine ⟨fun W hW _ => by go_simp; exact ⟨Ext.refl _, rfl⟩, ?_⟩
        refine ⟨fun W hW _ => ?h3, fun v3 => fun W hW hF => ?fin⟩
        case h3 =>
          go_simp
          refine (t2.out W hW).mono ?_
          rintro e w' ⟨v, rfl, h1, h2⟩
          exact ⟨v, rfl, h1, h2.mono (Nat.le_trans hz7 hW.size)⟩
        case fin =>
          have J3 : IntO W (w.heap.size + 3) v3 (-(Y.tdiv (G : Int))) := hF.1 rfl
          have J1 : IntO W (w.heap.size + 3) v1 (-(X.tdiv (G : Int))) := hF.2.1 rfl
          obtain ⟨x1, x2, x3, x4, rfl⟩ := J1.r.shape
          obtain ⟨y1, y2, y3, y4, rfl⟩ := J3.r.shape
          have p0 := hW.blk q0.out
          have p1 := hW.blk q1.out
          have p2 := hW.blk q2.out
          have hrows := two_rows W w.heap.size (w.heap.size + 1) #[.bool x1, .slice x2 x3 x4] #[.bool y1, .slice y2 y3 y4] _ _ _ (by omega) p0 p1
          have p3 : ((W.setRow w.heap.size #[.bool x1, .slice x2 x3 x4]).setRow (w.heap.size + 1) #[.bool y1, .slice y2 y3 y4]).heap[w.heap.size + 2]? = some (.cells #[.bool false, .slice none 0 0, .bool false, .slice none 0 0] 52 (0, 0)) := by
            rw [setRow_other _ _ _ _ (by omega), setRow_other _ _ _ _ (by omega)]
            exact p2
          have d0 := row2_cells hrows.1
          have d1 := row2_cells hrows.2.1
          have F1 := hK.o (((((J1.row (g := w.heap.size) (by omega) #[.bool x1, .slice x2 x3 x4]).row (g := w.heap.size + 1) (by omega) #[.bool y1, .slice y2 y3 y4]).row (g := w.heap.size + 2) (by omega) #[.bool x1, .slice x2 x3 x4, .bool y1, .slice y2 y3 y4])).mono (show w.heap.size ≤ w.heap.size + 3 by omega))
          have F3 := hK.o (((((J3.row (g := w.heap.size) (by omega) #[.bool x1, .slice x2 x3 x4]).row (g := w.heap.size + 1) (by omega) #[.bool y1, .slice y2 y3 y4]).row (g := w.heap.size + 2) (by omega) #[.bool x1, .slice x2 x3 x4, .bool y1, .slice y2 y3 y4])).mono (show w.heap.size ≤ w.heap.size + 3 by omega))
          have FE := (((E7.out.trans hW).row (show w.heap.size ≤ w.heap.size by omega) #[.bool x1, .slice x2 x3 x4]).row (show w.heap.size ≤ w.heap.size + 1 by omega) #[.bool y1, .slice y2 y3 y4]).row (show w.heap.size ≤ w.heap.size + 2 by omega) #[.bool x1, .slice x2 x3 x4, .bool y1, .slice y2 y3 y4]
          replace p0 := mkHid p0
          replace p3 := mkHid p3
          replace hrows := mkHid hrows
          replace F1 := mkHid F1
          replace F3 := mkHid F3
          replace FE := mkHid FE
          clear J1 J3 hF k00 k01 k10 k11 p1 p2 c0 c1 hW
          go_simp
          go_wp2_with (first
            | (refine wpList_store_row rfl 50 (.tmp 2) (.tmp 29) rfl w.heap.size #[.bool x1, .slice x2 x3 x4] rfl rfl 50 _ p0.out (by kernel_rfl) rfl (by kernel_rfl) ?_)
            | (refine wpList_store_row rfl 50 (.tmp 3) (.tmp 31) rfl (w.heap.size + 1) #[.bool y1, .slice y2 y3 y4] rfl rfl 50 _ hrows.out.2.2 (by kernel_rfl) rfl (by kernel_rfl) ?_)
            | (refine wpList_store_row rfl 52 (.tmp 4) (.tmp 34) rfl (w.heap.size + 2) #[.bool x1, .slice x2 x3 x4, .bool y1, .slice y2 y3 y4] rfl rfl 52 _ p3.out (by kernel_rfl) rfl (by kernel_rfl) ?_))
          exact bodyPost_ret (results_cell_row rfl _ _ (w.heap.size + 2) 52 #[.bool x1, .slice x2 x3 x4, .bool y1, .slice y2 y3 y4] (0, 0) _ rfl (setRow_heap _ _ _ _ _ _ p3.out) Tryz.underlying52 rfl (by kernel_rfl)) rfl ⟨_, _, _, _, _, _, _, _, rfl, FE.out, F1.out, F3.out⟩
      · have hsn : (Y.tdiv (G : Int)).sign = 1 := Int.sign_eq_one_of_pos (by have := mt (hs2.out).1 hneg; have := hYn; omega)
        rw [hsn]
        have en := en.out
        have ed := ed.out
        rw [if_neg hneg] at en ed
        subst en
        subst ed
        have c0 := row2_cells q0
        have c1 := row2_cells q1
        have F1 := hK.row (g := w.heap.size + 2) #[.bool x1, .slice x2 x3 x4, .bool y1, .slice y2 y3 y4] JN q2 (by decide) (by omega)
        have F3 := hK.row (g := w.heap.size + 2) #[.bool x1, .slice x2 x3 x4, .bool y1, .slice y2 y3 y4] JD q2 (by decide) (by omega)
        have FE := E7.row (show w.heap.size ≤ w.heap.size + 2 by omega) #[.bool x1, .slice x2 x3 x4, .bool y1, .slice y2 y3 y4]
        replace q0 := mkHid q0
        replace q1 := mkHid q1
        replace q2 := mkHid q2
        replace E7 := mkHid E7
        replace F1 := mkHid F1
        replace F3 := mkHid F3
        replace FE := mkHid FE
        clear JN JD
        replace hneg := mkHid hneg
        go_wp2_with (refine wpList_store_row rfl 52 (.tmp 4) (.tmp 34) rfl (w.heap.size + 2) #[.bool x1, .slice x2 x3 x4, .bool y1, .slice y2 y3 y4] rfl rfl 52 _ q2.out (by kernel_rfl) rfl (by kernel_rfl) ?_)
        exact bodyPost_ret (results_cell_row rfl _ _ (w.heap.size + 2) 52 #[.bool x1, .slice x2 x3 x4, .bool y1, .slice y2 y3 y4] (0, 0) _ rfl (setRow_heap _ _ _ _ _ _ q2.out) Tryz.underlying52 rfl (by kernel_rfl)) rfl ⟨_, _, _, _, _, _, _, _, rfl, FE.out, F1.out, F3.out⟩
theorem lowest_o (base : Nat) (v1 v2 : Value) (X Y : Int) (w : World) (hb : base ≤ w.heap.size) (hX : nl X ≤ 1073741824) (hY : nl Y ≤ 1073741824) (hY0 : Y ≠ 0) (h1 : IntO w base v1 X) (h2 : IntO w base v2 Y) :
    Calls Tryz.prog 102 #[v1, v2] w fun e w' => ∃ v, e = .returned v ∧ Ext w w' ∧ FracO w' base v (Rat.divInt X Y) := by
  refine (lowest_k _ v1 v2 X Y w (keep_o w base hb) hX hY hY0 h1 h2).mono ?_
  rintro e w' ⟨b1, a1, n1, c1, b2, a2, n2, c2, rfl, hE, h1, h2⟩
  exact ⟨_, rfl, hE, b1, a1, n1, c1, b2, a2, n2, c2, rfl, h1, h2⟩
theorem lowest_r (v1 v2 : Value) (X Y : Int) (w : World) (hX : nl X ≤ 1073741824) (hY : nl Y ≤ 1073741824) (hY0 : Y ≠ 0) (h1 : IntR w v1 X) (h2 : IntR w v2 Y) :
    Calls Tryz.prog 102 #[v1, v2] w fun e w' => ∃ v, e = .returned v ∧ Ext w w' ∧ FracR w' v (Rat.divInt X Y) := by
  refine (lowest_k _ v1 v2 X Y w (keep_r w) hX hY hY0 (.inr ⟨h1, Ext.refl w⟩) (.inr ⟨h2, Ext.refl w⟩)).mono ?_
  rintro e w' ⟨b1, a1, n1, c1, b2, a2, n2, c2, rfl, hE, h1, h2⟩
  exact ⟨_, rfl, hE, b1, a1, n1, c1, b2, a2, n2, c2, rfl, (keep_r w).r h1, (keep_r w).r h2⟩
end Go.Proofs.YtjelnmokcpoofaaGreatDoor
namespace Go.Proofs.YtjelnmokcpoofaaGreatDoor
set_option maxRecDepth 100000
open Go Go.RowKit Go.Proofs
theorem st_fracO {ss : List FSpec} (b : Nat) (q : Rat) (h : StableAll Ext ss) : StableAll Ext (.pred (fun W v => FracO W b v q) :: ss) := ⟨fun _ _ _ e h => FracO.ext h e, h⟩
theorem nl_mul (X Y : Int) : nl (X * Y) ≤ nl X + nl Y := by unfold nl; rw [Int.natAbs_mul]; exact lim_mul _ _
theorem nl_add (X Y : Int) : nl (X + Y) ≤ max (nl X) (nl Y) + 1 := by
  unfold nl
  exact Nat.le_trans (lim_mono (Int.natAbs_add_le X Y)) (lim_add _ _)
theorem nl_neg (X : Int) : nl (-X) = nl X := by unfold nl; rw [Int.natAbs_neg]
theorem nl_sub (X Y : Int) : nl (X - Y) ≤ max (nl X) (nl Y) + 1 := by
  rw [Int.sub_eq_add_neg, ← nl_neg Y]
  exact nl_add _ _
theorem den_ne (x y : Rat) : ((x.den : Int) * y.den) ≠ 0 := Int.mul_ne_zero (by have := x.den_nz; omega) (by have := y.den_nz; omega)
theorem div_sub (x y : Rat) : Rat.divInt (x.num * y.den - y.num * x.den) (x.den * y.den) = x - y := by
  rw [← Rat.divInt_sub_divInt _ _ (by have := x.den_nz; omega) (by have := y.den_nz; omega), Rat.num_divInt_den, Rat.num_divInt_den]

set_option maxHeartbeats 3200000 in
theorem minus_f (v1 v2 : Value) (x y : Rat) (w : World) (hX1 : nf x ≤ 268435456) (hX2 : nf y ≤ 268435456) (h1 : FracR w v1 x) (h2 : FracR w v2 y) :
    Calls Tryz.prog 62 #[v1, v2] w fun e w' => ∃ v, e = .returned v ∧ Ext w w' ∧ FracO w' w.heap.size v (x - y) := by
  have H1 := h1
  have H2 := h2
  obtain ⟨p1, q1, r1, s1, t1, u1, f1, g1, rfl⟩ := h1.shape
  obtain ⟨p2, q2, r2, s2, t2, u2, f2, g2, rfl⟩ := h2.shape
  have bn1 : nl x.num ≤ 268435456 := Nat.le_trans (Nat.le_max_left _ _) hX1
  have bd1 : nl (x.den : Int) ≤ 268435456 := Nat.le_trans (Nat.le_max_right _ _) hX1
  have bn2 : nl y.num ≤ 268435456 := Nat.le_trans (Nat.le_max_left _ _) hX2
  have bd2 : nl (y.den : Int) ≤ 268435456 := Nat.le_trans (Nat.le_max_right _ _) hX2
  have tA := mkHid (fun w (h1 : IntR w (.agg #[.bool p1, .slice q1 r1 s1]) x.num) (h2 : IntR w (.agg #[.bool t2, .slice u2 f2 g2]) (y.den : Int)) => times_c _ _ _ _ w (Nat.le_trans bn1 (by decide)) (Nat.le_trans bd2 (by decide)) h1 h2)
  have tB := mkHid (fun w (h1 : IntR w (.agg #[.bool p2, .slice q2 r2 s2]) y.num) (h2 : IntR w (.agg #[.bool t1, .slice u1 f1 g1]) (x.den : Int)) => times_c _ _ _ _ w (Nat.le_trans bn2 (by decide)) (Nat.le_trans bd1 (by decide)) h1 h2)
  have tC := mkHid (fun w (h1 : IntR w (.agg #[.bool t1, .slice u1 f1 g1]) (x.den : Int)) (h2 : IntR w (.agg #[.bool t2, .slice u2 f2 g2]) (y.den : Int)) => times_c _ _ _ _ w (Nat.le_trans bd1 (by decide)) (Nat.le_trans bd2 (by decide)) h1 h2)
  have bD : nl ((x.den : Int) * y.den) ≤ 1073741824 := Nat.le_trans (nl_mul _ _) (by omega)
  have n1 := nl_mul x.num y.den
  have n2 := nl_mul y.num x.den
  have n3 := nl_sub (x.num * y.den) (y.num * x.den)
  have bN : nl (x.num * y.den - y.num * x.den) ≤ 1073741824 := by omega
  have b1 : nl (x.num * y.den) ≤ 1073741824 := by omega
  have b2 : nl (y.num * x.den) ≤ 1073741824 := by omega
  have pm := mkHid (fun v w v' h1 h2 => minus_c v v' (x.num * y.den) (y.num * x.den) w b1 b2 h1 h2)
  have lo := mkHid (fun v w' v' (hb : w.heap.size + 3 ≤ w'.heap.size) h1 h2 => lowest_o (w.heap.size + 3) v v' (x.num * y.den - y.num * x.den) ((x.den : Int) * y.den) w' hb bN bD (den_ne x y) h1 h2)
  clear n1 n2 n3 b1 b2
  replace H1 := mkHid H1
  replace H2 := mkHid H2
  clear h1 h2
  go_enter Tryz.func62, Tryz.ntmps62
  go_wp2_with fail
  obtain ⟨wb, hwb⟩ : ∃ wb, wb = (((w.alloc (.cells #[.bool p1, .slice q1 r1 s1, .bool t1, .slice u1 f1 g1] 52)).alloc (.cells #[.bool p2, .slice q2 r2 s2, .bool t2, .slice u2 f2 g2] 52)).alloc (.cells #[.bool false, .slice none 0 0, .bool false, .slice none 0 0] 52)) := ⟨_, rfl⟩
  have hE : Ext w wb := by rw [hwb]; exact ((((Ext.refl w).al _).al _).al _)
  have c10 : ∀ W, Ext wb W → W.cell? ⟨w.heap.size, 0, none⟩ = some (.bool p1) := fun W e => e.cell (by rw [hwb]; go_simp)
  have c11 : ∀ W, Ext wb W → W.cell? ⟨w.heap.size, 1, none⟩ = some (.slice q1 r1 s1) := fun W e => e.cell (by rw [hwb]; go_simp)
  have c12 : ∀ W, Ext wb W → W.cell? ⟨w.heap.size, 2, none⟩ = some (.bool t1) := fun W e => e.cell (by rw [hwb]; go_simp)
  have c13 : ∀ W, Ext wb W → W.cell? ⟨w.heap.size, 3, none⟩ = some (.slice u1 f1 g1) := fun W e => e.cell (by rw [hwb]; go_simp)
  have c20 : ∀ W, Ext wb W → W.cell? ⟨w.heap.size + 1, 0, none⟩ = some (.bool p2) := fun W e => e.cell (by rw [hwb]; go_simp)
  have c21 : ∀ W, Ext wb W → W.cell? ⟨w.heap.size + 1, 1, none⟩ = some (.slice q2 r2 s2) := fun W e => e.cell (by rw [hwb]; go_simp)
  have c22 : ∀ W, Ext wb W → W.cell? ⟨w.heap.size + 1, 2, none⟩ = some (.bool t2) := fun W e => e.cell (by rw [hwb]; go_simp)
  have c23 : ∀ W, Ext wb W → W.cell? ⟨w.heap.size + 1, 3, none⟩ = some (.slice u2 f2 g2) := fun W e => e.cell (by rw [hwb]; go_simp)
  have hB : ∀ W, Ext wb W → W.heap[w.heap.size + 2]? = some (.cells #[.bool false, .slice none 0 0, .bool false, .slice none 0 0] 52) := fun W e => e.blk (by rw [hwb]; exact heap_at _ _ _ (by simp))
  have hsz : w.heap.size + 3 ≤ wb.heap.size := by rw [hwb]; simp
  replace H1 := mkHid (H1.out.ext hE)
  replace H2 := mkHid (H2.out.ext hE)
  rw [← hwb]
  replace hB := mkHid hB
  replace hE := mkHid hE
  clear hwb
  apply region_ext [.val _, .val _, .val _, .val _, .pred (fun W v => IntO W (w.heap.size + 3) v (x.num * y.den)), .val _, .val _, .val _, .val _, .pred (fun W v => IntO W (w.heap.size + 3) v (y.num * x.den)), .pred (fun W v => IntO W (w.heap.size + 3) v (x.num * y.den - y.num * x.den)), .val _, .val _, .val _, .val _, .pred (fun W v => IntO W (w.heap.size + 3) v ((x.den : Int) * y.den)), .pred (fun W v => FracO W (w.heap.size + 3) v (Rat.divInt (x.num * y.den - y.num * x.den) (x.den * y.den)))] (by kernel_rfl) (stable_vals _ (stable_vals _ (stable_vals _ (stable_vals _ (st_intO _ _ (stable_vals _ (stable_vals _ (stable_vals _ (stable_vals _ (st_intO _ _ (st_intO _ _ (stable_vals _ (stable_vals _ (stable_vals _ (stable_vals _ (st_intO _ _ (st_fracO _ _ trivial)))))))))))))))))
  refine ⟨fun W hW _ => by go_simp; exact ⟨Ext.refl _, rfl⟩, ?_⟩
  refine ⟨fun W hW _ => by go_simp; exact ⟨Ext.refl _, rfl⟩, ?_⟩
  refine ⟨fun W hW _ => by go_simp; exact ⟨Ext.refl _, rfl⟩, ?_⟩
  refine ⟨fun W hW _ => by go_simp; exact ⟨Ext.refl _, rfl⟩, ?_⟩
  refine ⟨fun W hW hF => ?g4, fun v104 => ?_⟩
  case g4 =>
    clear hF
    go_simp
    refine (tA.out W (H1.out.num.ext hW) (H2.out.den.ext hW)).mono ?_
    rintro e w' ⟨v, rfl, h1, h2⟩
    exact ⟨v, rfl, h1, h2.mono (Nat.le_trans hsz hW.size)⟩
  refine ⟨fun W hW _ => by go_simp; exact ⟨Ext.refl _, rfl⟩, ?_⟩
  refine ⟨fun W hW _ => by go_simp; exact ⟨Ext.refl _, rfl⟩, ?_⟩
  refine ⟨fun W hW _ => by go_simp; exact ⟨Ext.refl _, rfl⟩, ?_⟩
  refine ⟨fun W hW _ => by go_simp; exact ⟨Ext.refl _, rfl⟩, ?_⟩
  refine ⟨fun W hW hF => ?g9, fun v109 => ?_⟩
  case g9 =>
    clear hF
    go_simp
    refine (tB.out W (H2.out.num.ext hW) (H1.out.den.ext hW)).mono ?_
    rintro e w' ⟨v, rfl, h1, h2⟩
    exact ⟨v, rfl, h1, h2.mono (Nat.le_trans hsz hW.size)⟩
  refine ⟨fun W hW hF => ?g10, fun v110 => ?_⟩
  case g10 =>
    have d4 : IntO W (w.heap.size + 3) v104 (x.num * y.den) := hF.2.1 (by kernel_rfl)
    replace d4 := mkHid d4
    have d9 : IntO W (w.heap.size + 3) v109 (y.num * x.den) := hF.1 (by kernel_rfl)
    replace d9 := mkHid d9
    clear hF
    go_simp
    refine (pm.out _ W _ d4.out.r d9.out.r).mono ?_
    rintro e w' ⟨v, rfl, h1, h2⟩
    exact ⟨v, rfl, h1, h2.mono (Nat.le_trans hsz hW.size)⟩
  refine ⟨fun W hW _ => by go_simp; exact ⟨Ext.refl _, rfl⟩, ?_⟩
  refine ⟨fun W hW _ => by go_simp; exact ⟨Ext.refl _, rfl⟩, ?_⟩
  refine ⟨fun W hW _ => by go_simp; exact ⟨Ext.refl _, rfl⟩, ?_⟩
  refine ⟨fun W hW _ => by go_simp; exact ⟨Ext.refl _, rfl⟩, ?_⟩
  refine ⟨fun W hW hF => ?g15, fun v115 => ?_⟩
  case g15 =>
    clear hF
    go_simp
    refine (tC.out W (H1.out.den.ext hW) (H2.out.den.ext hW)).mono ?_
    rintro e w' ⟨v, rfl, h1, h2⟩
    exact ⟨v, rfl, h1, h2.mono (Nat.le_trans hsz hW.size)⟩
  refine ⟨fun W hW hF => ?g16, fun v116 => fun W hW hF => ?fin⟩
  case g16 =>
    have d10 : IntO W (w.heap.size + 3) v110 (x.num * y.den - y.num * x.den) := hF.2.1 (by kernel_rfl)
    replace d10 := mkHid d10
    have d15 : IntO W (w.heap.size + 3) v115 ((x.den : Int) * y.den) := hF.1 (by kernel_rfl)
    replace d15 := mkHid d15
    clear hF
    go_simp
    refine (lo.out _ W _ (Nat.le_trans hsz hW.size) d10.out d15.out).mono ?_
    rintro e w' ⟨v, rfl, h1, h2⟩
    exact ⟨v, rfl, h1, h2⟩
  case fin =>
    have d16 : FracO W (w.heap.size + 3) v116 (Rat.divInt (x.num * y.den - y.num * x.den) (x.den * y.den)) := hF.1 rfl
    obtain ⟨x1, x2, x3, x4, y1, y2, y3, y4, rfl⟩ := d16.r.shape
    have R := d16
    have hBW := hB.out W hW
    have FR := ((R.row (g := w.heap.size + 2) (by omega) #[.bool x1, .slice x2 x3 x4, .bool y1, .slice y2 y3 y4]).mono (show w.heap.size ≤ w.heap.size + 3 by omega))
    have FE := (hE.out.trans hW).row (show w.heap.size ≤ w.heap.size + 2 by omega) #[.bool x1, .slice x2 x3 x4, .bool y1, .slice y2 y3 y4]
    rw [div_sub] at FR
    replace FR := mkHid FR
    replace FE := mkHid FE
    clear hF R c10 c11 c12 c13 c20 c21 c22 c23 hW
    go_simp
    go_wp2_with (refine wpList_store_row rfl 52 (.tmp 4) (.tmp 21) rfl (w.heap.size + 2) #[.bool x1, .slice x2 x3 x4, .bool y1, .slice y2 y3 y4] rfl rfl 52 _ hBW (by kernel_rfl) rfl (by kernel_rfl) ?_)
    exact bodyPost_ret (results_cell_row rfl _ _ (w.heap.size + 2) 52 #[.bool x1, .slice x2 x3 x4, .bool y1, .slice y2 y3 y4] (0, 0) _ rfl (setRow_heap _ _ _ _ _ _ hBW) Tryz.underlying52 rfl (by kernel_rfl)) rfl ⟨_, rfl, FE.out, FR.out⟩
set_option maxHeartbeats 3200000 in
theorem cmp_f (v1 v2 : Value) (x y : Rat) (w : World) (hX1 : nf x ≤ 268435456) (hX2 : nf y ≤ 268435456) (h1 : FracR w v1 x) (h2 : FracR w v2 y) :
    Calls Tryz.prog 68 #[v1, v2] w fun e w' => e = .returned (.int .i64 ((x.num * y.den - y.num * x.den).sign)) ∧ Ext w w' := by
  have H1 := h1
  have H2 := h2
  obtain ⟨p1, q1, r1, s1, t1, u1, f1, g1, rfl⟩ := h1.shape
  obtain ⟨p2, q2, r2, s2, t2, u2, f2, g2, rfl⟩ := h2.shape
  have bn1 : nl x.num ≤ 268435456 := Nat.le_trans (Nat.le_max_left _ _) hX1
  have bd1 : nl (x.den : Int) ≤ 268435456 := Nat.le_trans (Nat.le_max_right _ _) hX1
  have bn2 : nl y.num ≤ 268435456 := Nat.le_trans (Nat.le_max_left _ _) hX2
  have bd2 : nl (y.den : Int) ≤ 268435456 := Nat.le_trans (Nat.le_max_right _ _) hX2
  have tA := mkHid (fun w (h1 : IntR w (.agg #[.bool p1, .slice q1 r1 s1]) x.num) (h2 : IntR w (.agg #[.bool t2, .slice u2 f2 g2]) (y.den : Int)) => times_c _ _ _ _ w (Nat.le_trans bn1 (by decide)) (Nat.le_trans bd2 (by decide)) h1 h2)
  have tB := mkHid (fun w (h1 : IntR w (.agg #[.bool p2, .slice q2 r2 s2]) y.num) (h2 : IntR w (.agg #[.bool t1, .slice u1 f1 g1]) (x.den : Int)) => times_c _ _ _ _ w (Nat.le_trans bn2 (by decide)) (Nat.le_trans bd1 (by decide)) h1 h2)
  have n1 := nl_mul x.num y.den
  have n2 := nl_mul y.num x.den
  have b1 : nl (x.num * y.den) ≤ 1073741824 := by omega
  have b2 : nl (y.num * x.den) ≤ 1073741824 := by omega
  have cm := mkHid (fun v w v' h1 h2 => cmp_c v v' (x.num * y.den) (y.num * x.den) w b1 b2 h1 h2)
  clear n1 n2 b1 b2
  replace H1 := mkHid H1
  replace H2 := mkHid H2
  clear h1 h2
  go_enter Tryz.func68, Tryz.ntmps68
  go_wp2_with fail
  obtain ⟨wb, hwb⟩ : ∃ wb, wb = ((w.alloc (.cells #[.bool p1, .slice q1 r1 s1, .bool t1, .slice u1 f1 g1] 52)).alloc (.cells #[.bool p2, .slice q2 r2 s2, .bool t2, .slice u2 f2 g2] 52)) := ⟨_, rfl⟩
  have hE : Ext w wb := by rw [hwb]; exact (((Ext.refl w).al _).al _)
  have c10 : ∀ W, Ext wb W → W.cell? ⟨w.heap.size, 0, none⟩ = some (.bool p1) := fun W e => e.cell (by rw [hwb]; go_simp)
  have c11 : ∀ W, Ext wb W → W.cell? ⟨w.heap.size, 1, none⟩ = some (.slice q1 r1 s1) := fun W e => e.cell (by rw [hwb]; go_simp)
  have c12 : ∀ W, Ext wb W → W.cell? ⟨w.heap.size, 2, none⟩ = some (.bool t1) := fun W e => e.cell (by rw [hwb]; go_simp)
  have c13 : ∀ W, Ext wb W → W.cell? ⟨w.heap.size, 3, none⟩ = some (.slice u1 f1 g1) := fun W e => e.cell (by rw [hwb]; go_simp)
  have c20 : ∀ W, Ext wb W → W.cell? ⟨w.heap.size + 1, 0, none⟩ = some (.bool p2) := fun W e => e.cell (by rw [hwb]; go_simp)
  have c21 : ∀ W, Ext wb W → W.cell? ⟨w.heap.size + 1, 1, none⟩ = some (.slice q2 r2 s2) := fun W e => e.cell (by rw [hwb]; go_simp)
  have c22 : ∀ W, Ext wb W → W.cell? ⟨w.heap.size + 1, 2, none⟩ = some (.bool t2) := fun W e => e.cell (by rw [hwb]; go_simp)
  have c23 : ∀ W, Ext wb W → W.cell? ⟨w.heap.size + 1, 3, none⟩ = some (.slice u2 f2 g2) := fun W e => e.cell (by rw [hwb]; go_simp)
  have hsz : w.heap.size + 2 ≤ wb.heap.size := by rw [hwb]; simp
  replace H1 := mkHid (H1.out.ext hE)
  replace H2 := mkHid (H2.out.ext hE)
  rw [← hwb]
  replace hE := mkHid hE
  clear hwb
  apply region_ext [.val _, .val _, .val _, .val _, .pred (fun W v => IntO W (w.heap.size + 2) v (x.num * y.den)), .val _, .val _, .val _, .val _, .pred (fun W v => IntO W (w.heap.size + 2) v (y.num * x.den)), .val (.int .i64 ((x.num * y.den - y.num * x.den).sign))] (by kernel_rfl) (stable_vals _ (stable_vals _ (stable_vals _ (stable_vals _ (st_intO _ _ (stable_vals _ (stable_vals _ (stable_vals _ (stable_vals _ (st_intO _ _ (stable_vals _ trivial)))))))))))
  refine ⟨fun W hW _ => by go_simp; exact ⟨Ext.refl _, rfl⟩, ?_⟩
  refine ⟨fun W hW _ => by go_simp; exact ⟨Ext.refl _, rfl⟩, ?_⟩
  refine ⟨fun W hW _ => by go_simp; exact ⟨Ext.refl _, rfl⟩, ?_⟩
  refine ⟨fun W hW _ => by go_simp; exact ⟨Ext.refl _, rfl⟩, ?_⟩
  refine ⟨fun W hW hF => ?g4, fun v104 => ?_⟩
  case g4 =>
    clear hF
    go_simp
    refine (tA.out W (H1.out.num.ext hW) (H2.out.den.ext hW)).mono ?_
    rintro e w' ⟨v, rfl, h1, h2⟩
    exact ⟨v, rfl, h1, h2.mono (Nat.le_trans hsz hW.size)⟩
  refine ⟨fun W hW _ => by go_simp; exact ⟨Ext.refl _, rfl⟩, ?_⟩
  refine ⟨fun W hW _ => by go_simp; exact ⟨Ext.refl _, rfl⟩, ?_⟩
  refine ⟨fun W hW _ => by go_simp; exact ⟨Ext.refl _, rfl⟩, ?_⟩
  refine ⟨fun W hW _ => by go_simp; exact ⟨Ext.refl _, rfl⟩, ?_⟩
  refine ⟨fun W hW hF => ?g9, fun v109 => ?_⟩
  case g9 =>
    clear hF
    go_simp
    refine (tB.out W (H2.out.num.ext hW) (H1.out.den.ext hW)).mono ?_
    rintro e w' ⟨v, rfl, h1, h2⟩
    exact ⟨v, rfl, h1, h2.mono (Nat.le_trans hsz hW.size)⟩
  refine ⟨fun W hW hF => ?g10, fun W hW hF => ?fin⟩
  case g10 =>
    have d4 : IntO W (w.heap.size + 2) v104 (x.num * y.den) := hF.2.1 (by kernel_rfl)
    replace d4 := mkHid d4
    have d9 : IntO W (w.heap.size + 2) v109 (y.num * x.den) := hF.1 (by kernel_rfl)
    replace d9 := mkHid d9
    clear hF
    go_simp
    refine (cm.out _ W _ d4.out.r d9.out.r).mono ?_
    rintro e w' ⟨rfl, hE⟩
    exact ⟨rfl, hE⟩
  case fin =>
    have FE := hE.out.trans hW
    replace FE := mkHid FE
    clear hF hW
    go_simp
    go_wp2_with fail
    go_ret
    exact ⟨rfl, FE.out⟩
end Go.Proofs.YtjelnmokcpoofaaGreatDoor
namespace Go.Proofs.YtjelnmokcpoofaaGreatDoor
set_option maxRecDepth 100000
open Go Go.RowKit Go.Proofs
theorem nl_zero : nl 0 ≤ 1073741824 := by unfold nl; simp [lim_zero]
theorem nl_one : nl 1 ≤ 1073741824 := by unfold nl; simp; rw [lim_one (by omega) (by omega)]; simp
theorem plus_zero (v v0 : Value) (X : Int) (w : World) (hX : nl X ≤ 1073741824) (h1 : IntR w v X) (h0 : IntR w v0 0) :
    Calls Tryz.prog 98 #[v, v0] w fun e w' => ∃ v, e = .returned v ∧ Ext w w' ∧ IntO w' w.heap.size v X := by
  have := plus_c v v0 X 0 w hX nl_zero h1 h0
  rwa [Int.add_zero] at this

set_option maxHeartbeats 3200000 in
theorem copy_f (v1 : Value) (x : Rat) (w : World) (hX1 : nf x ≤ 268435456) (h1 : FracR w v1 x) :
    Calls Tryz.prog 58 #[v1] w fun e w' => ∃ v, e = .returned v ∧ Ext w w' ∧ FracO w' w.heap.size v (x) := by
  have H1 := h1
  obtain ⟨p1, q1, r1, s1, t1, u1, f1, g1, rfl⟩ := h1.shape
  have bn1 : nl x.num ≤ 268435456 := Nat.le_trans (Nat.le_max_left _ _) hX1
  have bd1 : nl (x.den : Int) ≤ 268435456 := Nat.le_trans (Nat.le_max_right _ _) hX1
  have ho := mkHid (fun w => of_c 0 w (by omega) (by omega))
  have pzn := mkHid (fun w v0 (h : IntR w (.agg #[.bool p1, .slice q1 r1 s1]) x.num) h0 => plus_zero _ v0 _ w (Nat.le_trans bn1 (by decide)) h h0)
  have pz := mkHid (fun w v0 (h : IntR w (.agg #[.bool t1, .slice u1 f1 g1]) (x.den : Int)) h0 => plus_zero _ v0 _ w (Nat.le_trans bd1 (by decide)) h h0)
  replace H1 := mkHid H1
  clear h1
  go_enter Tryz.func58, Tryz.ntmps58
  go_wp2_with fail
  obtain ⟨wb, hwb⟩ : ∃ wb, wb = ((w.alloc (.cells #[.bool p1, .slice q1 r1 s1, .bool t1, .slice u1 f1 g1] 52)).alloc (.cells #[.bool false, .slice none 0 0, .bool false, .slice none 0 0] 52)) := ⟨_, rfl⟩
  have hE : Ext w wb := by rw [hwb]; exact (((Ext.refl w).al _).al _)
  have c10 : ∀ W, Ext wb W → W.cell? ⟨w.heap.size, 0, none⟩ = some (.bool p1) := fun W e => e.cell (by rw [hwb]; go_simp)
  have c11 : ∀ W, Ext wb W → W.cell? ⟨w.heap.size, 1, none⟩ = some (.slice q1 r1 s1) := fun W e => e.cell (by rw [hwb]; go_simp)
  have c12 : ∀ W, Ext wb W → W.cell? ⟨w.heap.size, 2, none⟩ = some (.bool t1) := fun W e => e.cell (by rw [hwb]; go_simp)
  have c13 : ∀ W, Ext wb W → W.cell? ⟨w.heap.size, 3, none⟩ = some (.slice u1 f1 g1) := fun W e => e.cell (by rw [hwb]; go_simp)
  have hB : ∀ W, Ext wb W → W.heap[w.heap.size + 1]? = some (.cells #[.bool false, .slice none 0 0, .bool false, .slice none 0 0] 52) := fun W e => e.blk (by rw [hwb]; exact heap_at _ _ _ (by simp))
  have hsz : w.heap.size + 2 ≤ wb.heap.size := by rw [hwb]; simp
  replace H1 := mkHid (H1.out.ext hE)
  rw [← hwb]
  replace hB := mkHid hB
  replace hE := mkHid hE
  clear hwb
  refine (ho.out wb).mono ?_
  rintro e w1 ⟨vo, rfl, hE1, hvo⟩
  obtain ⟨ob, oa, on, oc, rfl⟩ := hvo.r.shape
  have hE1' := mkHid hE1
  have hvo' := mkHid hvo.r
  clear hE1 hvo
  go_wp2_with fail
  obtain ⟨w2, hw2⟩ : ∃ w2, w2 = w1.alloc (.cells #[.bool ob, .slice oa on oc] 50) := ⟨_, rfl⟩
  rw [← hw2]
  have hE2 : Ext wb w2 := by rw [hw2]; exact hE1'.out.al _
  have o0 : ∀ W, Ext w2 W → W.cell? ⟨w1.heap.size, 0, none⟩ = some (.bool ob) := fun W e => e.cell (by rw [hw2]; go_simp)
  have o1 : ∀ W, Ext w2 W → W.cell? ⟨w1.heap.size, 1, none⟩ = some (.slice oa on oc) := fun W e => e.cell (by rw [hw2]; go_simp)
  have Ho := mkHid (show IntR w2 (.agg #[.bool ob, .slice oa on oc]) 0 by rw [hw2]; exact hvo'.out.ext ((Ext.refl _).al _))
  replace c10 := fun W (e : Ext w2 W) => c10 W (hE2.trans e)
  replace c11 := fun W (e : Ext w2 W) => c11 W (hE2.trans e)
  replace c12 := fun W (e : Ext w2 W) => c12 W (hE2.trans e)
  replace c13 := fun W (e : Ext w2 W) => c13 W (hE2.trans e)
  replace hB := mkHid (fun W (e : Ext w2 W) => hB.out W (hE2.trans e))
  replace H1 := mkHid (H1.out.ext hE2)
  replace hE := mkHid (hE.out.trans hE2)
  replace hsz : w.heap.size + 2 ≤ w2.heap.size := Nat.le_trans hsz hE2.size
  clear hE1' hvo' hw2 hE2
  apply region_ext [.val _, .val _, .val _, .pred (fun W v => IntO W (w.heap.size + 2) v (x.num)), .val _, .val _, .val _, .pred (fun W v => IntO W (w.heap.size + 2) v ((x.den : Int)))] (by kernel_rfl) (stable_vals _ (stable_vals _ (stable_vals _ (st_intO _ _ (stable_vals _ (stable_vals _ (stable_vals _ (st_intO _ _ trivial))))))))
  refine ⟨fun W hW _ => by go_simp; exact ⟨Ext.refl _, rfl⟩, ?_⟩
  refine ⟨fun W hW _ => by go_simp; exact ⟨Ext.refl _, rfl⟩, ?_⟩
  refine ⟨fun W hW _ => by go_simp; exact ⟨Ext.refl _, rfl⟩, ?_⟩
  refine ⟨fun W hW hF => ?g3, fun v103 => ?_⟩
  case g3 =>
    clear hF
    go_simp
    refine (pzn.out W _ (H1.out.num.ext hW) (Ho.out.ext hW)).mono ?_
    rintro e w' ⟨v, rfl, h1, h2⟩
    exact ⟨v, rfl, h1, h2.mono (Nat.le_trans hsz hW.size)⟩
  refine ⟨fun W hW _ => by go_simp; exact ⟨Ext.refl _, rfl⟩, ?_⟩
  refine ⟨fun W hW _ => by go_simp; exact ⟨Ext.refl _, rfl⟩, ?_⟩
  refine ⟨fun W hW _ => by go_simp; exact ⟨Ext.refl _, rfl⟩, ?_⟩
  refine ⟨fun W hW hF => ?g7, fun v107 => fun W hW hF => ?fin⟩
  case g7 =>
    clear hF
    go_simp
    refine (pz.out W _ (H1.out.den.ext hW) (Ho.out.ext hW)).mono ?_
    rintro e w' ⟨v, rfl, h1, h2⟩
    exact ⟨v, rfl, h1, h2.mono (Nat.le_trans hsz hW.size)⟩
  case fin =>
    have d3 : IntO W (w.heap.size + 2) v103 (x.num) := hF.2.1 rfl
    have d7 : IntO W (w.heap.size + 2) v107 ((x.den : Int)) := hF.1 rfl
    obtain ⟨x1, x2, x3, x4, rfl⟩ := d3.r.shape
    obtain ⟨y1, y2, y3, y4, rfl⟩ := d7.r.shape
    have R : FracO W (w.heap.size + 2) (.agg #[.bool x1, .slice x2 x3 x4, .bool y1, .slice y2 y3 y4]) (x) := ⟨_, _, _, _, _, _, _, _, rfl, by exact d3, by exact d7⟩
    have hBW := hB.out W hW
    have FR := ((R.row (g := w.heap.size + 1) (by omega) #[.bool x1, .slice x2 x3 x4, .bool y1, .slice y2 y3 y4]).mono (show w.heap.size ≤ w.heap.size + 2 by omega))
    have FE := (hE.out.trans hW).row (show w.heap.size ≤ w.heap.size + 1 by omega) #[.bool x1, .slice x2 x3 x4, .bool y1, .slice y2 y3 y4]
    replace FR := mkHid FR
    replace FE := mkHid FE
    clear hF R c10 c11 c12 c13 hW
    go_simp
    go_wp2_with (refine wpList_store_row rfl 52 (.tmp 2) (.tmp 13) rfl (w.heap.size + 1) #[.bool x1, .slice x2 x3 x4, .bool y1, .slice y2 y3 y4] rfl rfl 52 _ hBW (by kernel_rfl) rfl (by kernel_rfl) ?_)
    exact bodyPost_ret (results_cell_row rfl _ _ (w.heap.size + 1) 52 #[.bool x1, .slice x2 x3 x4, .bool y1, .slice y2 y3 y4] (0, 0) _ rfl (setRow_heap _ _ _ _ _ _ hBW) Tryz.underlying52 rfl (by kernel_rfl)) rfl ⟨_, rfl, FE.out, FR.out⟩
end Go.Proofs.YtjelnmokcpoofaaGreatDoor
namespace Go.Proofs.YtjelnmokcpoofaaGreatDoor
set_option maxRecDepth 100000
open Go Go.RowKit Go.Proofs
theorem nought_f (w : World) : Calls Tryz.prog 36 #[] w fun e w' => ∃ v, e = .returned v ∧ Ext w w' ∧ FracO w' w.heap.size v 0 := by
  have o1 := mkHid (fun w => of_c 1 w (by omega) (by omega))
  go_enter Tryz.func36, Tryz.ntmps36
  go_wp2_with fail
  refine (o1.out _).mono ?_
  rintro e w3 ⟨v, rfl, hE3, hv⟩
  obtain ⟨y1, y2, y3, y4, rfl⟩ := hv.r.shape
  have hB := hE3.blk (heap_alloc_new _ _)
  have hz : IntO w3 (w.alloc (.cells #[.bool false, .slice none 0 0, .bool false, .slice none 0 0] 52)).heap.size (.agg #[.bool false, .slice none 0 0]) 0 := ⟨.slice none 0 0, by simp, by simp [lim_zero]; exact magO_nil _ _⟩
  have R : FracO w3 (w.alloc (.cells #[.bool false, .slice none 0 0, .bool false, .slice none 0 0] 52)).heap.size (.agg #[.bool false, .slice none 0 0, .bool y1, .slice y2 y3 y4]) 0 := ⟨_, _, _, _, _, _, _, _, rfl, hz, hv⟩
  have FR := (R.row (g := w.heap.size) (by simp) #[.bool false, .slice none 0 0, .bool y1, .slice y2 y3 y4]).mono (show w.heap.size ≤ _ by simp)
  have FE := (((Ext.refl w).al _).trans hE3).row (Nat.le_refl _) #[.bool false, .slice none 0 0, .bool y1, .slice y2 y3 y4]
  replace FR := mkHid FR
  replace FE := mkHid FE
  clear hv hE3 hz R
  go_wp2_with (refine wpList_store_row rfl 52 (.tmp 0) (.tmp 2) rfl w.heap.size #[.bool false, .slice none 0 0, .bool y1, .slice y2 y3 y4] rfl rfl 52 _ hB (by kernel_rfl) rfl (by kernel_rfl) ?_)
  exact bodyPost_ret (results_cell_row rfl _ _ w.heap.size 52 #[.bool false, .slice none 0 0, .bool y1, .slice y2 y3 y4] (0, 0) _ rfl (setRow_heap _ _ _ _ _ _ hB) Tryz.underlying52 rfl (by kernel_rfl)) rfl ⟨_, rfl, FE.out, FR.out⟩
theorem sign_f (v : Value) (x : Rat) (w : World) (hX : nf x ≤ 268435456) (h : FracR w v x) :
    Calls Tryz.prog 184 #[v] w fun e w' => e = .returned (.int .i64 x.num.sign) ∧ Ext w w' := by
  have H := h
  obtain ⟨x1, x2, x3, x4, y1, y2, y3, y4, rfl⟩ := h.shape
  have hn : nl x.num ≤ 1073741824 := Nat.le_trans (Nat.le_max_left _ _) (Nat.le_trans hX (by decide))
  have hs := mkHid (fun w h => sign_c (.agg #[.bool x1, .slice x2 x3 x4]) x.num w h hn)
  replace H := mkHid H
  clear h
  go_enter Tryz.func184, Tryz.ntmps184
  go_wp2_with fail
  refine (hs.out _ (H.out.ext ((Ext.refl w).al _)).num).mono ?_
  rintro e w' ⟨rfl, hE⟩
  have FE := mkHid (((Ext.refl w).al _).trans hE)
  clear hE
  go_wp2_with fail
  go_ret
  exact ⟨rfl, FE.out⟩
end Go.Proofs.YtjelnmokcpoofaaGreatDoor
namespace Go.Proofs.YtjelnmokcpoofaaGreatDoor
set_option maxRecDepth 100000
open Go Go.RowKit Go.Proofs
/-- A value of api.Frac with these limbs, whatever they be. -/
def AnyL (w : World) (v : Value) (b1 : Bool) (l1 : List Nat) (b2 : Bool) (l2 : List Nat) : Prop :=
  ∃ a1 c1 a2 c2, v = .agg #[.bool b1, .slice a1 l1.length c1, .bool b2, .slice a2 l2.length c2] ∧ l1.length ≤ 4294967296 ∧ l2.length ≤ 4294967296 ∧ AnyR w (.agg #[.bool b1, .slice a1 l1.length c1]) b1 l1 ∧ AnyR w (.agg #[.bool b2, .slice a2 l2.length c2]) b2 l2
def okF (b1 : Bool) (l1 : List Nat) (b2 : Bool) (l2 : List Nat) : Bool :=
  goodI b1 l1 && goodI b2 l2 && decide (0 < sg b2 (val l2)) && decide (Int.gcd (sg b1 (val l1)) (sg b2 (val l2)) = 1)
/-- The fraction that these limbs are, if they are one that Check lets in. -/
def ratF (b1 : Bool) (l1 : List Nat) (b2 : Bool) (l2 : List Nat) : Option Rat :=
  if okF b1 l1 b2 l2 then some (Rat.divInt (sg b1 (val l1)) (sg b2 (val l2))) else none
/-- A value of api.Frac: 'some x' where Check lets it in, none where not. -/
def AnyF (w : World) (v : Value) (o : Option Rat) : Prop := ∃ b1 l1 b2 l2, AnyL w v b1 l1 b2 l2 ∧ o = ratF b1 l1 b2 l2
theorem AnyF.ext {w w' : World} {v : Value} {o : Option Rat} (h : AnyF w v o) (e : Ext w w') : AnyF w' v o := by
  obtain ⟨b1, l1, b2, l2, ⟨a1, c1, a2, c2, h1, h2, h3, h4, h5⟩, h6⟩ := h
  exact ⟨b1, l1, b2, l2, ⟨a1, c1, a2, c2, h1, h2, h3, h4.ext e, h5.ext e⟩, h6⟩
theorem AnyF.shape {w : World} {v : Value} {o : Option Rat} (h : AnyF w v o) : ∃ b1 a1 n1 c1 b2 a2 n2 c2, v = .agg #[.bool b1, .slice a1 n1 c1, .bool b2, .slice a2 n2 c2] := by
  obtain ⟨b1, l1, b2, l2, ⟨a1, c1, a2, c2, h1, h2, h3, h4, h5⟩, h6⟩ := h
  exact ⟨_, _, _, _, _, _, _, _, h1⟩
theorem low_prime {n d : Int} (hd : 0 < d) (hg : Int.gcd n d = 1) : (Rat.divInt n d).num = n ∧ ((Rat.divInt n d).den : Int) = d := by
  rw [low_num, low_den n d (by omega), hg]
  simp
  omega
theorem AnyF.frac {w : World} {v : Value} {x : Rat} (h : AnyF w v (some x)) : FracR w v x ∧ nf x ≤ 2048 := by
  obtain ⟨b1, l1, b2, l2, ⟨a1, c1, a2, c2, rfl, h2, h3, h4, h5⟩, h6⟩ := h
  unfold ratF at h6
  split at h6
  · rename_i ho
    unfold okF at ho
    simp only [Bool.and_eq_true, decide_eq_true_eq] at ho
    obtain ⟨⟨⟨o1, o2⟩, o3⟩, o4⟩ := ho
    simp only [Option.some.injEq] at h6
    obtain ⟨e1, e2⟩ := low_prime o3 o4
    rw [← h6] at e1 e2
    obtain ⟨i1, i2⟩ := any_int h4 o1
    obtain ⟨j1, j2⟩ := any_int h5 o2
    refine ⟨⟨_, _, _, _, _, _, _, _, rfl, by rw [e1]; exact i1, by rw [e2]; exact j1⟩, ?_⟩
    unfold nf
    rw [e1, e2]
    exact Nat.max_le.2 ⟨i2, j2⟩
  · cases h6
theorem sg_abs (X : Int) : sg (decide (X < 0)) X.natAbs = X := by
  unfold sg
  split
  · rename_i h
    simp at h
    omega
  · rename_i h
    simp at h
    omega
theorem good_int_iff (X : Int) : goodI (decide (X < 0)) (lim X.natAbs) = decide (nl X ≤ 2048) := by
  by_cases h : nl X ≤ 2048
  · rw [good_int h, decide_eq_true h]
  · have : goodI (decide (X < 0)) (lim X.natAbs) = false := by
      unfold goodI nl at *
      simp [h]
    rw [this, decide_eq_false h]
theorem FracR.any {w : World} {v : Value} {x : Rat} (h : FracR w v x) (hn : nf x ≤ 4294967296) : AnyF w v (if nf x ≤ 2048 then some x else none) := by
  obtain ⟨b1, a1, n1, c1, b2, a2, n2, c2, rfl, h1, h2⟩ := h
  obtain ⟨s1, e1, x1, y1, rfl, k1, r1⟩ := h1
  obtain ⟨s2, e2, x2, y2, rfl, k2, r2⟩ := h2
  simp only [Value.agg.injEq, Array.mk.injEq, List.cons.injEq, and_true, Value.bool.injEq, Value.slice.injEq] at e1 e2
  obtain ⟨rfl, rfl, rfl, rfl⟩ := e1
  obtain ⟨rfl, rfl, rfl, rfl⟩ := e2
  have m1 : nl x.num ≤ nf x := Nat.le_max_left _ _
  have m2 : nl (x.den : Int) ≤ nf x := Nat.le_max_right _ _
  refine ⟨_, lim x.num.natAbs, _, lim (x.den : Int).natAbs, ⟨_, _, _, _, rfl, by unfold nl at *; omega, by unfold nl at *; omega, ⟨_, _, rfl, lim_ok _, k1, r1⟩, ⟨_, _, rfl, lim_ok _, k2, r2⟩⟩, ?_⟩
  unfold ratF okF
  rw [val_lim, val_lim, sg_abs, sg_abs, good_int_iff, good_int_iff]
  have hd : decide (0 < (x.den : Int)) = true := by simp; exact Nat.pos_of_ne_zero x.den_nz
  have hg : Int.gcd x.num x.den = 1 := x.reduced
  rw [hd, hg, Rat.num_divInt_den]
  have : (decide (nl x.num ≤ 2048) && decide (nl (x.den : Int) ≤ 2048) && true && decide (1 = 1)) = decide (nf x ≤ 2048) := by
    unfold nf
    by_cases u1 : nl x.num ≤ 2048 <;> by_cases u2 : nl (x.den : Int) ≤ 2048 <;> simp [u1, u2, Nat.max_le]
  rw [this]
  by_cases u : nf x ≤ 2048 <;> simp [u]
theorem row4_cells {w : World} {g T : Nat} {u1 u2 u3 u4 : Value} (h : w.heap[g]? = some (.cells #[u1, u2, u3, u4] T (0, 0))) : w.cell? ⟨g, 0, none⟩ = some u1 ∧ w.cell? ⟨g, 1, none⟩ = some u2 ∧ w.cell? ⟨g, 2, none⟩ = some u3 ∧ w.cell? ⟨g, 3, none⟩ = some u4 := by
  refine ⟨?_, ?_, ?_, ?_⟩ <;> simp [World.cell?, h]
set_option maxHeartbeats 3200000 in
theorem check_f (v : Value) (o : Option Rat) (w : World) (h : AnyF w v o) :
    Calls Tryz.prog 60 #[v] w fun e w' => e = .returned (.int .i64 (if o.isSome then 0 else 1)) ∧ Ext w w' := by
  obtain ⟨b1, l1, b2, l2, ⟨a1, c1, a2, c2, rfl, h2, h3, h4, h5⟩, rfl⟩ := h
  have k1 := mkHid (fun w h => check_c (.agg #[.bool b1, .slice a1 l1.length c1]) b1 l1 w h2 h)
  have k2 := mkHid (fun w h => check_c (.agg #[.bool b2, .slice a2 l2.length c2]) b2 l2 w h3 h)
  replace h4 := mkHid h4
  replace h5 := mkHid h5
  by_cases g1 : goodI b1 l1 = true
  · rw [if_pos g1] at k1
    by_cases g2 : goodI b2 l2 = true
    · rw [if_pos g2] at k2
      obtain ⟨i1, n1⟩ := any_int h4.out g1
      obtain ⟨i2, n2⟩ := any_int h5.out g2
      have hn1 : nl (sg b1 (val l1)) ≤ 1073741824 := Nat.le_trans n1 (by decide)
      have hn2 : nl (sg b2 (val l2)) ≤ 1073741824 := Nat.le_trans n2 (by decide)
      have hr : (ratF b1 l1 b2 l2).isSome = decide (0 < sg b2 (val l2) ∧ Int.gcd (sg b1 (val l1)) (sg b2 (val l2)) = 1) := by
        unfold ratF okF
        rw [g1, g2]
        by_cases u1 : 0 < sg b2 (val l2) <;> by_cases u2 : Int.gcd (sg b1 (val l1)) (sg b2 (val l2)) = 1 <;> simp [u1, u2]
      rw [hr]
      clear hr g1 g2 h2 h3 n1 n2
      generalize sg b1 (val l1) = X at *
      generalize sg b2 (val l2) = Y at *
      have hsg := mkHid (fun w h => sign_c (.agg #[.bool b2, .slice a2 l2.length c2]) Y w h hn2)
      have hcm := mkHid (fun w h h' => common_c (.agg #[.bool b1, .slice a1 l1.length c1]) (.agg #[.bool b2, .slice a2 l2.length c2]) X Y w hn1 hn2 h h')
      replace i1 := mkHid i1
      replace i2 := mkHid i2
      by_cases hy : 0 < Y
      · have hs : Y.sign = 1 := Int.sign_eq_one_of_pos hy
        rw [hs] at hsg
        have hgl : nl (Int.gcd X Y : Nat) ≤ 1073741824 := by
          refine Nat.le_trans (lim_mono ?_) hn2
          rw [Int.natAbs_natCast]
          exact Nat.le_of_dvd (by omega) (by simpa using (Int.natAbs_dvd_natAbs.2 (Int.gcd_dvd_right X Y)))
        have hof := mkHid (fun w => of_c 1 w (by omega) (by omega))
        by_cases hg : Int.gcd X Y = 1
        · rw [if_pos (decide_eq_true ⟨hy, hg⟩)]
          have hcp := mkHid (fun v1 v2 w h1 h2 => cmp_c v1 v2 (Int.gcd X Y : Nat) 1 w hgl nl_one h1 h2)
          rw [show (((Int.gcd X Y : Nat) : Int) - 1).sign = 0 by rw [hg]; rfl] at hcp
          clear hs hgl hn1 hn2
          generalize Int.gcd X Y = G at *
          replace hy := mkHid hy
          replace hg := mkHid hg
          go_enter Tryz.func60, Tryz.ntmps60
          go_wp2_with fail
          refine (k1.out _ (h4.out.ext ((Ext.refl w).al _))).mono ?_
          rintro e w1 ⟨rfl, hE1⟩
          have hb := row4_cells (hE1.blk (heap_alloc_new w _))
          have E1 := ((Ext.refl w).al _).trans hE1
          replace k2 := mkHid (k2.out w1 (h5.out.ext E1))
          replace hb := hb
          have hE1' := mkHid hE1
          replace E1 := mkHid E1
          clear hE1 k1
          go_wp2_with fail
          refine k2.out.mono ?_
          rintro e w2 ⟨rfl, hE2⟩
          have hE12 := hE1'.out.trans hE2
          replace hb := row4_cells (hE12.blk (heap_alloc_new w _))
          replace E1 := mkHid (E1.out.trans hE2)
          replace hE12 := mkHid hE12
          clear hE2 k2 hE1'
          go_wp2_with fail
          refine (hsg.out w2 (i2.out.ext E1.out)).mono ?_
          rintro e w3 ⟨rfl, hE3⟩
          replace hE12 := mkHid (hE12.out.trans hE3)
          replace hb := row4_cells (hE12.out.blk (heap_alloc_new w _))
          replace E1 := mkHid (E1.out.trans hE3)
          clear hE3
          go_wp2_with fail
          refine (hcm.out w3 (i1.out.ext E1.out) (i2.out.ext E1.out)).mono ?_
          rintro e w4 ⟨vg, rfl, hE4, hgv⟩
          replace E1 := mkHid (E1.out.trans hE4)
          replace hgv := mkHid hgv
          clear hE4 hb hE12
          go_wp2_with fail
          refine (hof.out w4).mono ?_
          rintro e w5 ⟨vo, rfl, hE5, hov⟩
          replace E1 := mkHid (E1.out.trans hE5)
          replace hgv := mkHid (hgv.out.r.ext hE5)
          replace hov := mkHid hov.r
          clear hE5
          go_wp2_with fail
          refine (hcp.out _ _ w5 hgv.out hov.out).mono ?_
          rintro e w6 ⟨rfl, hE6⟩
          replace E1 := mkHid (E1.out.trans hE6)
          clear hE6
          go_wp2_with fail
          go_ret
          exact ⟨rfl, E1.out⟩
        · rw [if_neg (fun h => hg (of_decide_eq_true h).2)]
          obtain ⟨S, hS⟩ : ∃ S, S = (((Int.gcd X Y : Nat) : Int) - 1).sign := ⟨_, rfl⟩
          have hS0 : (S == 0) = false := by
            rw [hS, beq_eq_false_iff_ne]
            intro h
            have := Int.sign_eq_zero_iff_zero.1 h
            omega
          have hcp := mkHid (fun v1 v2 w h1 h2 => cmp_c v1 v2 (Int.gcd X Y : Nat) 1 w hgl nl_one h1 h2)
          rw [← hS] at hcp
          replace hS := mkHid hS
          clear hs hgl hn1 hn2
          generalize Int.gcd X Y = G at *
          replace hy := mkHid hy
          replace hg := mkHid hg
          go_enter Tryz.func60, Tryz.ntmps60
          go_wp2_with fail
          refine (k1.out _ (h4.out.ext ((Ext.refl w).al _))).mono ?_
          rintro e w1 ⟨rfl, hE1⟩
          have hb := row4_cells (hE1.blk (heap_alloc_new w _))
          have E1 := ((Ext.refl w).al _).trans hE1
          replace k2 := mkHid (k2.out w1 (h5.out.ext E1))
          replace hb := hb
          have hE1' := mkHid hE1
          replace E1 := mkHid E1
          clear hE1 k1
          go_wp2_with fail
          refine k2.out.mono ?_
          rintro e w2 ⟨rfl, hE2⟩
          have hE12 := hE1'.out.trans hE2
          replace hb := row4_cells (hE12.blk (heap_alloc_new w _))
          replace E1 := mkHid (E1.out.trans hE2)
          replace hE12 := mkHid hE12
          clear hE2 k2 hE1'
          go_wp2_with fail
          refine (hsg.out w2 (i2.out.ext E1.out)).mono ?_
          rintro e w3 ⟨rfl, hE3⟩
          replace hE12 := mkHid (hE12.out.trans hE3)
          replace hb := row4_cells (hE12.out.blk (heap_alloc_new w _))
          replace E1 := mkHid (E1.out.trans hE3)
          clear hE3
          go_wp2_with fail
          refine (hcm.out w3 (i1.out.ext E1.out) (i2.out.ext E1.out)).mono ?_
          rintro e w4 ⟨vg, rfl, hE4, hgv⟩
          replace E1 := mkHid (E1.out.trans hE4)
          replace hgv := mkHid hgv
          clear hE4 hb hE12
          go_wp2_with fail
          refine (hof.out w4).mono ?_
          rintro e w5 ⟨vo, rfl, hE5, hov⟩
          replace E1 := mkHid (E1.out.trans hE5)
          replace hgv := mkHid (hgv.out.r.ext hE5)
          replace hov := mkHid hov.r
          clear hE5
          go_wp2_with fail
          refine (hcp.out _ _ w5 hgv.out hov.out).mono ?_
          rintro e w6 ⟨rfl, hE6⟩
          replace E1 := mkHid (E1.out.trans hE6)
          clear hE6
          go_wp2_with fail
          go_ret
          exact ⟨rfl, E1.out⟩
      · rw [if_neg (fun h => hy (of_decide_eq_true h).1)]
        have hs : Y.sign ≤ 0 := by
          rcases Int.lt_trichotomy Y 0 with h | h | h
          · rw [Int.sign_eq_neg_one_of_neg h]; decide
          · rw [h]; decide
          · exact absurd h hy
        generalize Y.sign = S at *
        replace hy := mkHid hy
        go_enter Tryz.func60, Tryz.ntmps60
        go_wp2_with fail
        refine (k1.out _ (h4.out.ext ((Ext.refl w).al _))).mono ?_
        rintro e w1 ⟨rfl, hE1⟩
        have hb := row4_cells (hE1.blk (heap_alloc_new w _))
        have E1 := ((Ext.refl w).al _).trans hE1
        replace k2 := mkHid (k2.out w1 (h5.out.ext E1))
        replace hb := hb
        have hE1' := mkHid hE1
        replace E1 := mkHid E1
        clear hE1 k1
        go_wp2_with fail
        refine k2.out.mono ?_
        rintro e w2 ⟨rfl, hE2⟩
        have hE12 := hE1'.out.trans hE2
        replace hb := row4_cells (hE12.blk (heap_alloc_new w _))
        replace E1 := mkHid (E1.out.trans hE2)
        replace hE12 := mkHid hE12
        clear hE2 k2 hE1'
        go_wp2_with fail
        refine (hsg.out w2 (i2.out.ext E1.out)).mono ?_
        rintro e w3 ⟨rfl, hE3⟩
        replace E1 := mkHid (E1.out.trans hE3)
        clear hE3
        go_wp2_with fail
        go_ret
        exact ⟨rfl, E1.out⟩
    · rw [if_neg g2] at k2
      have ho : ratF b1 l1 b2 l2 = none := by unfold ratF okF; simp [g2]
      rw [ho]
      clear ho g1 g2 h2 h3
      simp only [Option.isSome_none]
      rw [if_neg (by decide)]
      go_enter Tryz.func60, Tryz.ntmps60
      go_wp2_with fail
      refine (k1.out _ (h4.out.ext ((Ext.refl w).al _))).mono ?_
      rintro e w1 ⟨rfl, hE1⟩
      have hb := row4_cells (hE1.blk (heap_alloc_new w _))
      have E1 := ((Ext.refl w).al _).trans hE1
      replace k2 := mkHid (k2.out w1 (h5.out.ext E1))
      replace hb := hb
      have hE1' := mkHid hE1
      replace E1 := mkHid E1
      clear hE1 k1
      go_wp2_with fail
      refine k2.out.mono ?_
      rintro e w2 ⟨rfl, hE2⟩
      have hE12 := hE1'.out.trans hE2
      replace hb := row4_cells (hE12.blk (heap_alloc_new w _))
      replace E1 := mkHid (E1.out.trans hE2)
      replace hE12 := mkHid hE12
      clear hE2 k2 hE1'
      go_wp2_with fail
      go_ret
      exact ⟨rfl, E1.out⟩
  · rw [if_neg g1] at k1
    have ho : ratF b1 l1 b2 l2 = none := by unfold ratF okF; simp [g1]
    rw [ho]
    clear ho g1 h2 h3
    simp only [Option.isSome_none]
    rw [if_neg (by decide)]
    go_enter Tryz.func60, Tryz.ntmps60
    go_wp2_with fail
    refine (k1.out _ (h4.out.ext ((Ext.refl w).al _))).mono ?_
    rintro e w1 ⟨rfl, hE1⟩
    replace hE1 := mkHid (((Ext.refl w).al _).trans hE1)
    go_wp2_with fail
    go_ret
    exact ⟨rfl, hE1.out⟩
end Go.Proofs.YtjelnmokcpoofaaGreatDoor
namespace Go.Proofs.YtjelnmokcpoofaaGreatDoor
set_option maxRecDepth 100000
open Go Go.RowKit Go.Proofs
/-- Fractions side by side in a block. -/
def LF (w : World) (g : Nat) (os : List (Option Rat)) : Prop :=
  ∀ k, k < os.length → ∃ b1 a1 n1 c1 b2 a2 n2 c2, w.cell? ⟨g, k * 4, none⟩ = some (.bool b1) ∧ w.cell? ⟨g, k * 4 + 1, none⟩ = some (.slice a1 n1 c1) ∧ w.cell? ⟨g, k * 4 + 2, none⟩ = some (.bool b2) ∧ w.cell? ⟨g, k * 4 + 3, none⟩ = some (.slice a2 n2 c2) ∧
    AnyF w (.agg #[.bool b1, .slice a1 n1 c1, .bool b2, .slice a2 n2 c2]) (os.getD k none)
theorem LF.ext {w w' : World} {g : Nat} {os : List (Option Rat)} (h : LF w g os) (e : Ext w w') : LF w' g os := by
  intro k hk
  obtain ⟨b1, a1, n1, c1, b2, a2, n2, c2, h1, h2, h3, h4, h5⟩ := h k hk
  exact ⟨b1, a1, n1, c1, b2, a2, n2, c2, e.cell h1, e.cell h2, e.cell h3, e.cell h4, h5.ext e⟩
set_option maxHeartbeats 1600000 in
theorem checks_f (g cap : Nat) (os : List (Option Rat)) (w : World) (hn : os.length ≤ 4294967296) (h : LF w g os) :
    Calls Tryz.prog 183 #[.slice (some ⟨g, 0, none⟩) os.length cap] w fun e w' => e = .returned (.bool (os.all Option.isSome)) ∧ Ext w w' := by
  replace h := mkHid h
  obtain ⟨n, hnn⟩ : ∃ n, n = os.length := ⟨_, rfl⟩
  rw [← hnn]
  obtain ⟨r, hr⟩ : ∃ r, r = os.all Option.isSome := ⟨_, rfl⟩
  rw [← hr]
  have hn2 : n ≤ 4294967296 := by omega
  replace hnn := mkHid hnn
  replace hr := mkHid hr
  clear hn
  obtain ⟨wo, hwo⟩ : ∃ wo : World, wo = w := ⟨_, rfl⟩
  go_enter Tryz.func183, Tryz.ntmps183
  go_wp2_with fail
  go_loopw [7] (fun i wr => ∃ k, k ≤ n ∧ i = .int .i64 (k : Nat) ∧ Ext wo wr ∧ ∀ j, j < k → (os.getD j none).isSome = true) (fun i _ => n - (intOf i).toNat)
  case atStart => exact ⟨0, Nat.zero_le _, rfl, hwo ▸ Ext.refl _, fun j hj => absurd hj (by omega)⟩
  case round =>
    obtain ⟨k, hk, rfl, hE, hj⟩ := hrel
    by_cases hlt : k < n
    · obtain ⟨b1, a1, n1, c1, b2, a2, n2, c2, h1, h2, h3, h4, h5⟩ := (h.out.ext (hwo ▸ hE)) k (by rw [← hnn.out]; exact hlt)
      have hck := mkHid (fun w h => check_f (.agg #[.bool b1, .slice a1 n1 c1, .bool b2, .slice a2 n2 c2]) (os.getD k none) w h)
      obtain ⟨o, ho⟩ : ∃ o, o = os.getD k none := ⟨_, rfl⟩
      rw [← ho] at hck h5
      replace h5 := mkHid h5
      replace hE := mkHid hE
      replace hj := mkHid hj
      replace ho := mkHid ho
      cases o with
      | none =>
        have hf : r = false := by
          rw [hr.out, Bool.eq_false_iff]
          intro e
          rw [List.all_eq_true] at e
          have hkl : k < os.length := by rw [← hnn.out]; exact hlt
          have := e _ (List.getElem_mem hkl)
          have h2 := ho.out
          rw [List.getD_eq_getElem?_getD, List.getElem?_eq_getElem hkl] at h2
          simp at h2
          rw [← h2] at this
          cases this
        subst hf
        simp only [Option.isSome_none] at hck
        go_wp2_with fail
        refine (hck.out _ (h5.out.ext ((Ext.refl wr).al _))).mono ?_
        rintro e w2 ⟨rfl, hE2⟩
        replace hE := mkHid (hE.out.trans (((Ext.refl wr).al _).trans hE2))
        clear hE2 h1 h2 h3 h4
        go_wp2_with fail
        go_ret
        exact ⟨rfl, hwo ▸ hE.out⟩
      | some x =>
        simp only [Option.isSome_some] at hck
        go_wp2_with fail
        refine (hck.out _ (h5.out.ext ((Ext.refl wr).al _))).mono ?_
        rintro e w2 ⟨rfl, hE2⟩
        replace hE := mkHid (hE.out.trans (((Ext.refl wr).al _).trans hE2))
        clear hE2 h1 h2 h3 h4
        go_wp2_with fail
        go_roundw
        case rel =>
          refine ⟨k + 1, by omega, by go_num, hE.out, fun j hjk => ?_⟩
          rcases Nat.lt_or_ge j k with h | h
          · exact hj.out j h
          · obtain rfl : j = k := by omega
            rw [← ho.out]
            rfl
        case measure => simp [intOf] <;> omega
    · obtain rfl : n = k := by omega
      have hf : r = true := by
        rw [hr.out, List.all_eq_true]
        intro x hx
        obtain ⟨j, hjl, rfl⟩ := List.getElem_of_mem hx
        have := hj j (by rw [hnn.out]; exact hjl)
        rwa [List.getD_eq_getElem?_getD, List.getElem?_eq_getElem hjl] at this
      subst hf
      replace hE := mkHid hE
      replace hj := mkHid hj
      go_wp2_with fail
      go_ret
      exact ⟨rfl, hwo ▸ hE.out⟩
/-- Fractions in lowest terms side by side in a block. -/
def LR (w : World) (g : Nat) (os : List Rat) : Prop :=
  ∀ k, k < os.length → ∃ b1 a1 n1 c1 b2 a2 n2 c2, w.cell? ⟨g, k * 4, none⟩ = some (.bool b1) ∧ w.cell? ⟨g, k * 4 + 1, none⟩ = some (.slice a1 n1 c1) ∧ w.cell? ⟨g, k * 4 + 2, none⟩ = some (.bool b2) ∧ w.cell? ⟨g, k * 4 + 3, none⟩ = some (.slice a2 n2 c2) ∧
    FracR w (.agg #[.bool b1, .slice a1 n1 c1, .bool b2, .slice a2 n2 c2]) (os.getD k 0)
theorem LR.ext {w w' : World} {g : Nat} {os : List Rat} (h : LR w g os) (e : Ext w w') : LR w' g os := by
  intro k hk
  obtain ⟨b1, a1, n1, c1, b2, a2, n2, c2, h1, h2, h3, h4, h5⟩ := h k hk
  exact ⟨b1, a1, n1, c1, b2, a2, n2, c2, e.cell h1, e.cell h2, e.cell h3, e.cell h4, h5.ext e⟩
theorem frac_lens {w : World} {b1 b2 : Bool} {a1 a2 : Option Addr} {n1 c1 n2 c2 : Nat} {x : Rat} (h : FracR w (.agg #[.bool b1, .slice a1 n1 c1, .bool b2, .slice a2 n2 c2]) x) : n1 = nl x.num ∧ n2 = nl (x.den : Int) := by
  obtain ⟨s1, e1, _, _, rfl, _, _⟩ := h.num
  obtain ⟨s2, e2, _, _, rfl, _, _⟩ := h.den
  simp only [Value.agg.injEq, Array.mk.injEq, List.cons.injEq, and_true, Value.slice.injEq] at e1 e2
  exact ⟨e1.2.2.1, e2.2.2.1⟩
set_option maxHeartbeats 1600000 in
theorem longs_f (g cap : Nat) (os : List Rat) (w : World) (hn : os.length ≤ 4294967296) (hb : ∀ x ∈ os, nf x ≤ 4294967296) (h : LR w g os) :
    Calls Tryz.prog 182 #[.slice (some ⟨g, 0, none⟩) os.length cap] w fun e w' => e = .returned (.bool (os.any fun x => decide (2048 < nf x))) ∧ Ext w w' := by
  replace h := mkHid h
  replace hb := mkHid hb
  obtain ⟨n, hnn⟩ : ∃ n, n = os.length := ⟨_, rfl⟩
  rw [← hnn]
  obtain ⟨r, hr⟩ : ∃ r, r = os.any fun x => decide (2048 < nf x) := ⟨_, rfl⟩
  rw [← hr]
  have hn2 : n ≤ 4294967296 := by omega
  replace hnn := mkHid hnn
  replace hr := mkHid hr
  clear hn
  obtain ⟨wo, hwo⟩ : ∃ wo : World, wo = w := ⟨_, rfl⟩
  go_enter Tryz.func182, Tryz.ntmps182
  go_wp2_with fail
  go_loopw [7] (fun i wr => ∃ k, k ≤ n ∧ i = .int .i64 (k : Nat) ∧ Ext wo wr ∧ ∀ j, j < k → nf (os.getD j 0) ≤ 2048) (fun i _ => n - (intOf i).toNat)
  case atStart => exact ⟨0, Nat.zero_le _, rfl, hwo ▸ Ext.refl _, fun j hj => absurd hj (by omega)⟩
  case round =>
    obtain ⟨k, hk, rfl, hE, hj⟩ := hrel
    by_cases hlt : k < n
    · have hkl : k < os.length := by rw [← hnn.out]; exact hlt
      obtain ⟨b1, a1, n1, c1, b2, a2, n2, c2, h1, h2, h3, h4, h5⟩ := (h.out.ext (hwo ▸ hE)) k hkl
      obtain ⟨l1, l2⟩ := frac_lens h5
      have hmem : os.getD k 0 ∈ os := by
        rw [List.getD_eq_getElem?_getD, List.getElem?_eq_getElem hkl]
        exact List.getElem_mem hkl
      have hbk := hb.out _ hmem
      have hfx : nf (os.getD k 0) = max n1 n2 := by rw [l1, l2]; rfl
      have hm1 : n1 ≤ 4294967296 := by omega
      have hm2 : n2 ≤ 4294967296 := by omega
      have lg1 := mkHid (fun gg w h0 h1 => long_c gg b1 a1 n1 c1 1 w hm1 h0 h1)
      have lg2 := mkHid (fun gg w h0 h1 => long_c gg b2 a2 n2 c2 1 w hm2 h0 h1)
      have hrt : 2048 < nf (os.getD k 0) → r = true := by
        intro h
        rw [hr.out, List.any_eq_true]
        exact ⟨_, hmem, decide_eq_true h⟩
      replace hE := mkHid hE
      replace hj := mkHid hj
      replace hrt := mkHid hrt
      clear l1 l2 hbk h5
      replace hfx := mkHid hfx
      replace hkl := mkHid hkl
      replace hmem := mkHid hmem
      by_cases g1 : 2048 < n1
      · rw [decide_eq_true g1] at lg1
        have hr1 : r = true := hrt.out (by rw [hfx.out]; omega)
        subst hr1
        go_wp2_with fail
        refine (lg1.out _ _ (by go_simp) (by go_simp)).mono ?_
        rintro e w2 ⟨rfl, hE2⟩
        replace hE := mkHid (hE.out.trans ((((Ext.refl wr).al _).al _).trans hE2))
        clear hE2 h1 h2 h3 h4
        go_wp2_with fail
        go_ret
        exact ⟨rfl, hwo ▸ hE.out⟩
      · rw [decide_eq_false g1] at lg1
        go_wp2_with fail
        refine (lg1.out _ _ (by go_simp) (by go_simp)).mono ?_
        rintro e w2 ⟨rfl, hE2⟩
        have hb4 := row4_cells (hE2.blk ((heap_alloc_old _ _ (by simp)).trans (heap_alloc_new wr _)))
        replace hE := mkHid (hE.out.trans ((((Ext.refl wr).al _).al _).trans hE2))
        clear hE2 h1 h2 h3 h4
        by_cases g2 : 2048 < n2
        · rw [decide_eq_true g2] at lg2
          have hr1 : r = true := hrt.out (by rw [hfx.out]; omega)
          subst hr1
          go_wp2_with fail
          refine (lg2.out _ _ (by go_simp) (by go_simp)).mono ?_
          rintro e w3 ⟨rfl, hE2⟩
          replace hE := mkHid (hE.out.trans (((Ext.refl w2).al _).trans hE2))
          clear hE2 hb4
          go_wp2_with fail
          go_ret
          exact ⟨rfl, hwo ▸ hE.out⟩
        · rw [decide_eq_false g2] at lg2
          go_wp2_with fail
          refine (lg2.out _ _ (by go_simp) (by go_simp)).mono ?_
          rintro e w3 ⟨rfl, hE2⟩
          replace hE := mkHid (hE.out.trans (((Ext.refl w2).al _).trans hE2))
          clear hE2 hb4
          go_wp2_with fail
          go_roundw
          case rel =>
            refine ⟨k + 1, by omega, by go_num, hE.out, fun j hjk => ?_⟩
            rcases Nat.lt_or_ge j k with h | h
            · exact hj.out j h
            · obtain rfl : j = k := by omega
              rw [hfx.out]
              omega
          case measure => simp [intOf] <;> omega
    · obtain rfl : n = k := by omega
      have hf : r = false := by
        rw [hr.out, List.any_eq_false]
        intro x hx
        obtain ⟨j, hjl, rfl⟩ := List.getElem_of_mem hx
        have := hj j (by rw [hnn.out]; exact hjl)
        rw [List.getD_eq_getElem?_getD, List.getElem?_eq_getElem hjl] at this
        simpa using this
      subst hf
      replace hE := mkHid hE
      replace hj := mkHid hj
      go_wp2_with fail
      go_ret
      exact ⟨rfl, hwo ▸ hE.out⟩
theorem answer_f (g cap : Nat) (os : List Rat) (w : World) (hn : os.length ≤ 4294967296) (hb : ∀ x ∈ os, nf x ≤ 4294967296) (h : LR w g os) :
    Calls Tryz.prog 127 #[.slice (some ⟨g, 0, none⟩) os.length cap] w fun e w' => e = .returned (.int .i64 (if (os.any fun x => decide (2048 < nf x)) = true then 4 else 0)) ∧ Ext w w' := by
  have hl := mkHid (longs_f g cap os w hn hb h)
  clear h hb hn
  generalize (os.any fun x => decide (2048 < nf x)) = r at *
  generalize os.length = n at *
  cases r
  · rw [if_neg (by decide)]
    go_enter Tryz.func127, Tryz.ntmps127
    go_wp2_with fail
    refine hl.out.mono ?_
    rintro e w' ⟨rfl, hE⟩
    go_wp2_with fail
    go_ret
    exact ⟨rfl, hE⟩
  · rw [if_pos rfl]
    go_enter Tryz.func127, Tryz.ntmps127
    go_wp2_with fail
    refine hl.out.mono ?_
    rintro e w' ⟨rfl, hE⟩
    go_wp2_with fail
    go_ret
    exact ⟨rfl, hE⟩
end Go.Proofs.YtjelnmokcpoofaaGreatDoor
namespace Go.Proofs.YtjelnmokcpoofaaGreatDoor
set_option maxRecDepth 100000
open Go Go.RowKit Go.Proofs
theorem results_row_tmp {P : Program} {fn : Func} {p q : Tmp} {ty : TypeId} (h : fn.results = #[.cell p ty, .tmp q]) (tmps : Array Value) (w : World) (g : Nat) (t : TypeId) (cs : Array Value) (u : Value) (d : TypeDesc)
    (hp : tmps.getD p undef = .pointer (some ⟨g, 0, none⟩)) (hq : tmps.getD q undef = u) (hg : w.heap[g]? = some (.cells cs t (0, 0)))
    (hu : P.underlying ty = some d) (hd : (match d with | .struct _ | .array _ _ => true | _ => false) = true) (hi : (P.info? ty).map (·.size) = some cs.size) :
    (results fn tmps).run P w = .ok (.tuple #[.agg cs, u]) w := by
  have hp' : tmps[p]?.getD undef = .pointer (some ⟨g, 0, none⟩) := by simpa using hp
  have hq' : tmps[q]?.getD undef = u := by simpa using hq
  simp [results, h, hp', hq', asAddr, run_loadVar_row w g t ty cs (0, 0) d hg hu hd hi]
theorem okL_nil : OkL [] := by intro x hx; simp at hx
theorem any_zero (w : World) : AnyF w (.agg #[.bool false, .slice none 0 0, .bool false, .slice none 0 0]) none :=
  ⟨false, [], false, [], ⟨none, 0, none, 0, rfl, by simp, by simp, ⟨none, 0, rfl, okL_nil, Nat.le_refl _, row_nil w⟩, ⟨none, 0, rfl, okL_nil, Nat.le_refl _, row_nil w⟩⟩, by unfold ratF okF; simp [sg, val]⟩
theorem lr_one {w : World} {g : Nat} {b1 b2 : Bool} {a1 a2 : Option Addr} {n1 c1 n2 c2 : Nat} {x : Rat} {T : Nat} (hg : w.heap[g]? = some (.cells #[.bool b1, .slice a1 n1 c1, .bool b2, .slice a2 n2 c2] T (0, 0)))
    (h : FracR w (.agg #[.bool b1, .slice a1 n1 c1, .bool b2, .slice a2 n2 c2]) x) : LR w g [x] := by
  intro k hk
  obtain rfl : k = 0 := by simpa using hk
  have := row4_cells hg
  exact ⟨_, _, _, _, _, _, _, _, this.1, this.2.1, this.2.2.1, this.2.2.2, h⟩
/-- What is handed out of a number reckoned: the number, or nothing where it is too long. -/
def capF (x : Rat) : Option Rat := if nf x ≤ 2048 then some x else none
def capE (x : Rat) : Int := if nf x ≤ 2048 then 0 else 4
set_option maxHeartbeats 1600000 in
theorem answered_f (v : Value) (x : Rat) (w : World) (hx : nf x ≤ 268435456) (h : FracR w v x) :
    Calls Tryz.prog 77 #[v] w fun e w' => ∃ v', e = .returned (.tuple #[v', .int .i64 (capE x)]) ∧ Ext w w' ∧ AnyF w' v' (capF x) := by
  have H := h
  obtain ⟨p1, q1, r1, s1, p2, q2, r2, s2, rfl⟩ := h.shape
  have ha := mkHid (fun w gg (hg : LR w gg [x]) => answer_f gg 1 [x] w (by simp) (fun y hy => by simp at hy; subst hy; omega) hg)
  have hc := mkHid (fun w h => copy_f (.agg #[.bool p1, .slice q1 r1 s1, .bool p2, .slice q2 r2 s2]) x w hx h)
  simp only [List.any_cons, List.any_nil, Bool.or_false, decide_eq_true_eq] at ha
  obtain ⟨w3, hw3⟩ : ∃ w3, w3 = ((w.alloc (.cells #[.bool p1, .slice q1 r1 s1, .bool p2, .slice q2 r2 s2] 52)).alloc (.cells #[.bool false, .slice none 0 0, .bool false, .slice none 0 0] 52)).alloc (.cells #[.bool p1, .slice q1 r1 s1, .bool p2, .slice q2 r2 s2] 52) := ⟨_, rfl⟩
  have hE : Ext w w3 := by rw [hw3]; exact (((Ext.refl w).al _).al _).al _
  have z0 : w3.heap[w.heap.size]? = some (.cells #[.bool p1, .slice q1 r1 s1, .bool p2, .slice q2 r2 s2] 52 (0, 0)) := by rw [hw3]; exact (heap_alloc_old _ _ (by simp; omega)).trans ((heap_alloc_old _ _ (by simp)).trans (heap_alloc_new _ _))
  have z1 : w3.heap[w.heap.size + 1]? = some (.cells #[.bool false, .slice none 0 0, .bool false, .slice none 0 0] 52 (0, 0)) := by rw [hw3]; exact (heap_alloc_old _ _ (by simp)).trans (heap_at _ _ _ (by simp))
  have z2 : w3.heap[w.heap.size + 1 + 1]? = some (.cells #[.bool p1, .slice q1 r1 s1, .bool p2, .slice q2 r2 s2] 52 (0, 0)) := by rw [hw3]; exact heap_at _ _ _ (by simp)
  replace H := H.ext hE
  replace ha := mkHid (ha.out w3 _ (lr_one z2 H))
  rw [List.length_singleton] at ha
  unfold capE capF
  replace H := mkHid H
  replace hE := mkHid hE
  replace z0 := mkHid z0
  replace z1 := mkHid z1
  clear h z2
  by_cases hl : nf x ≤ 2048
  · rw [if_pos hl, if_pos hl]
    rw [if_neg (show ¬ 2048 < nf x by omega)] at ha
    go_enter Tryz.func77, Tryz.ntmps77
    go_wp2_with fail
    rw [← hw3]
    clear hw3
    refine ha.out.mono ?_
    rintro e w4 ⟨rfl, hE4⟩
    have b0 := row4_cells (hE4.blk z0.out)
    replace z1 := mkHid (hE4.blk z1.out)
    have hz4 : w.heap.size + 2 ≤ w4.heap.size := (Array.getElem?_eq_some_iff.1 z1.out).1
    replace H := mkHid (H.out.ext hE4)
    replace hE := mkHid (hE.out.trans hE4)
    clear hE4 ha
    go_wp2_with fail
    refine (hc.out w4 H.out).mono ?_
    rintro e w5 ⟨v, rfl, hE5, hv⟩
    obtain ⟨x1, x2, x3, x4, y1, y2, y3, y4, rfl⟩ := hv.r.shape
    replace z1 := hE5.blk z1.out
    have hsz4 : w.heap.size + 2 ≤ w4.heap.size := hz4
    have FR := (hv.row (g := w.heap.size + 1) (by omega) #[.bool x1, .slice x2 x3 x4, .bool y1, .slice y2 y3 y4]).r.any (by omega)
    rw [if_pos hl] at FR
    have FE := (hE.out.trans hE5).row (show w.heap.size ≤ w.heap.size + 1 by omega) #[.bool x1, .slice x2 x3 x4, .bool y1, .slice y2 y3 y4]
    replace FR := mkHid FR
    replace FE := mkHid FE
    clear hv hE5 b0
    go_wp2_with (refine wpList_store_row rfl 52 (.tmp 2) (.tmp 13) rfl (w.heap.size + 1) #[.bool x1, .slice x2 x3 x4, .bool y1, .slice y2 y3 y4] rfl rfl 52 _ z1 (by kernel_rfl) rfl (by kernel_rfl) ?_)
    exact bodyPost_ret (results_row_tmp rfl _ _ (w.heap.size + 1) 52 #[.bool x1, .slice x2 x3 x4, .bool y1, .slice y2 y3 y4] _ _ rfl rfl (setRow_heap _ _ _ _ _ _ z1) Tryz.underlying52 rfl (by kernel_rfl)) rfl ⟨_, rfl, FE.out, FR.out⟩
  · rw [if_neg hl, if_neg hl]
    rw [if_pos (show 2048 < nf x by omega)] at ha
    go_enter Tryz.func77, Tryz.ntmps77
    go_wp2_with fail
    rw [← hw3]
    clear hw3
    refine ha.out.mono ?_
    rintro e w4 ⟨rfl, hE4⟩
    replace z1 := hE4.blk z1.out
    have FR := any_zero (w4.setRow (w.heap.size + 1) #[.bool false, .slice none 0 0, .bool false, .slice none 0 0])
    have FE := (hE.out.trans hE4).row (show w.heap.size ≤ w.heap.size + 1 by omega) #[.bool false, .slice none 0 0, .bool false, .slice none 0 0]
    replace FR := mkHid FR
    replace FE := mkHid FE
    clear hE4 ha
    go_wp2_with (refine wpList_store_row rfl 52 (.tmp 2) (.tmp 10) rfl (w.heap.size + 1) #[.bool false, .slice none 0 0, .bool false, .slice none 0 0] rfl rfl 52 _ z1 (by kernel_rfl) rfl (by kernel_rfl) ?_)
    exact bodyPost_ret (results_row_tmp rfl _ _ (w.heap.size + 1) 52 #[.bool false, .slice none 0 0, .bool false, .slice none 0 0] _ _ rfl rfl (setRow_heap _ _ _ _ _ _ z1) Tryz.underlying52 rfl (by kernel_rfl)) rfl ⟨_, rfl, FE.out, FR.out⟩
end Go.Proofs.YtjelnmokcpoofaaGreatDoor
namespace Go.Proofs.YtjelnmokcpoofaaGreatDoor
set_option maxRecDepth 100000
open Go Go.RowKit Go.Proofs
/-- No number among the cells. -/
def flatV : Value → Bool
  | .int _ _ => false
  | _ => true
theorem Row.flat {w : World} {a : Option Addr} {l : List Nat} {g T : Nat} {fr : Nat × Nat} {old : Array Value} (h : Row w a (limV l)) (hg : w.heap[g]? = some (.cells old T fr)) (ho : old.all flatV = true) (cs : Array Value) : Row (w.setRow g cs) a (limV l) := by
  obtain ⟨b, off, h1, h2⟩ := h
  refine ⟨b, off, h1, fun j hj => ?_⟩
  have hc := h2 j hj
  have hne : b ≠ g := by
    rintro rfl
    rw [limV_getD _ _ (by rw [limV_length] at hj; exact hj)] at hc
    have hc2 : old[off + j]? = some (.int .u32 ((l.getD j 0 : Nat) : Int)) := by
      simp only [World.cell?, hg] at hc
      simpa using hc
    obtain ⟨hlt, he⟩ := Array.getElem?_eq_some_iff.1 hc2
    have := Array.all_eq_true.1 ho _ hlt
    rw [he] at this
    cases this
  have : ((w.setRow g cs).heap[b]?) = w.heap[b]? := setRow_other _ _ _ _ hne
  simp only [World.cell?, this] at hc ⊢
  exact hc
theorem AnyF.flat {w : World} {v : Value} {o : Option Rat} {g T : Nat} {fr : Nat × Nat} {old : Array Value} (h : AnyF w v o) (hg : w.heap[g]? = some (.cells old T fr)) (ho : old.all flatV = true) (cs : Array Value) : AnyF (w.setRow g cs) v o := by
  obtain ⟨b1, l1, b2, l2, ⟨a1, c1, a2, c2, h1, h2, h3, ⟨x1, y1, e1, f1, g1, r1⟩, ⟨x2, y2, e2, f2, g2, r2⟩⟩, h6⟩ := h
  exact ⟨b1, l1, b2, l2, ⟨a1, c1, a2, c2, h1, h2, h3, ⟨x1, y1, e1, f1, g1, r1.flat hg ho cs⟩, ⟨x2, y2, e2, f2, g2, r2.flat hg ho cs⟩⟩, h6⟩
theorem lf_two {w : World} {g : Nat} {b1 b2 b3 b4 : Bool} {a1 a2 a3 a4 : Option Addr} {n1 c1 n2 c2 n3 c3 n4 c4 : Nat} {o1 o2 : Option Rat} {T : Nat}
    (hg : w.heap[g]? = some (.cells #[.bool b1, .slice a1 n1 c1, .bool b2, .slice a2 n2 c2, .bool b3, .slice a3 n3 c3, .bool b4, .slice a4 n4 c4] T (0, 0)))
    (h : AnyF w (.agg #[.bool b1, .slice a1 n1 c1, .bool b2, .slice a2 n2 c2]) o1) (h' : AnyF w (.agg #[.bool b3, .slice a3 n3 c3, .bool b4, .slice a4 n4 c4]) o2) : LF w g [o1, o2] := by
  intro k hk
  have hk2 : k = 0 ∨ k = 1 := by simp at hk; omega
  rcases hk2 with rfl | rfl
  · exact ⟨_, _, _, _, _, _, _, _, by simp [World.cell?, hg], by simp [World.cell?, hg], by simp [World.cell?, hg], by simp [World.cell?, hg], h⟩
  · exact ⟨_, _, _, _, _, _, _, _, by simp [World.cell?, hg], by simp [World.cell?, hg], by simp [World.cell?, hg], by simp [World.cell?, hg], h'⟩
end Go.Proofs.YtjelnmokcpoofaaGreatDoor
namespace Go.Proofs.YtjelnmokcpoofaaGreatDoor
set_option maxRecDepth 100000
open Go Go.RowKit Go.Proofs
theorem st_any {ss : List FSpec} (o : Option Rat) (h : StableAll Ext ss) : StableAll Ext (.pred (fun W v => AnyF W v o) :: ss) := ⟨fun _ _ _ e h => AnyF.ext h e, h⟩
theorem nf_div (X Y : Int) (hY : Y ≠ 0) : nf (Rat.divInt X Y) ≤ max (nl X) (nl Y) := by
  unfold nf
  rw [low_num, low_den X Y hY, if_neg hY]
  have h1 := tdiv_nl X (Int.gcd X Y)
  have h2 := tdiv_nl Y (Int.gcd X Y)
  split <;> (try rw [nl_neg, nl_neg]) <;> omega
theorem nf_sub_le (x y : Rat) : nf (x - y) ≤ nf x + nf y + 1 := by
  rw [← div_sub]
  refine Nat.le_trans (nf_div _ _ (den_ne x y)) ?_
  have h1 := nl_mul x.num y.den
  have h2 := nl_mul y.num x.den
  have h3 := nl_mul x.den y.den
  have h4 := nl_sub (x.num * y.den) (y.num * x.den)
  unfold nf
  omega
end Go.Proofs.YtjelnmokcpoofaaGreatDoor
