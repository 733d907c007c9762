/-
  polestarref01: Plus, Minus, Times, Divide. polestarref01: Divide. polestarref01: Double. polestarref01: Common. polestarref01: Common, of two numbers that are not nought. polestarref02: common, turned.
-/
import Derived.Test.YtpmfohhpaoagfaaGreatMAK
import Derived.Test.YtpmfohhpaoagfaaGreatMAC
import Derived.Deep.LoopGhost
namespace Go.Proofs.YtpmfohhpaoagfaaGreat
open Go Go.RowKit Go.Proofs
theorem radd_raw (a a' : Option Addr) (c c' : Nat) (x y : Nat) (w : World) (hl : (lim x).length ≤ 2147483648) (hm : (lim y).length ≤ 2147483648) (h : Row w a (limV (lim x))) (h' : Row w a' (limV (lim y))) :
    Calls Tryz.prog 121 #[.slice a (lim x).length c, .slice a' (lim y).length c'] w fun e w' => ∃ v, e = .returned v ∧ RawR w' v (x + y) ∧ Ext w w' := by
  refine (radd_c a a' c c' (lim x) (lim y) w hl hm (lim_ok _) (lim_ok _) h h').mono ?_
  rintro e w' ⟨v, q, he, h1, h2, h3, h4, h5⟩
  rw [val_lim, val_lim] at h4
  exact ⟨v, he, ⟨q, h1.r, h2, by omega, h4⟩, h5⟩
theorem rsub_raw (a a' : Option Addr) (c c' : Nat) (x y : Nat) (w : World) (hl : (lim x).length ≤ 2147483648) (hv : y ≤ x) (h : Row w a (limV (lim x))) (h' : Row w a' (limV (lim y))) :
    Calls Tryz.prog 123 #[.slice a (lim x).length c, .slice a' (lim y).length c'] w fun e w' => ∃ v, e = .returned v ∧ RawR w' v (x - y) ∧ Ext w w' := by
  refine (rsub_c a a' c c' (lim x) (lim y) w hl (lim_mono hv) (lim_ok _) (lim_ok _) (by rw [val_lim, val_lim]; exact hv) h h').mono ?_
  rintro e w' ⟨v, he, h1, h2⟩
  rw [val_lim, val_lim] at h1
  have := lim_mono (Nat.sub_le x y)
  exact ⟨v, he, RawR.lims h1.r (by omega), h2⟩
theorem rmul_raw (a a' : Option Addr) (c c' : Nat) (x y : Nat) (w : World) (hl : (lim x).length ≤ 1073741824) (hm : (lim y).length ≤ 1073741824) (h : Row w a (limV (lim x))) (h' : Row w a' (limV (lim y))) :
    Calls Tryz.prog 109 #[.slice a (lim x).length c, .slice a' (lim y).length c'] w fun e w' => ∃ v, e = .returned v ∧ RawR w' v (x * y) ∧ Ext w w' := by
  refine (rmul_c a a' c c' (lim x) (lim y) w hl hm (lim_ok _) (lim_ok _) h h').mono ?_
  rintro e w' ⟨v, he, h1, h2⟩
  rw [val_lim, val_lim] at h1
  have := lim_mul x y
  exact ⟨v, he, RawR.lims h1.r (by omega), h2⟩
set_option maxRecDepth 100000 in
set_option maxHeartbeats 3200000 in
theorem rplusI_c (v1 v2 : Value) (X Y : Int) (w : World) (hX : nl X ≤ 1073741824) (hY : nl Y ≤ 1073741824) (h1 : IntR w v1 X) (h2 : IntR w v2 Y) :
    Calls Tryz.prog 106 #[v1, v2] w fun e w' => ∃ v, e = .returned v ∧ IntR w' v (X + Y) ∧ Ext w w' := by
  obtain ⟨s1, rfl, a1, c1, rfl, _, r1⟩ := h1
  obtain ⟨s2, rfl, a2, c2, rfl, _, r2⟩ := h2
  obtain ⟨bx, hbx⟩ : ∃ b, b = decide (X < 0) := ⟨_, rfl⟩
  obtain ⟨bY, hbY⟩ : ∃ b, b = decide (Y < 0) := ⟨_, rfl⟩
  rw [← hbx, ← hbY]
  have hXl : (lim X.natAbs).length ≤ 1073741824 := hX
  have hYl : (lim Y.natAbs).length ≤ 1073741824 := hY
  by_cases hs : bx = bY
  · have hsg : sg bx (X.natAbs + Y.natAbs) = X + Y := by
      rw [hbx] at hs ⊢
      rw [hbY] at hs
      unfold sg
      by_cases h : X < 0
      · have : Y < 0 := by simpa [h] using hs
        simp [h]; omega
      · have : ¬ Y < 0 := by simpa [h] using hs
        simp [h]; omega
    have AD := mkHid (fun W (e : Ext w W) => radd_raw a1 a2 c1 c2 X.natAbs Y.natAbs W (by omega) (by omega) (r1.ext e) (r2.ext e))
    have SG := mkHid (fun s W h => rsigned_raw bx s (X.natAbs + Y.natAbs) W h)
    rw [hsg] at SG
    subst hs
    clear hsg hbx hbY hXl hYl hX hY r1 r2
    generalize (lim X.natAbs).length = n1 at *
    generalize (lim Y.natAbs).length = n2 at *
    generalize X.natAbs + Y.natAbs = M at *
    go_enter Tryz.func106, Tryz.ntmps106
    go_wp2_with fail
    obtain ⟨wb, hwb⟩ : ∃ wb, wb = ((w.alloc (.cells #[.bool bx, .slice a1 n1 c1] 24)).alloc (.cells #[.bool bx, .slice a2 n2 c2] 24)).alloc (.cells #[.bool false, .slice none 0 0] 24) := ⟨_, rfl⟩
    have hE : Ext w wb := by rw [hwb]; exact (((Ext.refl w).al _).al _).al _
    have h00 : ∀ W, Ext wb W → W.cell? ⟨w.heap.size, 0, none⟩ = some (.bool bx) := fun W e => e.cell (by rw [hwb]; go_simp)
    have h01 : ∀ W, Ext wb W → W.cell? ⟨w.heap.size, 1, none⟩ = some (.slice a1 n1 c1) := fun W e => e.cell (by rw [hwb]; go_simp)
    have h10 : ∀ W, Ext wb W → W.cell? ⟨w.heap.size + 1, 0, none⟩ = some (.bool bx) := fun W e => e.cell (by rw [hwb]; go_simp)
    have h11 : ∀ W, Ext wb W → W.cell? ⟨w.heap.size + 1, 1, none⟩ = some (.slice a2 n2 c2) := fun W e => e.cell (by rw [hwb]; go_simp)
    have hB : ∀ W, Ext wb W → W.heap[w.heap.size + 2]? = some (.cells #[.bool false, .slice none 0 0] 24) := fun W e => e.blk (by rw [hwb]; exact heap_at _ _ _ (by simp))
    rw [← hwb]
    clear hwb
    replace hB := mkHid hB
    replace hE := mkHid hE
    have hE0 := Ext.refl wb
    apply region_ext [.val _, .val _, .val _, .val _, .val _, .val _, .pred (fun W v => RawR W v (M)), .pred (fun W v => IntR W v (X + Y))] (by kernel_rfl) (stable_vals _ (stable_vals _ (stable_vals _ (stable_vals _ (stable_vals _ (stable_vals _ (st_rawR _ (st_intR _ trivial))))))))
    iterate 6 (refine ⟨fun W hW _ => by go_simp; exact ⟨Ext.refl _, rfl⟩, ?_⟩)
    refine ⟨fun W hW _ => ?g6, fun v6 => ⟨fun W hW hF => ?g7, fun v7 => fun W hW hF => ?fin⟩⟩
    case g6 =>
      go_simp
      refine (AD.out W (hE.out.trans (hE0.trans hW))).mono ?_
      rintro e w' ⟨v, rfl, h1, h2⟩
      exact ⟨v, rfl, h2, h1⟩
    case g7 =>
      have d6 : RawR W v6 (M) := hF.1 (by kernel_rfl)
      replace d6 := mkHid d6
      clear hF
      go_simp
      refine (SG.out v6 W d6.out).mono ?_
      rintro e w' ⟨v, rfl, h1, h2⟩
      exact ⟨v, rfl, h2, h1⟩
    case fin =>
      have d7 : IntR W v7 (X + Y) := hF.1 rfl
      have hBW := hB.out W (hE0.trans hW)
      have hEW0 := hE.out.trans (hE0.trans hW)
      clear hF h00 h01 h10 h11 AD SG hW
      go_simp
      obtain ⟨nb, a2, n2, c2, rfl⟩ := d7.shape
      have hR := d7.flat hBW (by simp [flatV]) #[.bool nb, .slice a2 n2 c2]
      have hEW := hEW0.row (show w.heap.size ≤ w.heap.size + 2 by omega) #[.bool nb, .slice a2 n2 c2]
      replace hR := mkHid hR
      replace hEW := mkHid hEW
      clear d7 hEW0
      go_wp2_with (refine wpList_store_row rfl 24 (.tmp 4) (.tmp 17) rfl (w.heap.size + 2) #[.bool nb, .slice a2 n2 c2] rfl rfl 24 _ hBW (by kernel_rfl) rfl (by kernel_rfl) ?_)
      exact bodyPost_ret (results_cell_row rfl _ _ (w.heap.size + 2) 24 #[.bool nb, .slice a2 n2 c2] (0, 0) _ rfl (setRow_heap _ _ _ _ _ _ hBW) Tryz.underlying24 rfl (by kernel_rfl)) rfl ⟨_, rfl, hR.out, hEW.out⟩
  · have hne : (bx == bY) = false := by simpa using hs
    have hxy : (X < 0 ∧ ¬ Y < 0) ∨ (¬ X < 0 ∧ Y < 0) := by
      rw [hbx, hbY] at hs
      by_cases h : X < 0 <;> by_cases h' : Y < 0 <;> simp [h, h'] at hs ⊢ <;> omega
    have SC := mkHid (fun W (e : Ext w W) => rcmp_c a1 a2 c1 c2 X.natAbs Y.natAbs W (by omega) (by omega) (r1.ext e) (r2.ext e))
    have rC := cmp_bounds (X := X.natAbs) (R := Y.natAbs)
    by_cases hlt : X.natAbs < Y.natAbs
    · have hcs := sgn_lt hlt
      rw [hcs] at SC
      have hsg : sg bY (Y.natAbs - X.natAbs) = X + Y := by
        rw [hbY]
        unfold sg
        by_cases h : Y < 0
        · simp [h]; omega
        · simp [h]; omega
      have AD := mkHid (fun W (e : Ext w W) => rsub_raw a2 a1 c2 c1 Y.natAbs X.natAbs W (by omega) (by omega) (r2.ext e) (r1.ext e))
      have SG := mkHid (fun s W h => rsigned_raw bY s (Y.natAbs - X.natAbs) W h)
      rw [hsg] at SG
      clear hsg hbx hbY hXl hYl hX hY r1 r2 hcs rC hxy hlt hs
      generalize (lim X.natAbs).length = n1 at *
      generalize (lim Y.natAbs).length = n2 at *
      generalize Y.natAbs - X.natAbs = M at *
      go_enter Tryz.func106, Tryz.ntmps106
      go_wp2_with fail
      obtain ⟨wb, hwb⟩ : ∃ wb, wb = ((w.alloc (.cells #[.bool bx, .slice a1 n1 c1] 24)).alloc (.cells #[.bool bY, .slice a2 n2 c2] 24)).alloc (.cells #[.bool false, .slice none 0 0] 24) := ⟨_, rfl⟩
      have hE : Ext w wb := by rw [hwb]; exact (((Ext.refl w).al _).al _).al _
      have h00 : ∀ W, Ext wb W → W.cell? ⟨w.heap.size, 0, none⟩ = some (.bool bx) := fun W e => e.cell (by rw [hwb]; go_simp)
      have h01 : ∀ W, Ext wb W → W.cell? ⟨w.heap.size, 1, none⟩ = some (.slice a1 n1 c1) := fun W e => e.cell (by rw [hwb]; go_simp)
      have h10 : ∀ W, Ext wb W → W.cell? ⟨w.heap.size + 1, 0, none⟩ = some (.bool bY) := fun W e => e.cell (by rw [hwb]; go_simp)
      have h11 : ∀ W, Ext wb W → W.cell? ⟨w.heap.size + 1, 1, none⟩ = some (.slice a2 n2 c2) := fun W e => e.cell (by rw [hwb]; go_simp)
      have hB : ∀ W, Ext wb W → W.heap[w.heap.size + 2]? = some (.cells #[.bool false, .slice none 0 0] 24) := fun W e => e.blk (by rw [hwb]; exact heap_at _ _ _ (by simp))
      rw [← hwb]
      clear hwb
      replace hB := mkHid hB
      replace hE := mkHid hE
      refine (SC.out _ hE.out).mono ?_
      rintro e w1 ⟨rfl, hE0⟩
      clear SC
      go_wp2_with fail
      replace h00 := fun W (e : Ext w1 W) => h00 W (hE0.trans e)
      replace h01 := fun W (e : Ext w1 W) => h01 W (hE0.trans e)
      replace h10 := fun W (e : Ext w1 W) => h10 W (hE0.trans e)
      replace h11 := fun W (e : Ext w1 W) => h11 W (hE0.trans e)
      apply region_ext [.val _, .val _, .val _, .val _, .val _, .val _, .pred (fun W v => RawR W v (M)), .pred (fun W v => IntR W v (X + Y))] (by kernel_rfl) (stable_vals _ (stable_vals _ (stable_vals _ (stable_vals _ (stable_vals _ (stable_vals _ (st_rawR _ (st_intR _ trivial))))))))
      iterate 6 (refine ⟨fun W hW _ => by go_simp; exact ⟨Ext.refl _, rfl⟩, ?_⟩)
      refine ⟨fun W hW _ => ?g6, fun v6 => ⟨fun W hW hF => ?g7, fun v7 => fun W hW hF => ?fin⟩⟩
      case g6 =>
        go_simp
        refine (AD.out W (hE.out.trans (hE0.trans hW))).mono ?_
        rintro e w' ⟨v, rfl, h1, h2⟩
        exact ⟨v, rfl, h2, h1⟩
      case g7 =>
        have d6 : RawR W v6 (M) := hF.1 (by kernel_rfl)
        replace d6 := mkHid d6
        clear hF
        go_simp
        refine (SG.out v6 W d6.out).mono ?_
        rintro e w' ⟨v, rfl, h1, h2⟩
        exact ⟨v, rfl, h2, h1⟩
      case fin =>
        have d7 : IntR W v7 (X + Y) := hF.1 rfl
        have hBW := hB.out W (hE0.trans hW)
        have hEW0 := hE.out.trans (hE0.trans hW)
        clear hF h00 h01 h10 h11 AD SG hW
        go_simp
        obtain ⟨nb, a2, n2, c2, rfl⟩ := d7.shape
        have hR := d7.flat hBW (by simp [flatV]) #[.bool nb, .slice a2 n2 c2]
        have hEW := hEW0.row (show w.heap.size ≤ w.heap.size + 2 by omega) #[.bool nb, .slice a2 n2 c2]
        replace hR := mkHid hR
        replace hEW := mkHid hEW
        clear d7 hEW0
        go_wp2_with (refine wpList_store_row rfl 24 (.tmp 4) (.tmp 39) rfl (w.heap.size + 2) #[.bool nb, .slice a2 n2 c2] rfl rfl 24 _ hBW (by kernel_rfl) rfl (by kernel_rfl) ?_)
        exact bodyPost_ret (results_cell_row rfl _ _ (w.heap.size + 2) 24 #[.bool nb, .slice a2 n2 c2] (0, 0) _ rfl (setRow_heap _ _ _ _ _ _ hBW) Tryz.underlying24 rfl (by kernel_rfl)) rfl ⟨_, rfl, hR.out, hEW.out⟩
    · have hge : 0 ≤ (((X.natAbs : Nat) : Int) - Y.natAbs).sign := by
        rcases Nat.lt_trichotomy X.natAbs Y.natAbs with h | h | h
        · omega
        · rw [sgn_eq h]; omega
        · rw [sgn_gt h]; omega
      have hsg : sg bx (X.natAbs - Y.natAbs) = X + Y := by
        rw [hbx]
        unfold sg
        by_cases h : X < 0
        · simp [h]; omega
        · simp [h]; omega
      have AD := mkHid (fun W (e : Ext w W) => rsub_raw a1 a2 c1 c2 X.natAbs Y.natAbs W (by omega) (by omega) (r1.ext e) (r2.ext e))
      have SG := mkHid (fun s W h => rsigned_raw bx s (X.natAbs - Y.natAbs) W h)
      rw [hsg] at SG
      clear hsg hbx hbY hXl hYl hX hY r1 r2 hxy hlt hs
      generalize (((X.natAbs : Nat) : Int) - Y.natAbs).sign = C at *
      generalize (lim X.natAbs).length = n1 at *
      generalize (lim Y.natAbs).length = n2 at *
      generalize X.natAbs - Y.natAbs = M at *
      go_enter Tryz.func106, Tryz.ntmps106
      go_wp2_with fail
      obtain ⟨wb, hwb⟩ : ∃ wb, wb = ((w.alloc (.cells #[.bool bx, .slice a1 n1 c1] 24)).alloc (.cells #[.bool bY, .slice a2 n2 c2] 24)).alloc (.cells #[.bool false, .slice none 0 0] 24) := ⟨_, rfl⟩
      have hE : Ext w wb := by rw [hwb]; exact (((Ext.refl w).al _).al _).al _
      have h00 : ∀ W, Ext wb W → W.cell? ⟨w.heap.size, 0, none⟩ = some (.bool bx) := fun W e => e.cell (by rw [hwb]; go_simp)
      have h01 : ∀ W, Ext wb W → W.cell? ⟨w.heap.size, 1, none⟩ = some (.slice a1 n1 c1) := fun W e => e.cell (by rw [hwb]; go_simp)
      have h10 : ∀ W, Ext wb W → W.cell? ⟨w.heap.size + 1, 0, none⟩ = some (.bool bY) := fun W e => e.cell (by rw [hwb]; go_simp)
      have h11 : ∀ W, Ext wb W → W.cell? ⟨w.heap.size + 1, 1, none⟩ = some (.slice a2 n2 c2) := fun W e => e.cell (by rw [hwb]; go_simp)
      have hB : ∀ W, Ext wb W → W.heap[w.heap.size + 2]? = some (.cells #[.bool false, .slice none 0 0] 24) := fun W e => e.blk (by rw [hwb]; exact heap_at _ _ _ (by simp))
      rw [← hwb]
      clear hwb
      replace hB := mkHid hB
      replace hE := mkHid hE
      refine (SC.out _ hE.out).mono ?_
      rintro e w1 ⟨rfl, hE0⟩
      clear SC
      go_wp2_with fail
      replace h00 := fun W (e : Ext w1 W) => h00 W (hE0.trans e)
      replace h01 := fun W (e : Ext w1 W) => h01 W (hE0.trans e)
      replace h10 := fun W (e : Ext w1 W) => h10 W (hE0.trans e)
      replace h11 := fun W (e : Ext w1 W) => h11 W (hE0.trans e)
      apply region_ext [.val _, .val _, .val _, .val _, .val _, .val _, .pred (fun W v => RawR W v (M)), .pred (fun W v => IntR W v (X + Y))] (by kernel_rfl) (stable_vals _ (stable_vals _ (stable_vals _ (stable_vals _ (stable_vals _ (stable_vals _ (st_rawR _ (st_intR _ trivial))))))))
      iterate 6 (refine ⟨fun W hW _ => by go_simp; exact ⟨Ext.refl _, rfl⟩, ?_⟩)
      refine ⟨fun W hW _ => ?g6, fun v6 => ⟨fun W hW hF => ?g7, fun v7 => fun W hW hF => ?fin⟩⟩
      case g6 =>
        go_simp
        refine (AD.out W (hE.out.trans (hE0.trans hW))).mono ?_
        rintro e w' ⟨v, rfl, h1, h2⟩
        exact ⟨v, rfl, h2, h1⟩
      case g7 =>
        have d6 : RawR W v6 (M) := hF.1 (by kernel_rfl)
        replace d6 := mkHid d6
        clear hF
        go_simp
        refine (SG.out v6 W d6.out).mono ?_
        rintro e w' ⟨v, rfl, h1, h2⟩
        exact ⟨v, rfl, h2, h1⟩
      case fin =>
        have d7 : IntR W v7 (X + Y) := hF.1 rfl
        have hBW := hB.out W (hE0.trans hW)
        have hEW0 := hE.out.trans (hE0.trans hW)
        clear hF h00 h01 h10 h11 AD SG hW
        go_simp
        obtain ⟨nb, a2, n2, c2, rfl⟩ := d7.shape
        have hR := d7.flat hBW (by simp [flatV]) #[.bool nb, .slice a2 n2 c2]
        have hEW := hEW0.row (show w.heap.size ≤ w.heap.size + 2 by omega) #[.bool nb, .slice a2 n2 c2]
        replace hR := mkHid hR
        replace hEW := mkHid hEW
        clear d7 hEW0
        go_wp2_with (refine wpList_store_row rfl 24 (.tmp 4) (.tmp 31) rfl (w.heap.size + 2) #[.bool nb, .slice a2 n2 c2] rfl rfl 24 _ hBW (by kernel_rfl) rfl (by kernel_rfl) ?_)
        exact bodyPost_ret (results_cell_row rfl _ _ (w.heap.size + 2) 24 #[.bool nb, .slice a2 n2 c2] (0, 0) _ rfl (setRow_heap _ _ _ _ _ _ hBW) Tryz.underlying24 rfl (by kernel_rfl)) rfl ⟨_, rfl, hR.out, hEW.out⟩
set_option maxRecDepth 100000 in
set_option maxHeartbeats 3200000 in
theorem rminusI_c (v1 v2 : Value) (X Y : Int) (w : World) (hX : nl X ≤ 1073741824) (hY : nl Y ≤ 1073741824) (h1 : IntR w v1 X) (h2 : IntR w v2 Y) :
    Calls Tryz.prog 88 #[v1, v2] w fun e w' => ∃ v, e = .returned v ∧ IntR w' v (X - Y) ∧ Ext w w' := by
  obtain ⟨bx, a1, n1, c1, rfl⟩ := h1.shape
  obtain ⟨bY, a2, n2, c2, rfl⟩ := h2.shape
  have TN := mkHid (fun W (e : Ext w W) => rturnedI_c _ Y W hY (h2.ext e))
  have PL := mkHid (fun v W (e : Ext w W) h => rplusI_c _ v X (-Y) W hX (by unfold nl at *; simpa using hY) (h1.ext e) h)
  rw [← Int.sub_eq_add_neg] at PL
  clear h1 h2 hX hY
  go_enter Tryz.func88, Tryz.ntmps88
  go_wp2_with fail
  obtain ⟨wb, hwb⟩ : ∃ wb, wb = ((w.alloc (.cells #[.bool bx, .slice a1 n1 c1] 24)).alloc (.cells #[.bool bY, .slice a2 n2 c2] 24)).alloc (.cells #[.bool false, .slice none 0 0] 24) := ⟨_, rfl⟩
  have hE : Ext w wb := by rw [hwb]; exact (((Ext.refl w).al _).al _).al _
  have h00 : ∀ W, Ext wb W → W.cell? ⟨w.heap.size, 0, none⟩ = some (.bool bx) := fun W e => e.cell (by rw [hwb]; go_simp)
  have h01 : ∀ W, Ext wb W → W.cell? ⟨w.heap.size, 1, none⟩ = some (.slice a1 n1 c1) := fun W e => e.cell (by rw [hwb]; go_simp)
  have h10 : ∀ W, Ext wb W → W.cell? ⟨w.heap.size + 1, 0, none⟩ = some (.bool bY) := fun W e => e.cell (by rw [hwb]; go_simp)
  have h11 : ∀ W, Ext wb W → W.cell? ⟨w.heap.size + 1, 1, none⟩ = some (.slice a2 n2 c2) := fun W e => e.cell (by rw [hwb]; go_simp)
  have hB : ∀ W, Ext wb W → W.heap[w.heap.size + 2]? = some (.cells #[.bool false, .slice none 0 0] 24) := fun W e => e.blk (by rw [hwb]; exact heap_at _ _ _ (by simp))
  rw [← hwb]
  clear hwb
  replace hB := mkHid hB
  replace hE := mkHid hE
  apply region_ext [.val _, .val _, .pred (fun W v => IntR W v (-Y)), .pred (fun W v => IntR W v (X - Y))] (by kernel_rfl) (stable_vals _ (stable_vals _ (st_intR _ (st_intR _ trivial))))
  iterate 2 (refine ⟨fun W hW _ => by go_simp; exact ⟨Ext.refl _, rfl⟩, ?_⟩)
  refine ⟨fun W hW _ => ?g6, fun v6 => ⟨fun W hW hF => ?g7, fun v7 => fun W hW hF => ?fin⟩⟩
  case g6 =>
    go_simp
    refine (TN.out W (hE.out.trans hW)).mono ?_
    rintro e w' ⟨v, rfl, h1, h2⟩
    exact ⟨v, rfl, h2, h1⟩
  case g7 =>
    have d6 : IntR W v6 (-Y) := hF.1 (by kernel_rfl)
    replace d6 := mkHid d6
    clear hF
    go_simp
    refine (PL.out v6 W (hE.out.trans hW) d6.out).mono ?_
    rintro e w' ⟨v, rfl, h1, h2⟩
    exact ⟨v, rfl, h2, h1⟩
  case fin =>
    have d7 : IntR W v7 (X - Y) := hF.1 rfl
    have hBW := hB.out W hW
    have hEW0 := hE.out.trans hW
    clear hF h00 h01 h10 h11 TN PL hW
    go_simp
    obtain ⟨nb, a2, n2, c2, rfl⟩ := d7.shape
    have hR := d7.flat hBW (by simp [flatV]) #[.bool nb, .slice a2 n2 c2]
    have hEW := hEW0.row (show w.heap.size ≤ w.heap.size + 2 by omega) #[.bool nb, .slice a2 n2 c2]
    replace hR := mkHid hR
    replace hEW := mkHid hEW
    clear d7 hEW0
    go_wp2_with (refine wpList_store_row rfl 24 (.tmp 4) (.tmp 8) rfl (w.heap.size + 2) #[.bool nb, .slice a2 n2 c2] rfl rfl 24 _ hBW (by kernel_rfl) rfl (by kernel_rfl) ?_)
    exact bodyPost_ret (results_cell_row rfl _ _ (w.heap.size + 2) 24 #[.bool nb, .slice a2 n2 c2] (0, 0) _ rfl (setRow_heap _ _ _ _ _ _ hBW) Tryz.underlying24 rfl (by kernel_rfl)) rfl ⟨_, rfl, hR.out, hEW.out⟩
set_option maxRecDepth 100000 in
set_option maxHeartbeats 3200000 in
theorem rtimesI_c (v1 v2 : Value) (X Y : Int) (w : World) (hX : nl X ≤ 1073741824) (hY : nl Y ≤ 1073741824) (h1 : IntR w v1 X) (h2 : IntR w v2 Y) :
    Calls Tryz.prog 89 #[v1, v2] w fun e w' => ∃ v, e = .returned v ∧ IntR w' v (X * Y) ∧ Ext w w' := by
  obtain ⟨s1, rfl, a1, c1, rfl, _, r1⟩ := h1
  obtain ⟨s2, rfl, a2, c2, rfl, _, r2⟩ := h2
  have hsg := sg_mul X Y
  obtain ⟨bx, hbx⟩ : ∃ b, b = decide (X < 0) := ⟨_, rfl⟩
  obtain ⟨bY, hbY⟩ : ∃ b, b = decide (Y < 0) := ⟨_, rfl⟩
  rw [← hbx, ← hbY] at hsg ⊢
  have AD := mkHid (fun W (e : Ext w W) => rmul_raw a1 a2 c1 c2 X.natAbs Y.natAbs W hX hY (r1.ext e) (r2.ext e))
  have SG := mkHid (fun s W h => rsigned_raw (bx != bY) s (X.natAbs * Y.natAbs) W h)
  rw [hsg] at SG
  clear hsg hbx hbY hX hY r1 r2
  generalize (lim X.natAbs).length = n1 at *
  generalize (lim Y.natAbs).length = n2 at *
  generalize X.natAbs * Y.natAbs = M at *
  go_enter Tryz.func89, Tryz.ntmps89
  go_wp2_with fail
  obtain ⟨wb, hwb⟩ : ∃ wb, wb = ((w.alloc (.cells #[.bool bx, .slice a1 n1 c1] 24)).alloc (.cells #[.bool bY, .slice a2 n2 c2] 24)).alloc (.cells #[.bool false, .slice none 0 0] 24) := ⟨_, rfl⟩
  have hE : Ext w wb := by rw [hwb]; exact (((Ext.refl w).al _).al _).al _
  have h00 : ∀ W, Ext wb W → W.cell? ⟨w.heap.size, 0, none⟩ = some (.bool bx) := fun W e => e.cell (by rw [hwb]; go_simp)
  have h01 : ∀ W, Ext wb W → W.cell? ⟨w.heap.size, 1, none⟩ = some (.slice a1 n1 c1) := fun W e => e.cell (by rw [hwb]; go_simp)
  have h10 : ∀ W, Ext wb W → W.cell? ⟨w.heap.size + 1, 0, none⟩ = some (.bool bY) := fun W e => e.cell (by rw [hwb]; go_simp)
  have h11 : ∀ W, Ext wb W → W.cell? ⟨w.heap.size + 1, 1, none⟩ = some (.slice a2 n2 c2) := fun W e => e.cell (by rw [hwb]; go_simp)
  have hB : ∀ W, Ext wb W → W.heap[w.heap.size + 2]? = some (.cells #[.bool false, .slice none 0 0] 24) := fun W e => e.blk (by rw [hwb]; exact heap_at _ _ _ (by simp))
  rw [← hwb]
  clear hwb
  replace hB := mkHid hB
  replace hE := mkHid hE
  apply region_ext [.val _, .val _, .val _, .val _, .val _, .val _, .val _, .val _, .val _, .pred (fun W v => RawR W v M), .pred (fun W v => IntR W v (X * Y))] (by kernel_rfl) (stable_vals _ (stable_vals _ (stable_vals _ (stable_vals _ (stable_vals _ (stable_vals _ (stable_vals _ (stable_vals _ (stable_vals _ (st_rawR _ (st_intR _ trivial)))))))))))
  iterate 9 (refine ⟨fun W hW _ => by go_simp; exact ⟨Ext.refl _, rfl⟩, ?_⟩)
  refine ⟨fun W hW _ => ?g6, fun v6 => ⟨fun W hW hF => ?g7, fun v7 => fun W hW hF => ?fin⟩⟩
  case g6 =>
    go_simp
    refine (AD.out W (hE.out.trans hW)).mono ?_
    rintro e w' ⟨v, rfl, h1, h2⟩
    exact ⟨v, rfl, h2, h1⟩
  case g7 =>
    have d6 : RawR W v6 M := hF.1 (by kernel_rfl)
    replace d6 := mkHid d6
    clear hF
    go_simp
    refine (SG.out v6 W d6.out).mono ?_
    rintro e w' ⟨v, rfl, h1, h2⟩
    exact ⟨v, rfl, h2, h1⟩
  case fin =>
    have d7 : IntR W v7 (X * Y) := hF.1 rfl
    have hBW := hB.out W hW
    have hEW0 := hE.out.trans hW
    clear hF h00 h01 h10 h11 AD SG hW
    go_simp
    obtain ⟨nb, a2, n2, c2, rfl⟩ := d7.shape
    have hR := d7.flat hBW (by simp [flatV]) #[.bool nb, .slice a2 n2 c2]
    have hEW := hEW0.row (show w.heap.size ≤ w.heap.size + 2 by omega) #[.bool nb, .slice a2 n2 c2]
    replace hR := mkHid hR
    replace hEW := mkHid hEW
    clear d7 hEW0
    go_wp2_with (refine wpList_store_row rfl 24 (.tmp 4) (.tmp 15) rfl (w.heap.size + 2) #[.bool nb, .slice a2 n2 c2] rfl rfl 24 _ hBW (by kernel_rfl) rfl (by kernel_rfl) ?_)
    exact bodyPost_ret (results_cell_row rfl _ _ (w.heap.size + 2) 24 #[.bool nb, .slice a2 n2 c2] (0, 0) _ rfl (setRow_heap _ _ _ _ _ _ hBW) Tryz.underlying24 rfl (by kernel_rfl)) rfl ⟨_, rfl, hR.out, hEW.out⟩
end Go.Proofs.YtpmfohhpaoagfaaGreat
namespace Go.Proofs.YtpmfohhpaoagfaaGreat
open Go Go.RowKit Go.Proofs
theorem RestR.raw {w : World} {v : Value} {n : Nat} (h : RestR w v n) (hl : (lim n).length ≤ 4294967296) : RawR w v n := by
  obtain ⟨a, c, h1, h2, h3⟩ := h.r
  exact RawR.lims ⟨a, c, h1, h2, h3⟩ hl
set_option maxRecDepth 100000 in
set_option maxHeartbeats 3200000 in
theorem rdivI_c (v1 v2 : Value) (X Y : Int) (w : World) (hX : nl X ≤ 536870912) (hY : nl Y ≤ 536870912) (hY0 : Y ≠ 0) (h1 : IntR w v1 X) (h2 : IntR w v2 Y) :
    Calls Tryz.prog 114 #[v1, v2] w fun e w' => ∃ q r, e = .returned (.tuple #[q, r]) ∧ IntR w' q (X.tdiv Y) ∧ IntR w' r (X.tmod Y) ∧ Ext w w' := by
  obtain ⟨s1, rfl, a1, c1, rfl, _, r1⟩ := h1
  obtain ⟨s2, rfl, a2, c2, rfl, _, r2⟩ := h2
  have hsq := sg_tdiv X Y
  have hsr := sg_tmod X Y
  have hXl : (lim X.natAbs).length ≤ 536870912 := hX
  have hYl : (lim Y.natAbs).length ≤ 536870912 := hY
  have hq := lim_mono (Nat.div_le_self X.natAbs Y.natAbs)
  have hr := lim_mono (Nat.mod_le X.natAbs Y.natAbs)
  obtain ⟨bx, hbx⟩ : ∃ b, b = decide (X < 0) := ⟨_, rfl⟩
  obtain ⟨bY, hbY⟩ : ∃ b, b = decide (Y < 0) := ⟨_, rfl⟩
  rw [← hbx, ← hbY] at hsq
  rw [← hbx] at hsr
  rw [← hbx, ← hbY]
  have DV := mkHid (fun W (e : Ext w W) => rdivide_c a1 a2 c1 c2 X.natAbs Y.natAbs W hX hY (by omega) (r1.ext e) (r2.ext e))
  have SQ := mkHid (fun s W h => rsigned_raw (bx != bY) s (X.natAbs / Y.natAbs) W h)
  have SR := mkHid (fun s W h => rsigned_raw bx s (X.natAbs % Y.natAbs) W h)
  rw [hsq] at SQ
  rw [hsr] at SR
  clear hsq hsr hbx hbY hX hY r1 r2
  generalize (lim X.natAbs).length = n1 at *
  generalize (lim Y.natAbs).length = n2 at *
  generalize X.natAbs / Y.natAbs = Q at *
  generalize X.natAbs % Y.natAbs = R at *
  go_enter Tryz.func114, Tryz.ntmps114
  go_wp2_with fail
  obtain ⟨wb, hwb⟩ : ∃ wb, wb = (((w.alloc (.cells #[.bool bx, .slice a1 n1 c1] 24)).alloc (.cells #[.bool bY, .slice a2 n2 c2] 24)).alloc (.cells #[.bool false, .slice none 0 0] 24)).alloc (.cells #[.bool false, .slice none 0 0] 24) := ⟨_, rfl⟩
  have hE : Ext w wb := by rw [hwb]; exact ((((Ext.refl w).al _).al _).al _).al _
  have h00 : ∀ W, Ext wb W → W.cell? ⟨w.heap.size, 0, none⟩ = some (.bool bx) := fun W e => e.cell (by rw [hwb]; go_simp)
  have h10 : ∀ W, Ext wb W → W.cell? ⟨w.heap.size + 1, 0, none⟩ = some (.bool bY) := fun W e => e.cell (by rw [hwb]; go_simp)
  have hB2 : ∀ W, Ext wb W → W.heap[w.heap.size + 2]? = some (.cells #[.bool false, .slice none 0 0] 24) := fun W e => e.blk (by rw [hwb]; exact (heap_alloc_old _ _ (by simp)).trans (heap_at _ _ _ (by simp)))
  have hB3 : ∀ W, Ext wb W → W.heap[w.heap.size + 3]? = some (.cells #[.bool false, .slice none 0 0] 24) := fun W e => e.blk (by rw [hwb]; exact heap_at _ _ _ (by simp))
  rw [← hwb]
  clear hwb
  replace hB2 := mkHid hB2
  replace hB3 := mkHid hB3
  replace hE := mkHid hE
  refine (DV.out _ hE.out).mono ?_
  rintro e w1 ⟨vq, vr, rfl, hq1, hr1, he1⟩
  have dq := mkHid (hq1.raw (by omega))
  have dr := mkHid (hr1.raw (by omega))
  replace h00 := fun W (e : Ext w1 W) => h00 W (he1.trans e)
  replace h10 := fun W (e : Ext w1 W) => h10 W (he1.trans e)
  replace hB2 := mkHid (fun W (e : Ext w1 W) => hB2.out W (he1.trans e))
  replace hB3 := mkHid (fun W (e : Ext w1 W) => hB3.out W (he1.trans e))
  replace hE := mkHid (hE.out.trans he1)
  clear hq1 hr1 he1 DV
  go_wp2_with fail
  apply region_ext [.val _, .val _, .val _, .val _, .val _, .val _, .pred (fun W v => IntR W v (X.tdiv Y)), .val _, .val _, .val _, .pred (fun W v => IntR W v (X.tmod Y))] (by kernel_rfl) (stable_vals _ (stable_vals _ (stable_vals _ (stable_vals _ (stable_vals _ (stable_vals _ (st_intR _ (stable_vals _ (stable_vals _ (stable_vals _ (st_intR _ trivial)))))))))))
  iterate 6 (refine ⟨fun W hW _ => by go_simp; exact ⟨Ext.refl _, rfl⟩, ?_⟩)
  refine ⟨fun W hW _ => ?g6, fun v6 => ?_⟩
  case g6 =>
    go_simp
    refine (SQ.out vq W (dq.out.ext hW)).mono ?_
    rintro e w' ⟨v, rfl, h1, h2⟩
    exact ⟨v, rfl, h2, h1⟩
  iterate 3 (refine ⟨fun W hW _ => by go_simp; exact ⟨Ext.refl _, rfl⟩, ?_⟩)
  refine ⟨fun W hW _ => ?g10, fun v10 => fun W hW hF => ?fin⟩
  case g10 =>
    go_simp
    refine (SR.out vr W (dr.out.ext hW)).mono ?_
    rintro e w' ⟨v, rfl, h1, h2⟩
    exact ⟨v, rfl, h2, h1⟩
  case fin =>
    have d6 : IntR W v6 (X.tdiv Y) := hF.2.1 rfl
    have d10 : IntR W v10 (X.tmod Y) := hF.1 rfl
    have b2 := hB2.out W hW
    have b3 := hB3.out W hW
    obtain ⟨q1, q2, q3, q4, rfl⟩ := d6.shape
    obtain ⟨r1, r2, r3, r4, rfl⟩ := d10.shape
    have hrows := two_rows W (w.heap.size + 2) (w.heap.size + 3) #[.bool q1, .slice q2 q3 q4] #[.bool r1, .slice r2 r3 r4] _ _ _ (by omega) b2 b3
    have F1 := (d6.flat b2 (by simp [flatV]) #[.bool q1, .slice q2 q3 q4]).flat hrows.2.2 (by simp [flatV]) #[.bool r1, .slice r2 r3 r4]
    have F2 := (d10.flat b2 (by simp [flatV]) #[.bool q1, .slice q2 q3 q4]).flat hrows.2.2 (by simp [flatV]) #[.bool r1, .slice r2 r3 r4]
    have FE := ((hE.out.trans hW).row (show w.heap.size ≤ w.heap.size + 2 by omega) #[.bool q1, .slice q2 q3 q4]).row (show w.heap.size ≤ w.heap.size + 3 by omega) #[.bool r1, .slice r2 r3 r4]
    replace F1 := mkHid F1
    replace F2 := mkHid F2
    replace FE := mkHid FE
    replace hrows := mkHid hrows
    replace b2 := mkHid b2
    clear d6 d10 hF h00 h10 SQ SR hW b3
    go_simp
    go_wp2_with (first
      | (refine wpList_store_row rfl 24 (.tmp 4) (.tmp 22) rfl (w.heap.size + 2) #[.bool q1, .slice q2 q3 q4] rfl rfl 24 _ b2.out (by kernel_rfl) rfl (by kernel_rfl) ?_)
      | (refine wpList_store_row rfl 24 (.tmp 5) (.tmp 26) rfl (w.heap.size + 3) #[.bool r1, .slice r2 r3 r4] rfl rfl 24 _ hrows.out.2.2 (by kernel_rfl) rfl (by kernel_rfl) ?_))
    exact bodyPost_ret (results_two rfl _ _ (w.heap.size + 2) (w.heap.size + 3) 24 #[.bool q1, .slice q2 q3 q4] #[.bool r1, .slice r2 r3 r4] _ rfl rfl hrows.out.1 hrows.out.2.1 Tryz.underlying24 rfl (by kernel_rfl) (by kernel_rfl)) rfl ⟨_, _, rfl, F1.out, F2.out, FE.out⟩
end Go.Proofs.YtpmfohhpaoagfaaGreat
namespace Go.Proofs.YtpmfohhpaoagfaaGreat
open Go Go.RowKit Go.Proofs
theorem sg_scale (X : Int) (k : Nat) : sg (decide (X < 0)) (X.natAbs * k) = X * k := by
  unfold sg
  by_cases h : X < 0
  · have e : (X.natAbs : Int) = -X := by omega
    simp only [decide_eq_true h, if_true, Int.natCast_mul, e, Int.neg_mul, Int.neg_neg]
  · have e : (X.natAbs : Int) = X := by omega
    simp only [decide_eq_false h, Int.natCast_mul, e]
    rfl
theorem val_shift (n : Nat) (l : List Nat) : val (List.replicate n 0 ++ l) = 4294967296 ^ n * val l := by
  rw [val_append, val_replicate, List.length_replicate, Nat.zero_add]
theorem okL_rep (n : Nat) : OkL (List.replicate n 0) := fun x hx => by rw [List.eq_of_mem_replicate hx]; omega
theorem two_split (n : Nat) : 4294967296 ^ (n / 32) * 2 ^ (n % 32) = 2 ^ n := by
  rw [show (4294967296 : Nat) = 2 ^ 32 by decide, ← Nat.pow_mul, ← Nat.pow_add, Nat.div_add_mod]
theorem pow31 {i : Nat} (h : i ≤ 31) : 2 ^ i ≤ 2147483648 := by
  have := Nat.pow_le_pow_right (show 0 < 2 by omega) h
  simpa using this
set_option maxRecDepth 100000 in
set_option maxHeartbeats 3200000 in
theorem rdouble_c (v1 : Value) (X : Int) (n : Nat) (w : World) (hX : nl X ≤ 268435456) (hn : n ≤ 8589934592) (h1 : IntR w v1 X) :
    Calls Tryz.prog 129 #[v1, .int .i64 n] w fun e w' => ∃ v, e = .returned v ∧ IntR w' v (X * (2 ^ n : Nat)) ∧ Ext w w' := by
  by_cases h0 : X = 0
  · subst h0
    obtain ⟨s1, rfl, a1, c1, rfl, _, r1⟩ := h1
    have hl : (lim (Int.natAbs 0)).length = 0 := by simp [lim_zero]
    have hz : IntR w (.agg #[.bool false, .slice none 0 0]) (0 * (2 ^ n : Nat)) := by
      rw [Int.zero_mul]
      exact ⟨_, rfl, by simp only [Int.natAbs_zero, lim_zero]; exact magR_nil w⟩
    rw [hl]
    clear r1
    replace hz := mkHid hz
    go_enter Tryz.func129, Tryz.ntmps129
    go_wp2_with fail
    exact bodyPost_ret (v := .agg #[.bool false, .slice none 0 0]) (by simp [results, Tryz.results129, go_sem]) rfl ⟨_, rfl, hz.out.ext (((Ext.refl _).al _).al _), ((Ext.refl _).al _).al _⟩
  · obtain ⟨s1, rfl, a1, c1, rfl, hc1, r1⟩ := h1
    have hn0 : X.natAbs ≠ 0 := by omega
    have hpos : 0 < (lim X.natAbs).length := by rw [lim_pos hn0]; simp
    have hl : (((lim X.natAbs).length : Int) == 0) = false := by rw [beq_eq_false_iff_ne]; omega
    have hXl : (lim X.natAbs).length ≤ 268435456 := hX
    have hsc := sg_scale X (2 ^ n)
    obtain ⟨bx, hbx⟩ : ∃ b, b = decide (X < 0) := ⟨_, rfl⟩
    rw [← hbx] at hsc ⊢
    have SG := mkHid (fun s W h => rsigned_raw bx s (X.natAbs * 2 ^ n) W h)
    rw [hsc] at SG
    have happ : AppX w (.slice a1 (lim X.natAbs).length c1) (limV (lim X.natAbs)) := by
      obtain ⟨b, off, g1, g2⟩ := r1
      have := g1 (limV_ne hpos)
      subst this
      exact .inr ⟨_, c1, by rw [limV_length], row_cells g2⟩
    have hq : val (List.replicate (n / 32) 0 ++ lim X.natAbs) * 2 ^ (n % 32) = X.natAbs * 2 ^ n := by
      rw [val_shift, val_lim, Nat.mul_assoc, Nat.mul_comm X.natAbs, ← Nat.mul_assoc, two_split, Nat.mul_comm]
    have hlq : (List.replicate (n / 32) 0 ++ lim X.natAbs).length = n / 32 + (limV (lim X.natAbs)).length := by simp [limV_length]
    have okq : OkL (List.replicate (n / 32) 0 ++ lim X.natAbs) := okL_append.2 ⟨okL_rep _, lim_ok _⟩
    have hll : (limV (lim X.natAbs)).length ≤ 268435456 := by rw [limV_length]; exact hXl
    have hlm : limV (List.replicate (n / 32) 0 ++ lim X.natAbs) = limV (List.replicate (n / 32) 0) ++ limV (lim X.natAbs) := by simp [limV]
    have hmk := fun w => make32 (n / 32) w (by omega)
    rw [show (((n / 32 : Nat)) : Int) = (n : Int) / 32 by omega] at hmk
    replace hsc := mkHid hsc
    replace hbx := mkHid hbx
    replace hq := mkHid hq
    replace hlq := mkHid hlq
    replace hlm := mkHid hlm
    replace happ := mkHid happ
    have hlen0 : (lim (X.natAbs * 2 ^ n)).length ≤ 4294967296 := by
      have h1 := lim_mul X.natAbs (2 ^ n)
      have h2 : (lim (2 ^ n)).length ≤ n / 32 + 1 := by
        refine lim_length_le ?_
        rw [← two_split n, Nat.pow_succ]
        have := pow31 (show n % 32 ≤ 31 by omega)
        exact Nat.mul_lt_mul_of_pos_left (by omega) (Nat.pow_pos (by omega))
      omega
    replace hlen0 := mkHid hlen0
    obtain ⟨i0, hi, hz0, hz1, hz2⟩ := info_parts u32_info
    generalize (lim X.natAbs).length = n1 at *
    clear r1 hn0 hpos
    go_enter Tryz.func129, Tryz.ntmps129
    go_wp2_with (at_builtin; refine wpList_append_both rfl (.tmp 16) (.tmp 18) 22 rfl w.heap.size 85 i0 (.int .u32 0) 4 u32_under hi hz0 hz1 hz2 rfl (.slice (some ⟨w.heap.size + 1 + 1, 0, none⟩) (n / 32) (n / 32)) (n / 32) (limV (List.replicate (n / 32) 0)) rfl ?d0 (limV (lim X.natAbs)) (happ.out.ext ((((Ext.refl w).al _).al _).al _)) (limV_one _) ?d3 ?d4 ?d5 ?_)
    case d0 =>
      have h := magO_block (w := (w.alloc (.cells #[.bool bx, .slice a1 n1 c1] 24)).alloc (.cells #[.bool false, .slice none 0 0] 24)) (q := List.replicate (n / 32) 0) (by simp; omega)
      have h2 := h.mono (show w.heap.size ≤ _ by simp; omega)
      unfold MagO at h2
      rw [List.length_replicate, show ((w.alloc (.cells #[.bool bx, .slice a1 n1 c1] 24)).alloc (.cells #[.bool false, .slice none 0 0] 24)).heap.size = w.heap.size + 1 + 1 by simp] at h2
      exact h2
    case d3 => unfold maxLen; omega
    case d4 => omega
    case d5 => simp; omega
    intro v2 w2 hown2 hgrow2
    obtain ⟨wb, hwb⟩ : ∃ wb, wb = (w.alloc (.cells #[.bool bx, .slice a1 n1 c1] 24)).alloc (.cells #[.bool false, .slice none 0 0] 24) := ⟨_, rfl⟩
    have hE : Ext w wb := by rw [hwb]; exact ((Ext.refl w).al _).al _
    have hE2 : Ext wb w2 := by
      rw [← hwb] at hgrow2
      refine ((Ext.refl wb).al _).gr hgrow2 (fun k hk => ?_)
      simp [Value.ownBlock] at hk
      rw [hwb]
      simp
      omega
    have k00 := hE2.cell (show wb.cell? ⟨w.heap.size, 0, none⟩ = some (.bool bx) by rw [hwb]; go_simp)
    have hB := hE2.blk (show wb.heap[w.heap.size + 1]? = some (.cells #[.bool false, .slice none 0 0] 24) by rw [hwb]; exact heap_at _ _ _ (by simp))
    have hm : MagO w2 w.heap.size v2 (List.replicate (n / 32) 0 ++ lim X.natAbs) := by
      unfold MagO
      rw [hlq.out, hlm.out]
      exact hown2
    replace hE := mkHid (hE.trans hE2)
    replace hB := mkHid hB
    clear hown2 hgrow2 hwb hE2 happ
    obtain ⟨a2, c2, hv2, hle2, hrow2⟩ := hm.r
    rw [hlq.out] at hv2 hle2
    subst hv2
    have hln : (List.replicate (n / 32) 0 ++ lim X.natAbs).length ≤ 1073741824 := by rw [hlq.out]; omega
    have TM := fun W (e : Ext w2 W) => rtimes_c a2 c2 (List.replicate (n / 32) 0 ++ lim X.natAbs) (2 ^ (n % 32)) W hln okq (by have := pow31 (show n % 32 ≤ 31 by omega); omega) (hrow2.ext e)
    rw [hq.out, hlq.out] at TM
    replace TM := mkHid TM
    replace hrow2 := mkHid hrow2
    clear hm
    generalize n / 32 + (limV (lim X.natAbs)).length = n2 at *
    go_wp2_with fail
    go_loop [6, 7] (fun f i => ∃ (k F : Nat), k ≤ n % 32 ∧ i = .int .i64 (k : Nat) ∧ f = .int .u32 (F : Nat) ∧ F = 2 ^ k) (fun _ i => n % 32 - (intOf i).toNat)
    case atStart => exact ⟨0, 1, Nat.zero_le _, rfl, rfl, rfl⟩
    case round =>
      obtain ⟨k, F, hk, rfl, rfl, hF⟩ := hrel
      by_cases hlt : k < n % 32
      · have hb : F ≤ 1073741824 := by
          have := Nat.pow_le_pow_right (show 0 < 2 by omega) (show k ≤ 30 by omega)
          rw [hF]
          simpa using this
        have hn : 2 * F = 2 ^ (k + 1) := by rw [hF, Nat.pow_succ, Nat.mul_comm]
        replace hF := mkHid hF
        replace hn := mkHid hn
        have hlt2 : (k : Int) < (n : Int) % 32 := by omega
        go_wp2_with fail
        go_round
        case rel => exact ⟨k + 1, 2 * F, by omega, by go_num, by simp, hn.out⟩
        case measure => simp [intOf] <;> omega
      · obtain rfl : k = n % 32 := by omega
        have hFF := hF
        have TM2 := TM.out
        rw [← hFF] at TM2
        replace TM2 := mkHid TM2
        replace hF := mkHid hF
        clear hFF TM
        go_wp2_with fail
        have h00 := fun W (e : Ext w2 W) => e.cell k00
        apply region_ext [.val _, .val _, .val _, .val _, .pred (fun W v => RawR W v (X.natAbs * 2 ^ n)), .pred (fun W v => IntR W v (X * (2 ^ n : Nat)))] (by kernel_rfl) (stable_vals _ (stable_vals _ (stable_vals _ (stable_vals _ (st_rawR _ (st_intR _ trivial))))))
        iterate 4 (refine ⟨fun W hW _ => by go_simp; exact ⟨Ext.refl _, rfl⟩, ?_⟩)
        refine ⟨fun W hW _ => ?g6, fun v6 => ⟨fun W hW hF => ?g7, fun v7 => fun W hW hF => ?fin⟩⟩
        case g6 =>
          go_simp
          refine (TM2.out W hW).mono ?_
          rintro e w' ⟨v, rfl, h1, h2⟩
          have hlen : (lim (X.natAbs * 2 ^ n)).length ≤ 4294967296 := hlen0.out
          exact ⟨v, rfl, h2, RawR.lims h1.r hlen⟩
        case g7 =>
          have d6 : RawR W v6 (X.natAbs * 2 ^ n) := hF.1 (by kernel_rfl)
          replace d6 := mkHid d6
          clear hF
          go_simp
          refine (SG.out v6 W d6.out).mono ?_
          rintro e w' ⟨v, rfl, h1, h2⟩
          exact ⟨v, rfl, h2, h1⟩
        case fin =>
          have d7 : IntR W v7 (X * (2 ^ n : Nat)) := hF.1 rfl
          have hBW := hW.blk hB.out
          have hEW0 := hE.out.trans hW
          clear hF h00 k00 TM2 SG hW
          go_simp
          obtain ⟨nb, a2, n2, c2, rfl⟩ := d7.shape
          have hR := d7.flat hBW (by simp [flatV]) #[.bool nb, .slice a2 n2 c2]
          have hEW := hEW0.row (show w.heap.size ≤ w.heap.size + 1 by omega) #[.bool nb, .slice a2 n2 c2]
          replace hR := mkHid hR
          replace hEW := mkHid hEW
          clear d7 hEW0
          go_wp2_with (refine wpList_store_row rfl 24 (.tmp 4) (.tmp 33) rfl (w.heap.size + 1) #[.bool nb, .slice a2 n2 c2] rfl rfl 24 _ hBW (by kernel_rfl) rfl (by kernel_rfl) ?_)
          exact bodyPost_ret (results_cell_row rfl _ _ (w.heap.size + 1) 24 #[.bool nb, .slice a2 n2 c2] (0, 0) _ rfl (setRow_heap _ _ _ _ _ _ hBW) Tryz.underlying24 rfl (by kernel_rfl)) rfl ⟨_, rfl, hR.out, hEW.out⟩
end Go.Proofs.YtpmfohhpaoagfaaGreat
namespace Go.Proofs.YtpmfohhpaoagfaaGreat
open Go Go.RowKit Go.Proofs
theorem lim_ne {n : Nat} (h : 0 < n) : lim n ≠ [] := by rw [lim_pos (by omega)]; simp
theorem reven_m (v : Value) (A : Nat) (w : World) (hA : 0 < A) (hl : (lim A).length ≤ 1073741824) (h : MagR w v (lim A)) :
    Calls Tryz.prog 127 #[v] w fun e w' => e = .returned (.bool (decide (A % 2 = 0))) ∧ w = w' := by
  obtain ⟨a, c, rfl, hc, r⟩ := h
  have := reven_c a c (lim A) w (lim_ne hA) (lim_ok A) (by omega) r
  rwa [val_lim] at this
theorem rhalf_m (v : Value) (A : Nat) (w : World) (hl : (lim A).length ≤ 1073741824) (h : MagR w v (lim A)) :
    Calls Tryz.prog 128 #[v] w fun e w' => ∃ v, e = .returned v ∧ MagR w' v (lim (A / 2)) ∧ Ext w w' := by
  obtain ⟨a, c, rfl, hc, r⟩ := h
  refine (rhalf_c a c (lim A) w (by omega) (lim_ok A) r).mono ?_
  rintro e w' ⟨v, he, h1, h2⟩
  rw [val_lim] at h1
  exact ⟨v, he, h1.r, h2⟩
theorem rcmp_m (v v' : Value) (A B : Nat) (w : World) (hl : (lim A).length ≤ 1073741824) (hm : (lim B).length ≤ 1073741824) (h : MagR w v (lim A)) (h' : MagR w v' (lim B)) :
    Calls Tryz.prog 122 #[v, v'] w fun e w' => e = .returned (.int .i64 ((A : Int) - B).sign) ∧ Ext w w' := by
  obtain ⟨a, c, rfl, hc, r⟩ := h
  obtain ⟨a', c', rfl, hc', r'⟩ := h'
  exact rcmp_c a a' c c' A B w (by omega) (by omega) r r'
theorem rsub_m (v v' : Value) (A B : Nat) (w : World) (hl : (lim A).length ≤ 1073741824) (hv : B ≤ A) (h : MagR w v (lim A)) (h' : MagR w v' (lim B)) :
    Calls Tryz.prog 123 #[v, v'] w fun e w' => ∃ v, e = .returned v ∧ MagR w' v (lim (A - B)) ∧ Ext w w' := by
  obtain ⟨a, c, rfl, hc, r⟩ := h
  obtain ⟨a', c', rfl, hc', r'⟩ := h'
  refine (rsub_c a a' c c' (lim A) (lim B) w (by omega) (lim_mono hv) (lim_ok _) (lim_ok _) (by rw [val_lim, val_lim]; exact hv) r r').mono ?_
  rintro e w' ⟨v, he, h1, h2⟩
  rw [val_lim, val_lim] at h1
  exact ⟨v, he, h1.r, h2⟩
theorem rsigned_m (v : Value) (A : Nat) (w : World) (hl : (lim A).length ≤ 1073741824) (h : MagR w v (lim A)) :
    Calls Tryz.prog 108 #[.bool false, v] w fun e w' => ∃ v, e = .returned v ∧ IntR w' v (A : Int) ∧ Ext w w' := by
  have := rsigned_raw false v A w (RawR.lims h (by omega))
  unfold sg at this
  simpa using this
theorem gcd_half {A B : Nat} (hA : A % 2 = 0) (hg : Nat.gcd A B % 2 = 1) : Nat.gcd (A / 2) B = Nat.gcd A B := by
  obtain ⟨k, rfl⟩ : ∃ k, A = 2 * k := ⟨A / 2, by omega⟩
  rw [Nat.mul_div_cancel_left _ (by omega)]
  apply Nat.dvd_antisymm
  · exact Nat.dvd_gcd (Nat.dvd_trans (Nat.gcd_dvd_left _ _) (Nat.dvd_mul_left _ _)) (Nat.gcd_dvd_right _ _)
  · refine Nat.dvd_gcd ?_ (Nat.gcd_dvd_right _ _)
    have hc : Nat.Coprime (Nat.gcd (2 * k) B) 2 := by
      rw [Nat.coprime_comm]
      unfold Nat.Coprime
      rw [Nat.gcd_rec, hg]
      rfl
    exact hc.dvd_of_dvd_mul_left (Nat.gcd_dvd_left _ _)
theorem gcd_half' {A B : Nat} (hB : B % 2 = 0) (hg : Nat.gcd A B % 2 = 1) : Nat.gcd A (B / 2) = Nat.gcd A B := by
  rw [Nat.gcd_comm, gcd_half hB (by rw [Nat.gcd_comm]; exact hg), Nat.gcd_comm]
theorem gcd_odd {A B : Nat} (h : ¬ (A % 2 = 0 ∧ B % 2 = 0)) : Nat.gcd A B % 2 = 1 := by
  rcases Nat.mod_two_eq_zero_or_one (Nat.gcd A B) with h0 | h0
  · exfalso
    have hd : 2 ∣ Nat.gcd A B := Nat.dvd_of_mod_eq_zero h0
    exact h ⟨Nat.mod_eq_zero_of_dvd (Nat.dvd_trans hd (Nat.gcd_dvd_left _ _)), Nat.mod_eq_zero_of_dvd (Nat.dvd_trans hd (Nat.gcd_dvd_right _ _))⟩
  · exact h0
theorem gcd_less {A B : Nat} (h : B ≤ A) : Nat.gcd (A - B) B = Nat.gcd A B := Nat.gcd_sub_self_left h
/-- What the second loop keeps. -/
def Com2 (w wr : World) (T v5 v6 : Value) (N t g k : Nat) : Prop :=
  ∃ A B, k = A + B ∧ 0 < B ∧ (lim A).length ≤ N ∧ (lim B).length ≤ N ∧ MagR wr v5 (lim A) ∧ MagR wr v6 (lim B) ∧ Nat.gcd A B = g ∧ g % 2 = 1 ∧ T = .int .i64 (t : Nat) ∧ Ext w wr
set_option maxRecDepth 100000 in
set_option maxHeartbeats 3200000 in
theorem rcommon_nought (v1 v2 : Value) (X Y : Int) (w : World) (hX : nl X ≤ 268435456) (hY : nl Y ≤ 268435456) (h0 : X = 0 ∨ Y = 0) (h1 : IntR w v1 X) (h2 : IntR w v2 Y) :
    Calls Tryz.prog 113 #[v1, v2] w fun e w' => ∃ v, e = .returned v ∧ IntR w' v (Int.gcd X Y : Nat) ∧ Ext w w' := by
  obtain ⟨s1, rfl, m1⟩ := h1
  obtain ⟨s2, rfl, m2⟩ := h2
  have hXl : (lim X.natAbs).length ≤ 268435456 := hX
  have hYl : (lim Y.natAbs).length ≤ 268435456 := hY
  obtain ⟨bx, hbx⟩ : ∃ b, b = decide (X < 0) := ⟨_, rfl⟩
  obtain ⟨bY, hbY⟩ : ∃ b, b = decide (Y < 0) := ⟨_, rfl⟩
  rw [← hbx, ← hbY]
  have S1 := mkHid (fun W (e : Ext w W) => rsigned_m s1 X.natAbs W (by omega) (m1.ext e))
  have S2 := mkHid (fun W (e : Ext w W) => rsigned_m s2 Y.natAbs W (by omega) (m2.ext e))
  obtain ⟨a1, c1, rfl, hc1, r1⟩ := m1
  obtain ⟨a2, c2, rfl, hc2, r2⟩ := m2
  by_cases hX0 : X = 0
  · have hl : (lim X.natAbs).length = 0 := by rw [hX0]; simp [lim_zero]
    have hg : ((Int.gcd X Y : Nat) : Int) = (Y.natAbs : Int) := by rw [hX0]; simp
    rw [hg]
    rw [hl] at S1 ⊢
    clear hbx hbY r1 r2 S1 hg h0 hX hY hX0
    go_enter Tryz.func113, Tryz.ntmps113
    go_wp2_with fail
    refine (S2.out _ ((((Ext.refl w).al _).al _).al _)).mono ?_
    rintro e w2 ⟨v, rfl, h7, he2⟩
    have hEW0 := ((((Ext.refl w).al _).al _).al _).trans he2
    have hBW := he2.blk (heap_at _ _ (w.heap.size + 2) (by simp))
    replace he2 := mkHid he2
    obtain ⟨nb, a2, n2, c2, rfl⟩ := h7.shape
    have hR := h7.flat hBW (by simp [flatV]) #[.bool nb, .slice a2 n2 c2]
    have hEW := hEW0.row (show w.heap.size ≤ w.heap.size + 2 by omega) #[.bool nb, .slice a2 n2 c2]
    replace hR := mkHid hR
    replace hEW := mkHid hEW
    clear h7 hEW0
    go_wp2_with (refine wpList_store_row rfl 24 (.tmp 4) (.tmp 17) rfl (w.heap.size + 2) #[.bool nb, .slice a2 n2 c2] rfl rfl 24 _ hBW (by kernel_rfl) rfl (by kernel_rfl) ?_)
    exact bodyPost_ret (results_cell_row rfl _ _ (w.heap.size + 2) 24 #[.bool nb, .slice a2 n2 c2] (0, 0) _ rfl (setRow_heap _ _ _ _ _ _ hBW) Tryz.underlying24 rfl (by kernel_rfl)) rfl ⟨_, rfl, hR.out, hEW.out⟩
  · have hY0 : Y = 0 := by omega
    have hl : (lim Y.natAbs).length = 0 := by rw [hY0]; simp [lim_zero]
    have hg : ((Int.gcd X Y : Nat) : Int) = (X.natAbs : Int) := by rw [hY0]; simp
    have hp : (((lim X.natAbs).length : Int) == 0) = false := by
      have : X.natAbs ≠ 0 := by omega
      rw [lim_pos this, beq_eq_false_iff_ne]
      simp
      omega
    rw [hg]
    rw [hl] at S2 ⊢
    clear hbx hbY r1 r2 S2 hg h0 hX hY
    replace hX0 := mkHid hX0
    replace hY0 := mkHid hY0
    go_enter Tryz.func113, Tryz.ntmps113
    go_wp2_with fail
    refine (S1.out _ ((((Ext.refl w).al _).al _).al _)).mono ?_
    rintro e w2 ⟨v, rfl, h7, he2⟩
    have hEW0 := ((((Ext.refl w).al _).al _).al _).trans he2
    have hBW := he2.blk (heap_at _ _ (w.heap.size + 2) (by simp))
    replace he2 := mkHid he2
    obtain ⟨nb, a2, n2, c2, rfl⟩ := h7.shape
    have hR := h7.flat hBW (by simp [flatV]) #[.bool nb, .slice a2 n2 c2]
    have hEW := hEW0.row (show w.heap.size ≤ w.heap.size + 2 by omega) #[.bool nb, .slice a2 n2 c2]
    replace hR := mkHid hR
    replace hEW := mkHid hEW
    clear h7 hEW0
    go_wp2_with (refine wpList_store_row rfl 24 (.tmp 4) (.tmp 22) rfl (w.heap.size + 2) #[.bool nb, .slice a2 n2 c2] rfl rfl 24 _ hBW (by kernel_rfl) rfl (by kernel_rfl) ?_)
    exact bodyPost_ret (results_cell_row rfl _ _ (w.heap.size + 2) 24 #[.bool nb, .slice a2 n2 c2] (0, 0) _ rfl (setRow_heap _ _ _ _ _ _ hBW) Tryz.underlying24 rfl (by kernel_rfl)) rfl ⟨_, rfl, hR.out, hEW.out⟩
end Go.Proofs.YtpmfohhpaoagfaaGreat
namespace Go.Proofs.YtpmfohhpaoagfaaGreat
open Go Go.RowKit Go.Proofs
/-- What the first loop keeps. -/
def Com1 (wb wr : World) (v5 v6 T : Value) (x y : Nat) : Prop :=
  ∃ A B t : Nat, T = .int .i64 (t : Nat) ∧ A * 2 ^ t = x ∧ B * 2 ^ t = y ∧ MagR wr v5 (lim A) ∧ MagR wr v6 (lim B) ∧ Ext wb wr
/-- What the second one keeps. -/
def Com3 (wb wr : World) (v5 v6 : Value) (N g k : Nat) : Prop :=
  ∃ A B, k = A + B ∧ 0 < B ∧ (lim A).length ≤ N ∧ (lim B).length ≤ N ∧ MagR wr v5 (lim A) ∧ MagR wr v6 (lim B) ∧ Nat.gcd A B = g ∧ Ext wb wr
/-- What the inner ones keep: of one of the two. -/
def Com4 (wo wr : World) (v : Value) (N M g B k : Nat) : Prop := 0 < k ∧ k ≤ M ∧ (lim k).length ≤ N ∧ MagR wr v (lim k) ∧ Nat.gcd k B = g ∧ Ext wo wr
theorem half_pos {k : Nat} (h : 0 < k) (he : k % 2 = 0) : 0 < k / 2 ∧ k / 2 < k := by omega
theorem com1_bound {A t x : Nat} (hx : 0 < x) (h : A * 2 ^ t = x) : 0 < A ∧ A ≤ x ∧ t < x := by
  have hA : 0 < A := by
    rcases Nat.eq_zero_or_pos A with h0 | h0
    · subst h0; simp at h; omega
    · exact h0
  refine ⟨hA, ?_, ?_⟩
  · rw [← h]; exact Nat.le_mul_of_pos_right _ (Nat.two_pow_pos t)
  · have h1 : t < 2 ^ t := Nat.lt_two_pow_self
    have h2 : 2 ^ t ≤ A * 2 ^ t := Nat.le_mul_of_pos_left _ hA
    omega
theorem com1_t {A t x : Nat} (hA : 0 < A) (h : A * 2 ^ t = x) : t < 32 * (lim x).length := by
  have h1 := lt_pow_lim x
  have h3 : 2 ^ t ≤ A * 2 ^ t := Nat.le_mul_of_pos_left _ hA
  rw [show (4294967296 : Nat) = 2 ^ 32 by decide, ← Nat.pow_mul] at h1
  exact (Nat.pow_lt_pow_iff_right (show 1 < 2 by omega)).1 (Nat.lt_of_le_of_lt (by rw [h] at h3; exact h3) h1)
theorem com1_next {A t x : Nat} (hA : A % 2 = 0) (h : A * 2 ^ t = x) : A / 2 * 2 ^ (t + 1) = x := by
  obtain ⟨k, rfl⟩ : ∃ k, A = 2 * k := ⟨A / 2, by omega⟩
  rw [Nat.mul_div_cancel_left _ (by omega), Nat.pow_succ, ← h, Nat.mul_comm (2 ^ t) 2, ← Nat.mul_assoc, Nat.mul_comm k 2]
theorem com1_gcd {A B t x y : Nat} (h : A * 2 ^ t = x) (h' : B * 2 ^ t = y) : Nat.gcd A B * 2 ^ t = Nat.gcd x y := by
  rw [← h, ← h', Nat.gcd_mul_right]
theorem run_even_fact {k : Nat} (h : ¬ k % 2 = 0) : decide (k % 2 = 0) = false := by simpa using h
set_option maxRecDepth 100000 in
set_option maxHeartbeats 6400000 in
theorem rcommon_both (v1 v2 : Value) (X Y : Int) (w : World) (hX : nl X ≤ 268435456) (hY : nl Y ≤ 268435456) (hX0 : X ≠ 0) (hY0 : Y ≠ 0) (h1 : IntR w v1 X) (h2 : IntR w v2 Y) :
    Calls Tryz.prog 113 #[v1, v2] w fun e w' => ∃ v, e = .returned v ∧ IntR w' v (Int.gcd X Y : Nat) ∧ Ext w w' := by
  obtain ⟨s1, rfl, m1⟩ := h1
  obtain ⟨s2, rfl, m2⟩ := h2
  have hXl : (lim X.natAbs).length ≤ 268435456 := hX
  have hYl : (lim Y.natAbs).length ≤ 268435456 := hY
  obtain ⟨bx, hbx⟩ : ∃ b, b = decide (X < 0) := ⟨_, rfl⟩
  obtain ⟨bY, hbY⟩ : ∃ b, b = decide (Y < 0) := ⟨_, rfl⟩
  rw [← hbx, ← hbY]
  have hxp : 0 < X.natAbs := by omega
  have hyp : 0 < Y.natAbs := by omega
  have hgcd : Int.gcd X Y = Nat.gcd X.natAbs Y.natAbs := rfl
  rw [hgcd]
  have lx := lim_ne hxp
  have ly := lim_ne hyp
  generalize X.natAbs = x at *
  generalize Y.natAbs = y at *
  have px : (((lim x).length : Int) == 0) = false := by
    have : (lim x).length ≠ 0 := fun h => lx (List.eq_nil_of_length_eq_zero h)
    rw [beq_eq_false_iff_ne]
    omega
  have py : (((lim y).length : Int) == 0) = false := by
    have : (lim y).length ≠ 0 := fun h => ly (List.eq_nil_of_length_eq_zero h)
    rw [beq_eq_false_iff_ne]
    omega
  have M1 := mkHid m1
  have M2 := mkHid m2
  obtain ⟨a1, c1, rfl, hc1, r1⟩ := m1
  obtain ⟨a2, c2, rfl, hc2, r2⟩ := m2
  clear hbx hbY hX0 hY0 hX hY hgcd lx ly r1 r2 hc1 hc2
  replace hXl := mkHid hXl
  replace hYl := mkHid hYl
  go_enter Tryz.func113, Tryz.ntmps113
  go_wp2_with fail
  obtain ⟨wb, hwb⟩ : ∃ wb, wb = ((w.alloc (.cells #[.bool bx, .slice a1 (lim x).length c1] 24)).alloc (.cells #[.bool bY, .slice a2 (lim y).length c2] 24)).alloc (.cells #[.bool false, .slice none 0 0] 24) := ⟨_, rfl⟩
  have hE : Ext w wb := by rw [hwb]; exact (((Ext.refl w).al _).al _).al _
  have hB : wb.heap[w.heap.size + 2]? = some (.cells #[.bool false, .slice none 0 0] 24) := by rw [hwb]; exact heap_at _ _ _ (by simp)
  rw [← hwb]
  clear hwb
  have hst : Com1 wb wb (.slice a1 (lim x).length c1) (.slice a2 (lim y).length c2) (.int .i64 0) x y :=
    ⟨x, y, 0, rfl, by simp, by simp, M1.out.ext hE, M2.out.ext hE, Ext.refl _⟩
  replace hE := mkHid hE
  replace hB := mkHid hB
  replace hst := mkHid hst
  replace M1 := mkHid M1
  replace M2 := mkHid M2
  go_loopw [5, 6, 7] (fun v5 v6 t wr => Com1 wb wr v5 v6 t x y) (fun _ _ t _ => x - (intOf t).toNat)
  case atStart => exact hst.out
  case round =>
    obtain ⟨A, B, t, rfl, e1, e2, mA, mB, he⟩ := hrel
    obtain ⟨hA, hAx, htx⟩ := com1_bound hxp e1
    obtain ⟨hBp, hBy, hty⟩ := com1_bound hyp e2
    have ht : t ≤ 8589934592 := by have := com1_t hA e1; have := hXl.out; omega
    have lA : (lim A).length ≤ 268435456 := Nat.le_trans (lim_mono hAx) hXl.out
    have lB : (lim B).length ≤ 268435456 := Nat.le_trans (lim_mono hBy) hYl.out
    have EA := reven_m _ A wr hA (by omega) mA
    have EB := reven_m _ B wr hBp (by omega) mB
    obtain ⟨wo, rfl⟩ : ∃ wo : World, wo = wr := ⟨_, rfl⟩
    by_cases hev : A % 2 = 0 ∧ B % 2 = 0
    · rw [decide_eq_true hev.1] at EA
      rw [decide_eq_true hev.2] at EB
      have n1 := mkHid (com1_next hev.1 e1)
      have n2 := mkHid (com1_next hev.2 e2)
      have HA := mkHid (rhalf_m _ A wo (by omega) mA)
      have HB := mkHid (fun W (e : Ext wo W) => rhalf_m _ B W (by omega) (mB.ext e))
      replace EA := mkHid EA
      replace EB := mkHid EB
      replace e1 := mkHid e1
      replace e2 := mkHid e2
      replace hev := mkHid hev
      replace he := mkHid he
      clear mA mB
      go_wp2_with (first | (refine EA.out.mono ?_; rintro e w' ⟨rfl, rfl⟩) | (refine EB.out.mono ?_; rintro e w' ⟨rfl, rfl⟩))
      refine HA.out.mono ?_
      rintro e w1 ⟨v1, rfl, hm1, he1⟩
      have HB2 := mkHid (HB.out w1 he1)
      replace he := mkHid (he.out.trans he1)
      replace hm1 := mkHid hm1
      clear HA HB he1
      go_wp2_with fail
      refine HB2.out.mono ?_
      rintro e w2 ⟨v2, rfl, hm2, he2⟩
      have st2 := mkHid (show Com1 wb w2 v1 v2 (.int .i64 ((t + 1 : Nat) : Int)) x y from ⟨A / 2, B / 2, t + 1, rfl, n1.out, n2.out, hm1.out.ext he2, hm2, he.out.trans he2⟩)
      clear hm1 hm2 he2 HB2
      go_wp2_with fail
      go_roundw
      case rel => exact st2.out
      case measure => simp [intOf] <;> omega
    · have hodd := mkHid (gcd_odd hev)
      have hres := mkHid (com1_gcd e1 e2)
      have st3 := mkHid (show Com3 wb wo _ _ 268435456 (Nat.gcd A B) (A + B) from ⟨A, B, rfl, hBp, lA, lB, mA, mB, rfl, he⟩)
      replace e1 := mkHid e1
      replace e2 := mkHid e2
      replace he := mkHid he
      by_cases hA2 : A % 2 = 0
      · have hB2 : ¬ B % 2 = 0 := fun h => hev ⟨hA2, h⟩
        rw [decide_eq_true hA2] at EA
        rw [run_even_fact hB2] at EB
        replace EA := mkHid EA
        replace EB := mkHid EB
        replace hA2 := mkHid hA2
        replace hB2 := mkHid hB2
        replace hev := mkHid hev
        clear mA mB
        go_wp2_with (first | (refine EA.out.mono ?_; rintro e w' ⟨rfl, rfl⟩) | (refine EB.out.mono ?_; rintro e w' ⟨rfl, rfl⟩))
        go_loopg [5, 6] (A + B) (fun k v5 v6 wr => Com3 wb wr v5 v6 268435456 (Nat.gcd A B) k)
        case atStart => exact st3.out
        case round =>
          clear st3
          obtain ⟨C, D, rfl, hD, lC, lD, mC, mD, hg, heC⟩ := hrel
          obtain ⟨w2, rfl⟩ : ∃ w2 : World, w2 = wr := ⟨_, rfl⟩
          by_cases hC : C = 0
          · subst hC
            rw [Nat.gcd_zero_left] at hg
            have hfin := hres.out
            rw [← hg] at hfin
            have SS := mkHid (rsigned_m _ D w2 (by omega) mD)
            have DD := mkHid (fun v W h => rdouble_c v (D : Int) t W lD ht h)
            rw [← Int.natCast_mul, hfin] at DD
            obtain ⟨ca, cc, rfl, hcc, rC⟩ := mC
            rw [lim_zero]
            simp only [List.length_nil]
            replace heC := mkHid heC
            replace hfin := mkHid hfin
            replace hg := mkHid hg
            clear rC mD lC hcc
            go_wp2_with fail
            refine SS.out.mono ?_
            rintro e w3 ⟨v3, rfl, h3, he3⟩
            replace heC := mkHid (heC.out.trans he3)
            replace h3 := mkHid h3
            clear he3 SS
            go_wp2_with fail
            refine (DD.out _ _ h3.out).mono ?_
            rintro e w4 ⟨v4, rfl, h7, he4⟩
            have hBW := (heC.out.trans he4).blk hB.out
            have hEW0 := hE.out.trans (heC.out.trans he4)
            clear heC he4 h3 DD
            obtain ⟨nb, a2, n2, c2, rfl⟩ := h7.shape
            have hR := h7.flat hBW (by simp [flatV]) #[.bool nb, .slice a2 n2 c2]
            have hEW := hEW0.row (show w.heap.size ≤ w.heap.size + 2 by omega) #[.bool nb, .slice a2 n2 c2]
            replace hR := mkHid hR
            replace hEW := mkHid hEW
            clear h7 hEW0
            go_wp2_with (refine wpList_store_row rfl 24 (.tmp 4) (.tmp 59) rfl (w.heap.size + 2) #[.bool nb, .slice a2 n2 c2] rfl rfl 24 _ hBW (by kernel_rfl) rfl (by kernel_rfl) ?_)
            exact bodyPost_ret (results_cell_row rfl _ _ (w.heap.size + 2) 24 #[.bool nb, .slice a2 n2 c2] (0, 0) _ rfl (setRow_heap _ _ _ _ _ _ hBW) Tryz.underlying24 rfl (by kernel_rfl)) rfl ⟨_, rfl, hR.out, hEW.out⟩
          · have hCp : 0 < C := by omega
            obtain ⟨ca, cc, rfl, hcc, rC⟩ := mC
            have mC : MagR w2 (.slice ca (lim C).length cc) (lim C) := ⟨ca, cc, rfl, hcc, rC⟩
            have hlc : 0 < (lim C).length := by rw [lim_pos (by omega)]; simp
            obtain ⟨g, hgg⟩ : ∃ g, g = Nat.gcd A B := ⟨_, rfl⟩
            rw [← hgg] at hg
            have hgo : g % 2 = 1 := by rw [hgg]; exact hodd.out
            have st4 := mkHid (show Com4 w2 w2 (.slice ca (lim C).length cc) 268435456 C g D C from ⟨hCp, Nat.le_refl _, lC, mC, hg, Ext.refl _⟩)
            replace hgg := mkHid hgg
            replace mD := mkHid mD
            replace heC := mkHid heC
            replace hC := mkHid hC
            replace hgo := mkHid hgo
            replace hg := mkHid hg
            clear mC rC hcc
            go_wp2_with fail
            go_loopg [5] C (fun k v5 wr => Com4 w2 wr v5 268435456 C g D k)
            case atStart => exact st4.out
            case round =>
              clear st4
              obtain ⟨hk0, hkC, lk, mk, hgk, hek⟩ := hrel
              have EK := reven_m _ gk wr hk0 (by omega) mk
              by_cases h2 : gk % 2 = 0
              · rw [decide_eq_true h2] at EK
                obtain ⟨q1, q2⟩ := half_pos hk0 h2
                have HK := mkHid (rhalf_m _ gk wr (by omega) mk)
                have hgk2 := gcd_half (B := D) h2 (by rw [hgk]; exact hgo.out)
                rw [hgk] at hgk2
                have lk2 := Nat.le_trans (lim_mono (Nat.le_of_lt q2)) lk
                replace EK := mkHid EK
                replace h2 := mkHid h2
                replace hgk := mkHid hgk
                replace hgk2 := mkHid hgk2
                replace hek := mkHid hek
                clear mk
                go_wp2_with fail
                refine EK.out.mono ?_
                rintro e w' ⟨rfl, rfl⟩
                go_wp2_with fail
                refine HK.out.mono ?_
                rintro e w' ⟨v, rfl, hm, he'⟩
                have st4 := mkHid (show Com4 w2 w' v 268435456 C g D (gk / 2) from ⟨q1, by omega, lk2, hm, hgk2.out, hek.out.trans he'⟩)
                clear hm he' HK EK
                go_wp2_with fail
                go_roundg (gk / 2)
                case measure => exact q2
                case rel => exact st4.out
              · rw [run_even_fact h2] at EK
                obtain ⟨C2, rfl⟩ : ∃ C2, C2 = gk := ⟨_, rfl⟩
                obtain ⟨w3, rfl⟩ : ∃ w3 : World, w3 = wr := ⟨_, rfl⟩
                have mD2 := mD.out.ext hek
                have st5 := mkHid (show Com4 w3 w3 u6 268435456 D g C2 D from ⟨hD, Nat.le_refl _, lD, mD2, by rw [Nat.gcd_comm]; exact hgk, Ext.refl _⟩)
                have M3 := mkHid mk
                replace EK := mkHid EK
                replace h2 := mkHid h2
                replace hgk := mkHid hgk
                replace hek := mkHid hek
                clear mD2 mk
                go_wp2_with fail
                refine EK.out.mono ?_
                rintro e w' ⟨rfl, rfl⟩
                go_wp2_with fail
                go_loopg [6] D (fun k v6 wr => Com4 w3 wr v6 268435456 D g C2 k)
                case atStart => exact st5.out
                case round =>
                  clear st5
                  obtain ⟨hj0, hjD, lj, mj, hgj, hej⟩ := hrel
                  have EJ := reven_m _ gk wr hj0 (by omega) mj
                  by_cases h3 : gk % 2 = 0
                  · rw [decide_eq_true h3] at EJ
                    obtain ⟨q1, q2⟩ := half_pos hj0 h3
                    have HK := mkHid (rhalf_m _ gk wr (by omega) mj)
                    have hgk2 := gcd_half (B := C2) h3 (by rw [hgj]; exact hgo.out)
                    rw [hgj] at hgk2
                    have lk2 := Nat.le_trans (lim_mono (Nat.le_of_lt q2)) lj
                    replace EJ := mkHid EJ
                    replace h3 := mkHid h3
                    replace hgj := mkHid hgj
                    replace hgk2 := mkHid hgk2
                    replace hej := mkHid hej
                    clear mj
                    go_wp2_with fail
                    refine EJ.out.mono ?_
                    rintro e w' ⟨rfl, rfl⟩
                    go_wp2_with fail
                    refine HK.out.mono ?_
                    rintro e w' ⟨v, rfl, hm, he'⟩
                    have st5 := mkHid (show Com4 w3 w' v 268435456 D g C2 (gk / 2) from ⟨q1, by omega, lk2, hm, hgk2.out, hej.out.trans he'⟩)
                    clear hm he' HK EJ
                    go_wp2_with fail
                    go_roundg (gk / 2)
                    case measure => exact q2
                    case rel => exact st5.out
                  · rw [run_even_fact h3] at EJ
                    obtain ⟨D2, rfl⟩ : ∃ D2, D2 = gk := ⟨_, rfl⟩
                    have mC3 := M3.out.ext hej
                    have CP := mkHid (rcmp_m _ _ C2 D2 wr (by omega) (by omega) mC3 mj)
                    have hlt := cmp_lt (X := C2) (R := D2)
                    have hcb := cmp_bounds (X := C2) (R := D2)
                    generalize ((C2 : Int) - (D2 : Int)).sign = S at *
                    have heW := (heC.out.trans hek.out).trans hej
                    replace EJ := mkHid EJ
                    replace h3 := mkHid h3
                    replace hlt := mkHid hlt
                    replace hgj := mkHid hgj
                    replace hej := mkHid hej
                    replace mC3 := mkHid mC3
                    replace mj := mkHid mj
                    replace heW := mkHid heW
                    go_wp2_with fail
                    refine EJ.out.mono ?_
                    rintro e w' ⟨rfl, rfl⟩
                    go_wp2_with fail
                    refine CP.out.mono ?_
                    rintro e w4 ⟨rfl, he4⟩
                    clear EJ CP
                    by_cases hS : S < 0
                    · have hlt2 := hlt.out.1 hS
                      have SB := mkHid (rsub_m _ _ D2 C2 w4 (by omega) (by omega) (mj.out.ext he4) (mC3.out.ext he4))
                      have mC4 := mkHid (mC3.out.ext he4)
                      replace heW := mkHid (heW.out.trans he4)
                      clear he4
                      replace hlt2 := mkHid hlt2
                      go_wp2_with fail
                      refine SB.out.mono ?_
                      rintro e w5 ⟨v5, rfl, hm5, he5⟩
                      have st6 := mkHid (show Com3 wb w5 v5 _ 268435456 (Nat.gcd A B) (D2 - C2 + C2) from ⟨D2 - C2, C2, rfl, hk0, Nat.le_trans (lim_mono (Nat.sub_le _ _)) lj, lk, hm5, mC4.out.ext he5, by rw [Nat.gcd_sub_self_left (Nat.le_of_lt hlt2.out), hgj.out, hgg.out], heW.out.trans he5⟩)
                      clear hm5 he5 SB mC4
                      go_wp2_with fail
                      go_roundg (D2 - C2 + C2)
                      case measure => have := hlt2.out; omega
                      case rel => exact st6.out
                    · have hge2 : D2 ≤ C2 := by
                        have := hlt.out
                        omega
                      have SB := mkHid (rsub_m _ _ C2 D2 w4 (by omega) hge2 (mC3.out.ext he4) (mj.out.ext he4))
                      have mC4 := mkHid (mj.out.ext he4)
                      replace heW := mkHid (heW.out.trans he4)
                      clear he4
                      replace hge2 := mkHid hge2
                      go_wp2_with fail
                      refine SB.out.mono ?_
                      rintro e w5 ⟨v5, rfl, hm5, he5⟩
                      have st6 := mkHid (show Com3 wb w5 v5 _ 268435456 (Nat.gcd A B) (C2 - D2 + D2) from ⟨C2 - D2, D2, rfl, hj0, Nat.le_trans (lim_mono (Nat.sub_le _ _)) lk, lj, hm5, mC4.out.ext he5, by rw [Nat.gcd_sub_self_left hge2.out, Nat.gcd_comm, hgj.out, hgg.out], heW.out.trans he5⟩)
                      clear hm5 he5 SB mC4
                      go_wp2_with fail
                      go_roundg (C2 - D2 + D2)
                      case measure => have := hge2.out; omega
                      case rel => exact st6.out
      · rw [run_even_fact hA2] at EA
        replace EA := mkHid EA
        replace EB := mkHid EB
        replace hA2 := mkHid hA2
        replace hev := mkHid hev
        clear mA mB
        go_wp2_with (first | (refine EA.out.mono ?_; rintro e w' ⟨rfl, rfl⟩))
        go_loopg [5, 6] (A + B) (fun k v5 v6 wr => Com3 wb wr v5 v6 268435456 (Nat.gcd A B) k)
        case atStart => exact st3.out
        case round =>
          clear st3
          obtain ⟨C, D, rfl, hD, lC, lD, mC, mD, hg, heC⟩ := hrel
          obtain ⟨w2, rfl⟩ : ∃ w2 : World, w2 = wr := ⟨_, rfl⟩
          by_cases hC : C = 0
          · subst hC
            rw [Nat.gcd_zero_left] at hg
            have hfin := hres.out
            rw [← hg] at hfin
            have SS := mkHid (rsigned_m _ D w2 (by omega) mD)
            have DD := mkHid (fun v W h => rdouble_c v (D : Int) t W lD ht h)
            rw [← Int.natCast_mul, hfin] at DD
            obtain ⟨ca, cc, rfl, hcc, rC⟩ := mC
            rw [lim_zero]
            simp only [List.length_nil]
            replace heC := mkHid heC
            replace hfin := mkHid hfin
            replace hg := mkHid hg
            clear rC mD lC hcc
            go_wp2_with fail
            refine SS.out.mono ?_
            rintro e w3 ⟨v3, rfl, h3, he3⟩
            replace heC := mkHid (heC.out.trans he3)
            replace h3 := mkHid h3
            clear he3 SS
            go_wp2_with fail
            refine (DD.out _ _ h3.out).mono ?_
            rintro e w4 ⟨v4, rfl, h7, he4⟩
            have hBW := (heC.out.trans he4).blk hB.out
            have hEW0 := hE.out.trans (heC.out.trans he4)
            clear heC he4 h3 DD
            obtain ⟨nb, a2, n2, c2, rfl⟩ := h7.shape
            have hR := h7.flat hBW (by simp [flatV]) #[.bool nb, .slice a2 n2 c2]
            have hEW := hEW0.row (show w.heap.size ≤ w.heap.size + 2 by omega) #[.bool nb, .slice a2 n2 c2]
            replace hR := mkHid hR
            replace hEW := mkHid hEW
            clear h7 hEW0
            go_wp2_with (refine wpList_store_row rfl 24 (.tmp 4) (.tmp 59) rfl (w.heap.size + 2) #[.bool nb, .slice a2 n2 c2] rfl rfl 24 _ hBW (by kernel_rfl) rfl (by kernel_rfl) ?_)
            exact bodyPost_ret (results_cell_row rfl _ _ (w.heap.size + 2) 24 #[.bool nb, .slice a2 n2 c2] (0, 0) _ rfl (setRow_heap _ _ _ _ _ _ hBW) Tryz.underlying24 rfl (by kernel_rfl)) rfl ⟨_, rfl, hR.out, hEW.out⟩
          · have hCp : 0 < C := by omega
            obtain ⟨ca, cc, rfl, hcc, rC⟩ := mC
            have mC : MagR w2 (.slice ca (lim C).length cc) (lim C) := ⟨ca, cc, rfl, hcc, rC⟩
            have hlc : 0 < (lim C).length := by rw [lim_pos (by omega)]; simp
            obtain ⟨g, hgg⟩ : ∃ g, g = Nat.gcd A B := ⟨_, rfl⟩
            rw [← hgg] at hg
            have hgo : g % 2 = 1 := by rw [hgg]; exact hodd.out
            have st4 := mkHid (show Com4 w2 w2 (.slice ca (lim C).length cc) 268435456 C g D C from ⟨hCp, Nat.le_refl _, lC, mC, hg, Ext.refl _⟩)
            replace hgg := mkHid hgg
            replace mD := mkHid mD
            replace heC := mkHid heC
            replace hC := mkHid hC
            replace hgo := mkHid hgo
            replace hg := mkHid hg
            clear mC rC hcc
            go_wp2_with fail
            go_loopg [5] C (fun k v5 wr => Com4 w2 wr v5 268435456 C g D k)
            case atStart => exact st4.out
            case round =>
              clear st4
              obtain ⟨hk0, hkC, lk, mk, hgk, hek⟩ := hrel
              have EK := reven_m _ gk wr hk0 (by omega) mk
              by_cases h2 : gk % 2 = 0
              · rw [decide_eq_true h2] at EK
                obtain ⟨q1, q2⟩ := half_pos hk0 h2
                have HK := mkHid (rhalf_m _ gk wr (by omega) mk)
                have hgk2 := gcd_half (B := D) h2 (by rw [hgk]; exact hgo.out)
                rw [hgk] at hgk2
                have lk2 := Nat.le_trans (lim_mono (Nat.le_of_lt q2)) lk
                replace EK := mkHid EK
                replace h2 := mkHid h2
                replace hgk := mkHid hgk
                replace hgk2 := mkHid hgk2
                replace hek := mkHid hek
                clear mk
                go_wp2_with fail
                refine EK.out.mono ?_
                rintro e w' ⟨rfl, rfl⟩
                go_wp2_with fail
                refine HK.out.mono ?_
                rintro e w' ⟨v, rfl, hm, he'⟩
                have st4 := mkHid (show Com4 w2 w' v 268435456 C g D (gk / 2) from ⟨q1, by omega, lk2, hm, hgk2.out, hek.out.trans he'⟩)
                clear hm he' HK EK
                go_wp2_with fail
                go_roundg (gk / 2)
                case measure => exact q2
                case rel => exact st4.out
              · rw [run_even_fact h2] at EK
                obtain ⟨C2, rfl⟩ : ∃ C2, C2 = gk := ⟨_, rfl⟩
                obtain ⟨w3, rfl⟩ : ∃ w3 : World, w3 = wr := ⟨_, rfl⟩
                have mD2 := mD.out.ext hek
                have st5 := mkHid (show Com4 w3 w3 u6 268435456 D g C2 D from ⟨hD, Nat.le_refl _, lD, mD2, by rw [Nat.gcd_comm]; exact hgk, Ext.refl _⟩)
                have M3 := mkHid mk
                replace EK := mkHid EK
                replace h2 := mkHid h2
                replace hgk := mkHid hgk
                replace hek := mkHid hek
                clear mD2 mk
                go_wp2_with fail
                refine EK.out.mono ?_
                rintro e w' ⟨rfl, rfl⟩
                go_wp2_with fail
                go_loopg [6] D (fun k v6 wr => Com4 w3 wr v6 268435456 D g C2 k)
                case atStart => exact st5.out
                case round =>
                  clear st5
                  obtain ⟨hj0, hjD, lj, mj, hgj, hej⟩ := hrel
                  have EJ := reven_m _ gk wr hj0 (by omega) mj
                  by_cases h3 : gk % 2 = 0
                  · rw [decide_eq_true h3] at EJ
                    obtain ⟨q1, q2⟩ := half_pos hj0 h3
                    have HK := mkHid (rhalf_m _ gk wr (by omega) mj)
                    have hgk2 := gcd_half (B := C2) h3 (by rw [hgj]; exact hgo.out)
                    rw [hgj] at hgk2
                    have lk2 := Nat.le_trans (lim_mono (Nat.le_of_lt q2)) lj
                    replace EJ := mkHid EJ
                    replace h3 := mkHid h3
                    replace hgj := mkHid hgj
                    replace hgk2 := mkHid hgk2
                    replace hej := mkHid hej
                    clear mj
                    go_wp2_with fail
                    refine EJ.out.mono ?_
                    rintro e w' ⟨rfl, rfl⟩
                    go_wp2_with fail
                    refine HK.out.mono ?_
                    rintro e w' ⟨v, rfl, hm, he'⟩
                    have st5 := mkHid (show Com4 w3 w' v 268435456 D g C2 (gk / 2) from ⟨q1, by omega, lk2, hm, hgk2.out, hej.out.trans he'⟩)
                    clear hm he' HK EJ
                    go_wp2_with fail
                    go_roundg (gk / 2)
                    case measure => exact q2
                    case rel => exact st5.out
                  · rw [run_even_fact h3] at EJ
                    obtain ⟨D2, rfl⟩ : ∃ D2, D2 = gk := ⟨_, rfl⟩
                    have mC3 := M3.out.ext hej
                    have CP := mkHid (rcmp_m _ _ C2 D2 wr (by omega) (by omega) mC3 mj)
                    have hlt := cmp_lt (X := C2) (R := D2)
                    have hcb := cmp_bounds (X := C2) (R := D2)
                    generalize ((C2 : Int) - (D2 : Int)).sign = S at *
                    have heW := (heC.out.trans hek.out).trans hej
                    replace EJ := mkHid EJ
                    replace h3 := mkHid h3
                    replace hlt := mkHid hlt
                    replace hgj := mkHid hgj
                    replace hej := mkHid hej
                    replace mC3 := mkHid mC3
                    replace mj := mkHid mj
                    replace heW := mkHid heW
                    go_wp2_with fail
                    refine EJ.out.mono ?_
                    rintro e w' ⟨rfl, rfl⟩
                    go_wp2_with fail
                    refine CP.out.mono ?_
                    rintro e w4 ⟨rfl, he4⟩
                    clear EJ CP
                    by_cases hS : S < 0
                    · have hlt2 := hlt.out.1 hS
                      have SB := mkHid (rsub_m _ _ D2 C2 w4 (by omega) (by omega) (mj.out.ext he4) (mC3.out.ext he4))
                      have mC4 := mkHid (mC3.out.ext he4)
                      replace heW := mkHid (heW.out.trans he4)
                      clear he4
                      replace hlt2 := mkHid hlt2
                      go_wp2_with fail
                      refine SB.out.mono ?_
                      rintro e w5 ⟨v5, rfl, hm5, he5⟩
                      have st6 := mkHid (show Com3 wb w5 v5 _ 268435456 (Nat.gcd A B) (D2 - C2 + C2) from ⟨D2 - C2, C2, rfl, hk0, Nat.le_trans (lim_mono (Nat.sub_le _ _)) lj, lk, hm5, mC4.out.ext he5, by rw [Nat.gcd_sub_self_left (Nat.le_of_lt hlt2.out), hgj.out, hgg.out], heW.out.trans he5⟩)
                      clear hm5 he5 SB mC4
                      go_wp2_with fail
                      go_roundg (D2 - C2 + C2)
                      case measure => have := hlt2.out; omega
                      case rel => exact st6.out
                    · have hge2 : D2 ≤ C2 := by
                        have := hlt.out
                        omega
                      have SB := mkHid (rsub_m _ _ C2 D2 w4 (by omega) hge2 (mC3.out.ext he4) (mj.out.ext he4))
                      have mC4 := mkHid (mj.out.ext he4)
                      replace heW := mkHid (heW.out.trans he4)
                      clear he4
                      replace hge2 := mkHid hge2
                      go_wp2_with fail
                      refine SB.out.mono ?_
                      rintro e w5 ⟨v5, rfl, hm5, he5⟩
                      have st6 := mkHid (show Com3 wb w5 v5 _ 268435456 (Nat.gcd A B) (C2 - D2 + D2) from ⟨C2 - D2, D2, rfl, hj0, Nat.le_trans (lim_mono (Nat.sub_le _ _)) lk, lj, hm5, mC4.out.ext he5, by rw [Nat.gcd_sub_self_left hge2.out, Nat.gcd_comm, hgj.out, hgg.out], heW.out.trans he5⟩)
                      clear hm5 he5 SB mC4
                      go_wp2_with fail
                      go_roundg (C2 - D2 + D2)
                      case measure => have := hge2.out; omega
                      case rel => exact st6.out
end Go.Proofs.YtpmfohhpaoagfaaGreat
namespace Go.Proofs.YtpmfohhpaoagfaaGreat
open Go Go.RowKit Go.Proofs
theorem rcommonI_c (v1 v2 : Value) (X Y : Int) (w : World) (hX : nl X ≤ 268435456) (hY : nl Y ≤ 268435456) (h1 : IntR w v1 X) (h2 : IntR w v2 Y) :
    Calls Tryz.prog 113 #[v1, v2] w fun e w' => ∃ v, e = .returned v ∧ IntR w' v (Int.gcd X Y : Nat) ∧ Ext w w' := by
  by_cases h : X = 0 ∨ Y = 0
  · exact rcommon_nought v1 v2 X Y w hX hY h h1 h2
  · exact rcommon_both v1 v2 X Y w hX hY (fun e => h (.inl e)) (fun e => h (.inr e)) h1 h2
theorem gcd_tmod (X Y : Int) : Int.gcd Y (X.tmod Y) = Int.gcd X Y := by
  unfold Int.gcd
  rw [Int.natAbs_tmod, Nat.gcd_comm Y.natAbs, ← Nat.gcd_rec, Nat.gcd_comm]
/-- A bool. -/
def AnyB (_ : World) (v : Value) : Prop := ∃ b, v = .bool b
/-- What Bits tells, as a value. -/
def BitsV (X : Int) (_ : World) (v : Value) : Prop := ∃ k, v = .int .i64 k ∧ BitsRes k X
theorem st_anyB {ss : List FSpec} (h : StableAll Ext ss) : StableAll Ext (.pred AnyB :: ss) := ⟨fun _ _ _ _ h => h, h⟩
theorem st_bitsV {ss : List FSpec} (X : Int) (h : StableAll Ext ss) : StableAll Ext (.pred (BitsV X) :: ss) := ⟨fun _ _ _ _ h => h, h⟩
set_option maxRecDepth 100000 in
set_option maxHeartbeats 3200000 in
theorem rcomm_c (v1 v2 : Value) (X Y : Int) (w : World) (hX : nl X ≤ 268435456) (hY : nl Y ≤ 268435456) (h1 : IntR w v1 X) (h2 : IntR w v2 Y) :
    Calls Tryz.prog 94 #[v1, v2] w fun e w' => ∃ v, e = .returned v ∧ IntR w' v (Int.gcd X Y : Nat) ∧ Ext w w' := by
  have H1 := mkHid h1
  have H2 := mkHid h2
  obtain ⟨bx, a1, n1, c1, rfl⟩ := h1.shape
  obtain ⟨bY, a2, n2, c2, rfl⟩ := h2.shape
  have B1 := mkHid (fun W (e : Ext w W) => rbits_c _ X W (H1.out.ext e) (by omega))
  have B2 := mkHid (fun W (e : Ext w W) => rbits_c _ Y W (H2.out.ext e) (by omega))
  clear h1 h2
  obtain ⟨G, hG⟩ : ∃ G, G = Int.gcd X Y := ⟨_, rfl⟩
  rw [← hG]
  replace hG := mkHid hG
  go_enter Tryz.func94, Tryz.ntmps94
  go_wp2_with fail
  obtain ⟨wb, hwb⟩ : ∃ wb, wb = ((w.alloc (.cells #[.bool bx, .slice a1 n1 c1] 24)).alloc (.cells #[.bool bY, .slice a2 n2 c2] 24)).alloc (.cells #[.bool false, .slice none 0 0] 24) := ⟨_, rfl⟩
  have hE : Ext w wb := by rw [hwb]; exact (((Ext.refl w).al _).al _).al _
  have hB0 : wb.heap[w.heap.size]? = some (.cells #[.bool bx, .slice a1 n1 c1] 24) := by rw [hwb]; exact (heap_alloc_old _ _ (by simp; omega)).trans ((heap_alloc_old _ _ (by simp)).trans (heap_alloc_new _ _))
  have hB1 : wb.heap[w.heap.size + 1]? = some (.cells #[.bool bY, .slice a2 n2 c2] 24) := by rw [hwb]; exact (heap_alloc_old _ _ (by simp)).trans (heap_at _ _ _ (by simp))
  have hB2 : wb.heap[w.heap.size + 2]? = some (.cells #[.bool false, .slice none 0 0] 24) := by rw [hwb]; exact heap_at _ _ _ (by simp)
  have h00 : ∀ W, Ext wb W → W.cell? ⟨w.heap.size, 0, none⟩ = some (.bool bx) := fun W e => e.cell (row2_cells hB0).1
  have h01 : ∀ W, Ext wb W → W.cell? ⟨w.heap.size, 1, none⟩ = some (.slice a1 n1 c1) := fun W e => e.cell (row2_cells hB0).2
  have h10 : ∀ W, Ext wb W → W.cell? ⟨w.heap.size + 1, 0, none⟩ = some (.bool bY) := fun W e => e.cell (row2_cells hB1).1
  have h11 : ∀ W, Ext wb W → W.cell? ⟨w.heap.size + 1, 1, none⟩ = some (.slice a2 n2 c2) := fun W e => e.cell (row2_cells hB1).2
  rw [← hwb]
  clear hwb
  replace hB0 := mkHid hB0
  replace hB1 := mkHid hB1
  replace hB2 := mkHid hB2
  replace hE := mkHid hE
  apply region_ext [.val _, .pred (BitsV X), .val _, .pred (BitsV Y), .pred AnyB] (by kernel_rfl) (stable_vals _ (st_bitsV _ (stable_vals _ (st_bitsV _ (st_anyB trivial)))))
  refine ⟨fun W hW _ => by go_simp; exact ⟨Ext.refl _, rfl⟩, ?_⟩
  refine ⟨fun W hW _ => ?g1, fun v101 => ?_⟩
  case g1 =>
    go_simp
    refine (B1.out W (hE.out.trans hW)).mono ?_
    rintro e w' ⟨k, rfl, h1, h2⟩
    exact ⟨_, rfl, h2, ⟨k, rfl, h1⟩⟩
  refine ⟨fun W hW _ => by go_simp; exact ⟨Ext.refl _, rfl⟩, ?_⟩
  refine ⟨fun W hW _ => ?g3, fun v103 => ?_⟩
  case g3 =>
    go_simp
    refine (B2.out W (hE.out.trans hW)).mono ?_
    rintro e w' ⟨k, rfl, h1, h2⟩
    exact ⟨_, rfl, h2, ⟨k, rfl, h1⟩⟩
  refine ⟨fun W hW hF => ?g4, fun v104 => fun W hW hF => ?fin⟩
  case g4 =>
    have d1 : BitsV X W v101 := hF.2.1 (by kernel_rfl)
    have d2 : BitsV Y W v103 := hF.1 (by kernel_rfl)
    obtain ⟨k1, rfl, -⟩ := d1
    obtain ⟨k2, rfl, -⟩ := d2
    clear hF
    go_simp
    exact ⟨Ext.refl _, _, rfl⟩
  case fin =>
    have d4 : AnyB W v104 := hF.1 rfl
    obtain ⟨b, rfl⟩ := d4
    clear hF h00 h01 h10 h11 B1 B2
    have b0 := hW.blk hB0.out
    have b1 := hW.blk hB1.out
    have b2 := hW.blk hB2.out
    have iX := H1.out.ext (hE.out.trans hW)
    have iY := H2.out.ext (hE.out.trans hW)
    have hEW := hE.out.trans hW
    clear hB0 hB1 hB2 H1 H2 hW hE
    cases b with
    | false =>
      have hgc := mkHid (show Int.gcd X Y = G from hG.out.symm)
      go_simp
      have sY := mkHid (rsign_c _ (Y) W iY (by omega))
      have kc0 := row2_cells b0
      have kc1 := row2_cells b1
      replace b0 := mkHid b0
      replace b1 := mkHid b1
      replace b2 := mkHid b2
      replace iX := mkHid iX
      replace iY := mkHid iY
      replace hEW := mkHid hEW
      go_wp2_with fail
      refine sY.out.mono ?_
      rintro e w3 ⟨rfl, he3⟩
      have d0 := he3.blk b0.out
      have d1 := he3.blk b1.out
      replace b2 := mkHid (he3.blk b2.out)
      replace iX := mkHid (iX.out.ext he3)
      replace iY := mkHid (iY.out.ext he3)
      replace hEW := mkHid (hEW.out.trans he3)
      clear sY kc0 kc1 b0 b1 he3
      have kc0 := row2_cells d0
      have kc1 := row2_cells d1
      replace d0 := mkHid d0
      replace d1 := mkHid d1
      by_cases hz : (Y) = 0
      · have hs : (Y).sign = 0 := by rw [hz]; rfl
        rw [hs]
        have CM := mkHid (rcommonI_c _ _ (X) (Y) w3 hX hY iX.out iY.out)
        rw [hgc.out] at CM
        replace hz := mkHid hz
        clear hs iX iY
        go_wp2_with fail
        refine CM.out.mono ?_
        rintro e w4 ⟨v, rfl, h7, he4⟩
        have hBW := he4.blk b2.out
        have hEW0 := hEW.out.trans he4
        clear he4 CM hEW
        obtain ⟨nb, a2, n2, c2, rfl⟩ := h7.shape
        have hR := h7.flat hBW (by simp [flatV]) #[.bool nb, .slice a2 n2 c2]
        have hEW := hEW0.row (show w.heap.size ≤ w.heap.size + 2 by omega) #[.bool nb, .slice a2 n2 c2]
        replace hR := mkHid hR
        replace hEW := mkHid hEW
        clear h7 hEW0
        go_wp2_with (refine wpList_store_row rfl 24 (.tmp 4) (.tmp 19) rfl (w.heap.size + 2) #[.bool nb, .slice a2 n2 c2] rfl rfl 24 _ hBW (by kernel_rfl) rfl (by kernel_rfl) ?_)
        exact bodyPost_ret (results_cell_row rfl _ _ (w.heap.size + 2) 24 #[.bool nb, .slice a2 n2 c2] (0, 0) _ rfl (setRow_heap _ _ _ _ _ _ hBW) Tryz.underlying24 rfl (by kernel_rfl)) rfl ⟨_, rfl, hR.out, hEW.out⟩
      · have hs : (Y).sign ≠ 0 := by
          rw [Ne, Int.sign_eq_zero_iff_zero]
          exact hz
        have hsb : (((Y).sign) == 0) = false := by rw [beq_eq_false_iff_ne]; exact hs
        have hrs := sign_rng (Y)
        have DV := mkHid (rdivI_c _ _ (X) (Y) w3 (Nat.le_trans hX (by decide)) (Nat.le_trans hY (by decide)) hz iX.out iY.out)
        have hnm : nl ((X).tmod (Y)) ≤ 268435456 := by
          refine Nat.le_trans (lim_mono ?_) hX
          rw [Int.natAbs_tmod]
          exact Nat.mod_le _ _
        have hgt := gcd_tmod (X) (Y)
        rw [hgc.out] at hgt
        generalize (Y).sign = sy at *
        replace hz := mkHid hz
        replace hs := mkHid hs
        replace hgt := mkHid hgt
        go_wp2_with fail
        refine DV.out.mono ?_
        rintro e w4 ⟨q, r, rfl, hq, hr, he4⟩
        obtain ⟨q1, q2, q3, q4, rfl⟩ := hq.shape
        obtain ⟨r1, r2, r3, r4, rfl⟩ := hr.shape
        have e0 := he4.blk d0.out
        have e1 := he4.blk d1.out
        replace b2 := mkHid (he4.blk b2.out)
        replace iY := mkHid (iY.out.ext he4)
        replace hEW := mkHid (hEW.out.trans he4)
        replace hr := mkHid hr
        clear hq he4 DV kc0 kc1 d0 d1 iX
        have kc0 := fun o1 o2 => (((Ext.refl w4).al o1).al o2).cell (row2_cells e1).1
        have kc1 := fun o1 o2 => (((Ext.refl w4).al o1).al o2).cell (row2_cells e1).2
        have BT := mkHid (fun W (e : Ext w4 W) => rbits_c _ (Y) W (iY.out.ext e) (by omega))
        replace e0 := mkHid e0
        replace e1 := mkHid e1
        go_wp2_with fail
        refine (BT.out _ (((Ext.refl w4).al _).al _)).mono ?_
        rintro e w6 ⟨k, rfl, hk, he6⟩
        have b6 := he6.blk (show ((w4.alloc (.cells #[.bool q1, .slice q2 q3 q4] 24)).alloc (.cells #[.bool r1, .slice r2 r3 r4] 24)).heap[w4.heap.size + 1]? = some (.cells #[.bool r1, .slice r2 r3 r4] 24) from heap_at _ _ _ (by simp))
        have he46 := ((((Ext.refl w4).al _).al _).trans he6)
        have e0 := he46.blk e0.out
        have e1 := he46.blk e1.out
        replace b2 := mkHid (he46.blk b2.out)
        replace iY := mkHid (iY.out.ext he46)
        replace hr := mkHid (hr.out.ext he46)
        replace hEW := mkHid (hEW.out.trans he46)
        clear BT kc0 kc1 he6 he46
        have kc1 := row2_cells e1
        have kc6 := row2_cells b6
        replace e0 := mkHid e0
        replace e1 := mkHid e1
        replace b6 := mkHid b6
        by_cases hk1 : k = 1
        · have hone := hk.2.2 hk1
          have hG1 : G = 1 := by
            have h := hgc.out
            unfold Int.gcd at h
            rw [hone, Nat.gcd_one_right] at h
            exact h.symm
          subst hk1
          have OF := mkHid (rof_c 1 w6 (by omega) (by omega))
          replace hG1 := mkHid hG1
          replace hone := mkHid hone
          clear hr iY kc1 kc6 hk
          go_wp2_with fail
          refine OF.out.mono ?_
          rintro e w7 ⟨v, rfl, h7, he7⟩
          have hBW := he7.blk b2.out
          have hEW0 := hEW.out.trans he7
          have h7 : IntR w7 v (G : Int) := by rw [hG1.out]; exact h7
          clear he7 OF hEW
          obtain ⟨nb, a2, n2, c2, rfl⟩ := h7.shape
          have hR := h7.flat hBW (by simp [flatV]) #[.bool nb, .slice a2 n2 c2]
          have hEW := hEW0.row (show w.heap.size ≤ w.heap.size + 2 by omega) #[.bool nb, .slice a2 n2 c2]
          replace hR := mkHid hR
          replace hEW := mkHid hEW
          clear h7 hEW0
          go_wp2_with (refine wpList_store_row rfl 24 (.tmp 4) (.tmp 29) rfl (w.heap.size + 2) #[.bool nb, .slice a2 n2 c2] rfl rfl 24 _ hBW (by kernel_rfl) rfl (by kernel_rfl) ?_)
          exact bodyPost_ret (results_cell_row rfl _ _ (w.heap.size + 2) 24 #[.bool nb, .slice a2 n2 c2] (0, 0) _ rfl (setRow_heap _ _ _ _ _ _ hBW) Tryz.underlying24 rfl (by kernel_rfl)) rfl ⟨_, rfl, hR.out, hEW.out⟩
        · have hkb : (k == 1) = false := by rw [beq_eq_false_iff_ne]; exact hk1
          have hkr := hk.1
          have hkr2 := hk.2.1
          have CM := mkHid (rcommonI_c _ _ (Y) ((X).tmod (Y)) w6 hY hnm iY.out hr.out)
          rw [hgt.out] at CM
          replace hk := mkHid hk
          replace hk1 := mkHid hk1
          clear hr iY
          go_wp2_with fail
          refine CM.out.mono ?_
          rintro e w7 ⟨v, rfl, h7, he7⟩
          have hBW := he7.blk b2.out
          have hEW0 := hEW.out.trans he7
          clear he7 CM hEW
          obtain ⟨nb, a2, n2, c2, rfl⟩ := h7.shape
          have hR := h7.flat hBW (by simp [flatV]) #[.bool nb, .slice a2 n2 c2]
          have hEW := hEW0.row (show w.heap.size ≤ w.heap.size + 2 by omega) #[.bool nb, .slice a2 n2 c2]
          replace hR := mkHid hR
          replace hEW := mkHid hEW
          clear h7 hEW0
          go_wp2_with (refine wpList_store_row rfl 24 (.tmp 4) (.tmp 32) rfl (w.heap.size + 2) #[.bool nb, .slice a2 n2 c2] rfl rfl 24 _ hBW (by kernel_rfl) rfl (by kernel_rfl) ?_)
          exact bodyPost_ret (results_cell_row rfl _ _ (w.heap.size + 2) 24 #[.bool nb, .slice a2 n2 c2] (0, 0) _ rfl (setRow_heap _ _ _ _ _ _ hBW) Tryz.underlying24 rfl (by kernel_rfl)) rfl ⟨_, rfl, hR.out, hEW.out⟩
    | true =>
      have hgc := mkHid (show Int.gcd Y X = G from (Int.gcd_comm Y X).trans hG.out.symm)
      go_simp
      obtain ⟨W2, hW2⟩ : ∃ W2, W2 = (W.setRow w.heap.size #[.bool bY, .slice a2 n2 c2]).setRow (w.heap.size + 1) #[.bool bx, .slice a1 n1 c1] := ⟨_, rfl⟩
      have hrows := two_rows W w.heap.size (w.heap.size + 1) #[.bool bY, .slice a2 n2 c2] #[.bool bx, .slice a1 n1 c1] _ _ _ (by omega) b0 b1
      have g2 : W2.heap[w.heap.size + 2]? = some (.cells #[.bool false, .slice none 0 0] 24 (0, 0)) := by
        rw [hW2, setRow_other _ _ _ _ (by omega), setRow_other _ _ _ _ (by omega)]
        exact b2
      have jX := (iX.flat b0 (by simp [flatV]) #[.bool bY, .slice a2 n2 c2]).flat hrows.2.2 (by simp [flatV]) #[.bool bx, .slice a1 n1 c1]
      have jY := (iY.flat b0 (by simp [flatV]) #[.bool bY, .slice a2 n2 c2]).flat hrows.2.2 (by simp [flatV]) #[.bool bx, .slice a1 n1 c1]
      have hEW2 := (hEW.row (show w.heap.size ≤ w.heap.size by omega) #[.bool bY, .slice a2 n2 c2]).row (show w.heap.size ≤ w.heap.size + 1 by omega) #[.bool bx, .slice a1 n1 c1]
      have k0 := mkHid b0
      have k2 := mkHid hrows.2.2
      have u0 := row2_cells b0
      have u1 := row2_cells b1
      have u3 := row2_cells hrows.2.1
      have hr1 := hrows.1
      have hr2 := hrows.2.1
      rw [← hW2] at hr1 hr2 jX jY hEW2
      clear hrows iX iY hEW b0 b1 b2
      have iX := jY
      have iY := jX
      have hEW := hEW2
      have b0 := hr1
      have b1 := hr2
      have b2 := g2
      clear jX jY hEW2 hr1 hr2 g2
      replace hW2 := mkHid hW2
      have sY := mkHid (rsign_c _ (X) W2 iY (by omega))
      have kc0 := row2_cells b0
      have kc1 := row2_cells b1
      replace b0 := mkHid b0
      replace b1 := mkHid b1
      replace b2 := mkHid b2
      replace iX := mkHid iX
      replace iY := mkHid iY
      replace hEW := mkHid hEW
      go_wp2_with (first
        | (refine wpList_store_row rfl 24 (.tmp 2) (.tmp 12) rfl w.heap.size #[.bool bY, .slice a2 n2 c2] rfl rfl 24 _ k0.out (by kernel_rfl) rfl (by kernel_rfl) ?_)
        | (refine wpList_store_row rfl 24 (.tmp 3) (.tmp 13) rfl (w.heap.size + 1) #[.bool bx, .slice a1 n1 c1] rfl rfl 24 _ k2.out (by kernel_rfl) rfl (by kernel_rfl) ?_))
      rw [← hW2.out]
      clear u0 u1 u3 k0 k2 hW2
      refine sY.out.mono ?_
      rintro e w3 ⟨rfl, he3⟩
      have d0 := he3.blk b0.out
      have d1 := he3.blk b1.out
      replace b2 := mkHid (he3.blk b2.out)
      replace iX := mkHid (iX.out.ext he3)
      replace iY := mkHid (iY.out.ext he3)
      replace hEW := mkHid (hEW.out.trans he3)
      clear sY kc0 kc1 b0 b1 he3
      have kc0 := row2_cells d0
      have kc1 := row2_cells d1
      replace d0 := mkHid d0
      replace d1 := mkHid d1
      by_cases hz : (X) = 0
      · have hs : (X).sign = 0 := by rw [hz]; rfl
        rw [hs]
        have CM := mkHid (rcommonI_c _ _ (Y) (X) w3 hY hX iX.out iY.out)
        rw [hgc.out] at CM
        replace hz := mkHid hz
        clear hs iX iY
        go_wp2_with fail
        refine CM.out.mono ?_
        rintro e w4 ⟨v, rfl, h7, he4⟩
        have hBW := he4.blk b2.out
        have hEW0 := hEW.out.trans he4
        clear he4 CM hEW
        obtain ⟨nb, a2, n2, c2, rfl⟩ := h7.shape
        have hR := h7.flat hBW (by simp [flatV]) #[.bool nb, .slice a2 n2 c2]
        have hEW := hEW0.row (show w.heap.size ≤ w.heap.size + 2 by omega) #[.bool nb, .slice a2 n2 c2]
        replace hR := mkHid hR
        replace hEW := mkHid hEW
        clear h7 hEW0
        go_wp2_with (refine wpList_store_row rfl 24 (.tmp 4) (.tmp 19) rfl (w.heap.size + 2) #[.bool nb, .slice a2 n2 c2] rfl rfl 24 _ hBW (by kernel_rfl) rfl (by kernel_rfl) ?_)
        exact bodyPost_ret (results_cell_row rfl _ _ (w.heap.size + 2) 24 #[.bool nb, .slice a2 n2 c2] (0, 0) _ rfl (setRow_heap _ _ _ _ _ _ hBW) Tryz.underlying24 rfl (by kernel_rfl)) rfl ⟨_, rfl, hR.out, hEW.out⟩
      · have hs : (X).sign ≠ 0 := by
          rw [Ne, Int.sign_eq_zero_iff_zero]
          exact hz
        have hsb : (((X).sign) == 0) = false := by rw [beq_eq_false_iff_ne]; exact hs
        have hrs := sign_rng (X)
        have DV := mkHid (rdivI_c _ _ (Y) (X) w3 (Nat.le_trans hY (by decide)) (Nat.le_trans hX (by decide)) hz iX.out iY.out)
        have hnm : nl ((Y).tmod (X)) ≤ 268435456 := by
          refine Nat.le_trans (lim_mono ?_) hY
          rw [Int.natAbs_tmod]
          exact Nat.mod_le _ _
        have hgt := gcd_tmod (Y) (X)
        rw [hgc.out] at hgt
        generalize (X).sign = sy at *
        replace hz := mkHid hz
        replace hs := mkHid hs
        replace hgt := mkHid hgt
        go_wp2_with fail
        refine DV.out.mono ?_
        rintro e w4 ⟨q, r, rfl, hq, hr, he4⟩
        obtain ⟨q1, q2, q3, q4, rfl⟩ := hq.shape
        obtain ⟨r1, r2, r3, r4, rfl⟩ := hr.shape
        have e0 := he4.blk d0.out
        have e1 := he4.blk d1.out
        replace b2 := mkHid (he4.blk b2.out)
        replace iY := mkHid (iY.out.ext he4)
        replace hEW := mkHid (hEW.out.trans he4)
        replace hr := mkHid hr
        clear hq he4 DV kc0 kc1 d0 d1 iX
        have kc0 := fun o1 o2 => (((Ext.refl w4).al o1).al o2).cell (row2_cells e1).1
        have kc1 := fun o1 o2 => (((Ext.refl w4).al o1).al o2).cell (row2_cells e1).2
        have BT := mkHid (fun W (e : Ext w4 W) => rbits_c _ (X) W (iY.out.ext e) (by omega))
        replace e0 := mkHid e0
        replace e1 := mkHid e1
        go_wp2_with fail
        refine (BT.out _ (((Ext.refl w4).al _).al _)).mono ?_
        rintro e w6 ⟨k, rfl, hk, he6⟩
        have b6 := he6.blk (show ((w4.alloc (.cells #[.bool q1, .slice q2 q3 q4] 24)).alloc (.cells #[.bool r1, .slice r2 r3 r4] 24)).heap[w4.heap.size + 1]? = some (.cells #[.bool r1, .slice r2 r3 r4] 24) from heap_at _ _ _ (by simp))
        have he46 := ((((Ext.refl w4).al _).al _).trans he6)
        have e0 := he46.blk e0.out
        have e1 := he46.blk e1.out
        replace b2 := mkHid (he46.blk b2.out)
        replace iY := mkHid (iY.out.ext he46)
        replace hr := mkHid (hr.out.ext he46)
        replace hEW := mkHid (hEW.out.trans he46)
        clear BT kc0 kc1 he6 he46
        have kc1 := row2_cells e1
        have kc6 := row2_cells b6
        replace e0 := mkHid e0
        replace e1 := mkHid e1
        replace b6 := mkHid b6
        by_cases hk1 : k = 1
        · have hone := hk.2.2 hk1
          have hG1 : G = 1 := by
            have h := hgc.out
            unfold Int.gcd at h
            rw [hone, Nat.gcd_one_right] at h
            exact h.symm
          subst hk1
          have OF := mkHid (rof_c 1 w6 (by omega) (by omega))
          replace hG1 := mkHid hG1
          replace hone := mkHid hone
          clear hr iY kc1 kc6 hk
          go_wp2_with fail
          refine OF.out.mono ?_
          rintro e w7 ⟨v, rfl, h7, he7⟩
          have hBW := he7.blk b2.out
          have hEW0 := hEW.out.trans he7
          have h7 : IntR w7 v (G : Int) := by rw [hG1.out]; exact h7
          clear he7 OF hEW
          obtain ⟨nb, a2, n2, c2, rfl⟩ := h7.shape
          have hR := h7.flat hBW (by simp [flatV]) #[.bool nb, .slice a2 n2 c2]
          have hEW := hEW0.row (show w.heap.size ≤ w.heap.size + 2 by omega) #[.bool nb, .slice a2 n2 c2]
          replace hR := mkHid hR
          replace hEW := mkHid hEW
          clear h7 hEW0
          go_wp2_with (refine wpList_store_row rfl 24 (.tmp 4) (.tmp 29) rfl (w.heap.size + 2) #[.bool nb, .slice a2 n2 c2] rfl rfl 24 _ hBW (by kernel_rfl) rfl (by kernel_rfl) ?_)
          exact bodyPost_ret (results_cell_row rfl _ _ (w.heap.size + 2) 24 #[.bool nb, .slice a2 n2 c2] (0, 0) _ rfl (setRow_heap _ _ _ _ _ _ hBW) Tryz.underlying24 rfl (by kernel_rfl)) rfl ⟨_, rfl, hR.out, hEW.out⟩
        · have hkb : (k == 1) = false := by rw [beq_eq_false_iff_ne]; exact hk1
          have hkr := hk.1
          have hkr2 := hk.2.1
          have CM := mkHid (rcommonI_c _ _ (X) ((Y).tmod (X)) w6 hX hnm iY.out hr.out)
          rw [hgt.out] at CM
          replace hk := mkHid hk
          replace hk1 := mkHid hk1
          clear hr iY
          go_wp2_with fail
          refine CM.out.mono ?_
          rintro e w7 ⟨v, rfl, h7, he7⟩
          have hBW := he7.blk b2.out
          have hEW0 := hEW.out.trans he7
          clear he7 CM hEW
          obtain ⟨nb, a2, n2, c2, rfl⟩ := h7.shape
          have hR := h7.flat hBW (by simp [flatV]) #[.bool nb, .slice a2 n2 c2]
          have hEW := hEW0.row (show w.heap.size ≤ w.heap.size + 2 by omega) #[.bool nb, .slice a2 n2 c2]
          replace hR := mkHid hR
          replace hEW := mkHid hEW
          clear h7 hEW0
          go_wp2_with (refine wpList_store_row rfl 24 (.tmp 4) (.tmp 32) rfl (w.heap.size + 2) #[.bool nb, .slice a2 n2 c2] rfl rfl 24 _ hBW (by kernel_rfl) rfl (by kernel_rfl) ?_)
          exact bodyPost_ret (results_cell_row rfl _ _ (w.heap.size + 2) 24 #[.bool nb, .slice a2 n2 c2] (0, 0) _ rfl (setRow_heap _ _ _ _ _ _ hBW) Tryz.underlying24 rfl (by kernel_rfl)) rfl ⟨_, rfl, hR.out, hEW.out⟩
end Go.Proofs.YtpmfohhpaoagfaaGreat
