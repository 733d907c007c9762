/-
  law01: SameInt. law01: SameFrac, SameMatrix, SameRay: printed by tools/gen_same.py. law01: IntSize, FracSize, Lowest, FracCost. law01: MatrixCost, RayCost, Beyond, Whole, Trips: printed by tools/gen_cost.py.
-/
import Derived.Test.YtpmfohhpaoagfaaMH
import Derived.Test.YtpmfohhpaoagfaaMI
namespace Go.Proofs.Ytpmfohhpaoagfaa
open Go Go.RowKit Go.Proofs
theorem eq_of_getD {l m : List Nat} (hl : l.length = m.length) (h : ∀ j, j < l.length → l.getD j 0 = m.getD j 0) : l = m := by
  refine List.ext_getElem hl fun j h1 h2 => ?_
  have := h j h1
  simpa [List.getD_eq_getElem?_getD, h1, h2] using this
set_option maxHeartbeats 3200000 in
theorem sameInt_c (v1 v2 : Value) (b1 b2 : Bool) (l1 l2 : List Nat) (w : World) (hl1 : l1.length ≤ 4294967296) (_hl2 : l2.length ≤ 4294967296) (h1 : AnyR w v1 b1 l1) (h2 : AnyR w v2 b2 l2) :
    Calls Try.prog 43 #[v1, v2] w fun e w' => e = .returned (.bool (decide (b1 = b2 ∧ l1 = l2))) ∧ Ext w w' := by
  obtain ⟨a1, c1, rfl, ok1, _, r1⟩ := h1
  obtain ⟨a2, c2, rfl, ok2, _, r2⟩ := h2
  by_cases hb : b1 = b2
  · by_cases hlen : l1.length = l2.length
    · subst hb
      obtain ⟨r, hr⟩ : ∃ r, r = decide (b1 = b1 ∧ l1 = l2) := ⟨_, rfl⟩
      rw [← hr]
      obtain ⟨g1, o1, ha1, hc1⟩ := r1
      obtain ⟨g2, o2, ha2, hc2⟩ := r2
      obtain ⟨n, hn⟩ : ∃ n, n = l1.length := ⟨_, rfl⟩
      have hn2 : n = l2.length := by omega
      have hnb : n ≤ 4294967296 := by omega
      rw [← hn, ← hn2]
      obtain ⟨wb, hwb⟩ : ∃ wb, wb = (w.alloc (.cells #[.bool b1, .slice a1 n c1] 24)).alloc (.cells #[.bool b1, .slice a2 n c2] 24) := ⟨_, rfl⟩
      have hE : Ext w wb := by rw [hwb]; exact ((Ext.refl w).al _).al _
      have z0 : wb.heap[w.heap.size]? = some (.cells #[.bool b1, .slice a1 n c1] 24 (0, 0)) := by rw [hwb]; exact (heap_alloc_old _ _ (by simp)).trans (heap_alloc_new _ _)
      have z1 : wb.heap[w.heap.size + 1]? = some (.cells #[.bool b1, .slice a2 n c2] 24 (0, 0)) := by rw [hwb]; exact heap_at _ _ _ (by simp)
      have y0 := row2_cells z0
      have y1 := row2_cells z1
      replace hwb := mkHid hwb
      replace hr := mkHid hr
      replace hn := mkHid hn
      replace hn2 := mkHid hn2
      replace ha1 := mkHid ha1
      replace ha2 := mkHid ha2
      replace hc1 := mkHid hc1
      replace hc2 := mkHid hc2
      replace hE := mkHid hE
      clear hlen z0 z1
      go_enter Try.func43, Try.ntmps43
      go_wp2_with fail
      rw [← hwb.out]
      obtain ⟨wo, hwo⟩ : ∃ wo : World, wo = wb := ⟨_, rfl⟩
      go_loopw [5] (fun i wr => ∃ k, k ≤ n ∧ i = .int .i64 (k : Nat) ∧ Ext wo wr ∧ ∀ j, j < k → l1.getD j 0 = l2.getD j 0) (fun i _ => n - (intOf i).toNat)
      case atStart => exact ⟨0, Nat.zero_le _, rfl, hwo ▸ Ext.refl _, fun j hj => absurd hj (by omega)⟩
      case round =>
        obtain ⟨k, hk, rfl, hX, hj⟩ := hrel
        have x0 := (hwo ▸ hX : Ext wb wr).cell y0.2
        have x1 := (hwo ▸ hX : Ext wb wr).cell y1.2
        have hEw : Ext w wr := hE.out.trans (hwo ▸ hX)
        clear y0 y1
        by_cases hlt : k < n
        · have u1 : k < l1.length := by rw [← hn.out]; exact hlt
          have u2 : k < l2.length := by rw [← hn2.out]; exact hlt
          have e1 : wr.cell? ⟨g1, o1 + k, none⟩ = some (.int .u32 (l1.getD k 0 : Nat)) := by
            have := hEw.cell (hc1.out k (by rw [limV_length]; exact u1))
            rwa [limV_getD _ _ u1] at this
          have e2 : wr.cell? ⟨g2, o2 + k, none⟩ = some (.int .u32 (l2.getD k 0 : Nat)) := by
            have := hEw.cell (hc2.out k (by rw [limV_length]; exact u2))
            rwa [limV_getD _ _ u2] at this
          have q1 := ha1.out (limV_ne u1)
          have q2 := ha2.out (limV_ne u2)
          subst q1
          subst q2
          have hne : l1.getD k 0 ≠ l2.getD k 0 → r = false := by
            intro h
            rw [hr.out]
            refine decide_eq_false (fun e => h (by rw [e.2]))
          have hs : ∀ j, j < k + 1 → l1.getD k 0 = l2.getD k 0 → l1.getD j 0 = l2.getD j 0 := by
            intro j h e
            rcases Nat.lt_or_ge j k with h1 | h1
            · exact hj j h1
            · obtain rfl : j = k := by omega
              exact e
          generalize l1.getD k 0 = x at *
          generalize l2.getD k 0 = y at *
          replace hs := mkHid hs
          replace hne := mkHid hne
          replace hEw := mkHid hEw
          replace hX := mkHid hX
          clear hj u1 u2 hc1 hc2 ha1 ha2
          by_cases hxy : x = y
          · subst hxy
            go_wp2_with fail
            go_quiet (fail)
            go_wp2_with fail
            go_roundw
            case rel => exact ⟨k + 1, by omega, by go_num, hX.out.drN _, fun j h => hs.out j h (by trivial)⟩
            case measure => simp [intOf] <;> omega
          · have hb1 : ((x : Int) == (y : Int)) = false := by rw [beq_eq_false_iff_ne]; omega
            obtain rfl := hne.out hxy
            replace hxy := mkHid hxy
            go_wp2_with fail
            go_quiet (fail)
            go_wp2_with fail
            go_ret
            exact ⟨rfl, hEw.out.drN _⟩
        · obtain rfl : n = k := by omega
          have hrt : r = true := by
            rw [hr.out]
            exact decide_eq_true ⟨by trivial, eq_of_getD (by rw [← hn.out, ← hn2.out]) (fun j h => hj j (by rw [hn.out]; exact h))⟩
          subst hrt
          replace hEw := mkHid hEw
          clear hj hX
          go_wp2_with fail
          go_ret
          exact ⟨rfl, hEw.out⟩
    · have hf : decide (b1 = b2 ∧ l1 = l2) = false := decide_eq_false (fun h => hlen (by rw [h.2]))
      rw [hf]
      have hl : ((l1.length : Int) == (l2.length : Int)) = false := by rw [beq_eq_false_iff_ne]; omega
      subst hb
      clear hf r1 r2
      generalize l1.length = n1 at *
      generalize l2.length = n2 at *
      replace hlen := mkHid hlen
      go_enter Try.func43, Try.ntmps43
      go_wp2_with fail
      go_ret
      exact ⟨rfl, ((Ext.refl _).al _).al _⟩
  · have hf : decide (b1 = b2 ∧ l1 = l2) = false := decide_eq_false (fun h => hb h.1)
    rw [hf]
    have hbb : (b1 == b2) = false := by rw [beq_eq_false_iff_ne]; exact hb
    clear hf r1 r2
    generalize l1.length = n1 at *
    generalize l2.length = n2 at *
    replace hb := mkHid hb
    go_enter Try.func43, Try.ntmps43
    go_wp2_with fail
    go_ret
    exact ⟨rfl, ((Ext.refl _).al _).al _⟩
end Go.Proofs.Ytpmfohhpaoagfaa
namespace Go.Proofs.Ytpmfohhpaoagfaa
open Go Go.RowKit Go.Proofs
theorem sameInt_r (v1 v2 : Value) (X Y : Int) (w : World) (hX : nl X ≤ 4294967296) (hY : nl Y ≤ 4294967296) (h1 : IntR w v1 X) (h2 : IntR w v2 Y) :
    Calls Try.prog 43 #[v1, v2] w fun e w' => e = .returned (.bool (decide (X = Y))) ∧ Ext w w' := by
  have h := sameInt_c v1 v2 _ _ _ _ w hX hY (int_any h1) (int_any h2)
  have e : decide (decide (X < 0) = decide (Y < 0) ∧ lim X.natAbs = lim Y.natAbs) = decide (X = Y) := by
    by_cases hx : X = Y
    · subst hx
      simp
    · rw [decide_eq_false hx]
      refine decide_eq_false fun h => hx ?_
      have h3 := eq_of_lim h.2
      have h4 : (X < 0) ↔ (Y < 0) := by
        have := h.1
        simpa using this
      omega
  rw [e] at h
  exact h
/-- A value of api.Ray. -/
def AnyY (w : World) (v : Value) (oy ou : Option Rat) : Prop :=
  ∃ A1 A2 A3 A4 A5 A6 A7 A8 B1 B2 B3 B4 B5 B6 B7 B8, v = .agg #[.bool A1, .slice A2 A3 A4, .bool A5, .slice A6 A7 A8, .bool B1, .slice B2 B3 B4, .bool B5, .slice B6 B7 B8] ∧ AnyF w (.agg #[.bool A1, .slice A2 A3 A4, .bool A5, .slice A6 A7 A8]) oy ∧ AnyF w (.agg #[.bool B1, .slice B2 B3 B4, .bool B5, .slice B6 B7 B8]) ou
theorem AnyY.ext {w w' : World} {v : Value} {oy ou : Option Rat} (h : AnyY w v oy ou) (e : Ext w w') : AnyY w' v oy ou := by
  obtain ⟨A1, A2, A3, A4, A5, A6, A7, A8, B1, B2, B3, B4, B5, B6, B7, B8, h0, h1, h2⟩ := h
  exact ⟨A1, A2, A3, A4, A5, A6, A7, A8, B1, B2, B3, B4, B5, B6, B7, B8, h0, h1.ext e, h2.ext e⟩

set_option maxRecDepth 100000 in
set_option maxHeartbeats 3200000 in
theorem sameFrac_f (v1 v2 : Value) (x y : Rat) (w : World) (h1 : AnyF w v1 (some x)) (h2 : AnyF w v2 (some y)) :
    Calls Try.prog 15 #[v1, v2] w fun e w' => e = .returned (.bool (decide (x = y))) ∧ Ext w w' := by
  obtain ⟨f1, n1⟩ := h1.frac
  obtain ⟨f2, n2⟩ := h2.frac
  clear h1 h2
  obtain ⟨A1, A2, A3, A4, A5, A6, A7, A8, rfl⟩ := f1.shape
  obtain ⟨B1, B2, B3, B4, B5, B6, B7, B8, rfl⟩ := f2.shape
  obtain ⟨wb, hwb⟩ : ∃ wb, wb = (w.alloc (.cells #[.bool A1, .slice A2 A3 A4, .bool A5, .slice A6 A7 A8] 26)).alloc (.cells #[.bool B1, .slice B2 B3 B4, .bool B5, .slice B6 B7 B8] 26) := ⟨_, rfl⟩
  have hE : Ext w wb := by rw [hwb]; exact ((Ext.refl w).al _).al _
  have z0 : wb.heap[w.heap.size]? = some (.cells #[.bool A1, .slice A2 A3 A4, .bool A5, .slice A6 A7 A8] 26 (0, 0)) := by rw [hwb]; exact (heap_alloc_old _ _ (by simp)).trans (heap_alloc_new _ _)
  have z1 : wb.heap[w.heap.size + 1]? = some (.cells #[.bool B1, .slice B2 B3 B4, .bool B5, .slice B6 B7 B8] 26 (0, 0)) := by rw [hwb]; exact heap_at _ _ _ (by simp)
  replace f1 := f1.ext hE
  replace f2 := f2.ext hE
  have b1 : nl x.num ≤ 4294967296 := Nat.le_trans (Nat.le_trans (Nat.le_max_left _ _) n1) (by decide)
  have b2 : nl y.num ≤ 4294967296 := Nat.le_trans (Nat.le_trans (Nat.le_max_left _ _) n2) (by decide)
  have b3 : nl (x.den : Int) ≤ 4294967296 := Nat.le_trans (Nat.le_trans (Nat.le_max_right _ _) n1) (by decide)
  have b4 : nl (y.den : Int) ≤ 4294967296 := Nat.le_trans (Nat.le_trans (Nat.le_max_right _ _) n2) (by decide)
  have k1 := mkHid (fun W (e : Ext wb W) => sameInt_r _ _ _ _ W b1 b2 (f1.num.ext e) (f2.num.ext e))
  have k2 := mkHid (fun W (e : Ext wb W) => sameInt_r _ _ _ _ W b3 b4 (f1.den.ext e) (f2.den.ext e))
  have hpost1 : x = y → x.num = y.num := fun h => by rw [h]
  have hpost2 : x = y → (x.den : Int) = (y.den : Int) := fun h => by rw [h]
  have hall : x.num = y.num → (x.den : Int) = (y.den : Int) → x = y := fun h h' => Rat.ext h (by omega)
  clear f1 f2 n1 n2 b1 b2 b3 b4
  replace z0 := mkHid z0
  replace z1 := mkHid z1
  replace hE := mkHid hE
  replace hwb := mkHid hwb
  have hX := mkHid (Ext.refl wb)
  by_cases c1 : x.num = y.num
  case neg =>
    rw [decide_eq_false c1] at k1
    rw [decide_eq_false (fun h => c1 (hpost1 h))]
    clear hpost1 hpost2 hall
    replace c1 := mkHid c1
    go_enter Try.func15, Try.ntmps15
    go_wp2_with fail
    rw [← hwb.out]
    clear hwb
    refine (k1.out wb hX.out).mono ?_
    rintro e w1 ⟨rfl, hE1⟩
    replace hX := mkHid (hX.out.trans hE1)
    clear hE1
    go_wp2_with fail
    go_ret
    exact ⟨rfl, hE.out.trans hX.out⟩
  rw [decide_eq_true c1] at k1
  by_cases c2 : (x.den : Int) = (y.den : Int)
  case neg =>
    rw [decide_eq_false c2] at k2
    rw [decide_eq_false (fun h => c2 (hpost2 h))]
    clear hpost1 hpost2 hall
    replace c1 := mkHid c1
    replace c2 := mkHid c2
    go_enter Try.func15, Try.ntmps15
    go_wp2_with fail
    rw [← hwb.out]
    clear hwb
    refine (k1.out wb hX.out).mono ?_
    rintro e w1 ⟨rfl, hE1⟩
    replace hX := mkHid (hX.out.trans hE1)
    have ya0 : w1.cell? ⟨w.heap.size, 0, none⟩ = some (.bool A1) := by simp [World.cell?, hX.out.blk z0.out]
    have ya1 : w1.cell? ⟨w.heap.size, 1, none⟩ = some (.slice A2 A3 A4) := by simp [World.cell?, hX.out.blk z0.out]
    have ya2 : w1.cell? ⟨w.heap.size, 2, none⟩ = some (.bool A5) := by simp [World.cell?, hX.out.blk z0.out]
    have ya3 : w1.cell? ⟨w.heap.size, 3, none⟩ = some (.slice A6 A7 A8) := by simp [World.cell?, hX.out.blk z0.out]
    have yb0 : w1.cell? ⟨w.heap.size + 1, 0, none⟩ = some (.bool B1) := by simp [World.cell?, hX.out.blk z1.out]
    have yb1 : w1.cell? ⟨w.heap.size + 1, 1, none⟩ = some (.slice B2 B3 B4) := by simp [World.cell?, hX.out.blk z1.out]
    have yb2 : w1.cell? ⟨w.heap.size + 1, 2, none⟩ = some (.bool B5) := by simp [World.cell?, hX.out.blk z1.out]
    have yb3 : w1.cell? ⟨w.heap.size + 1, 3, none⟩ = some (.slice B6 B7 B8) := by simp [World.cell?, hX.out.blk z1.out]
    clear hE1
    go_wp2_with fail
    refine (k2.out w1 hX.out).mono ?_
    rintro e w2 ⟨rfl, hE2⟩
    replace hX := mkHid (hX.out.trans hE2)
    clear ya0 ya1 ya2 ya3 yb0 yb1 yb2 yb3
    clear hE2
    go_wp2_with fail
    go_ret
    exact ⟨rfl, hE.out.trans hX.out⟩
  rw [decide_eq_true c2] at k2
  rw [decide_eq_true (hall c1 c2)]
  clear hpost1 hpost2 hall
  replace c1 := mkHid c1
  replace c2 := mkHid c2
  go_enter Try.func15, Try.ntmps15
  go_wp2_with fail
  rw [← hwb.out]
  clear hwb
  refine (k1.out wb hX.out).mono ?_
  rintro e w1 ⟨rfl, hE1⟩
  replace hX := mkHid (hX.out.trans hE1)
  have ya0 : w1.cell? ⟨w.heap.size, 0, none⟩ = some (.bool A1) := by simp [World.cell?, hX.out.blk z0.out]
  have ya1 : w1.cell? ⟨w.heap.size, 1, none⟩ = some (.slice A2 A3 A4) := by simp [World.cell?, hX.out.blk z0.out]
  have ya2 : w1.cell? ⟨w.heap.size, 2, none⟩ = some (.bool A5) := by simp [World.cell?, hX.out.blk z0.out]
  have ya3 : w1.cell? ⟨w.heap.size, 3, none⟩ = some (.slice A6 A7 A8) := by simp [World.cell?, hX.out.blk z0.out]
  have yb0 : w1.cell? ⟨w.heap.size + 1, 0, none⟩ = some (.bool B1) := by simp [World.cell?, hX.out.blk z1.out]
  have yb1 : w1.cell? ⟨w.heap.size + 1, 1, none⟩ = some (.slice B2 B3 B4) := by simp [World.cell?, hX.out.blk z1.out]
  have yb2 : w1.cell? ⟨w.heap.size + 1, 2, none⟩ = some (.bool B5) := by simp [World.cell?, hX.out.blk z1.out]
  have yb3 : w1.cell? ⟨w.heap.size + 1, 3, none⟩ = some (.slice B6 B7 B8) := by simp [World.cell?, hX.out.blk z1.out]
  clear hE1
  go_wp2_with fail
  refine (k2.out w1 hX.out).mono ?_
  rintro e w2 ⟨rfl, hE2⟩
  replace hX := mkHid (hX.out.trans hE2)
  clear ya0 ya1 ya2 ya3 yb0 yb1 yb2 yb3
  clear hE2
  go_wp2_with fail
  go_ret
  exact ⟨rfl, hE.out.trans hX.out⟩
set_option maxRecDepth 100000 in
set_option maxHeartbeats 3200000 in
theorem sameRay_f (v1 v2 : Value) (a b a' b' : Rat) (w : World) (h1 : AnyY w v1 (some a) (some b)) (h2 : AnyY w v2 (some a') (some b')) :
    Calls Try.prog 26 #[v1, v2] w fun e w' => e = .returned (.bool (decide (a = a' ∧ b = b'))) ∧ Ext w w' := by
  obtain ⟨A1, A2, A3, A4, A5, A6, A7, A8, B1, B2, B3, B4, B5, B6, B7, B8, rfl, f1, f2⟩ := h1
  obtain ⟨C1, C2, C3, C4, C5, C6, C7, C8, D1, D2, D3, D4, D5, D6, D7, D8, rfl, g1, g2⟩ := h2
  obtain ⟨wb, hwb⟩ : ∃ wb, wb = (w.alloc (.cells #[.bool A1, .slice A2 A3 A4, .bool A5, .slice A6 A7 A8, .bool B1, .slice B2 B3 B4, .bool B5, .slice B6 B7 B8] 48)).alloc (.cells #[.bool C1, .slice C2 C3 C4, .bool C5, .slice C6 C7 C8, .bool D1, .slice D2 D3 D4, .bool D5, .slice D6 D7 D8] 48) := ⟨_, rfl⟩
  have hE : Ext w wb := by rw [hwb]; exact ((Ext.refl w).al _).al _
  have z0 : wb.heap[w.heap.size]? = some (.cells #[.bool A1, .slice A2 A3 A4, .bool A5, .slice A6 A7 A8, .bool B1, .slice B2 B3 B4, .bool B5, .slice B6 B7 B8] 48 (0, 0)) := by rw [hwb]; exact (heap_alloc_old _ _ (by simp)).trans (heap_alloc_new _ _)
  have z1 : wb.heap[w.heap.size + 1]? = some (.cells #[.bool C1, .slice C2 C3 C4, .bool C5, .slice C6 C7 C8, .bool D1, .slice D2 D3 D4, .bool D5, .slice D6 D7 D8] 48 (0, 0)) := by rw [hwb]; exact heap_at _ _ _ (by simp)
  have k1 := mkHid (fun W (e : Ext wb W) => sameFrac_f _ _ a a' W ((f1.ext hE).ext e) ((g1.ext hE).ext e))
  have k2 := mkHid (fun W (e : Ext wb W) => sameFrac_f _ _ b b' W ((f2.ext hE).ext e) ((g2.ext hE).ext e))
  have hpost1 : a = a' ∧ b = b' → a = a' := fun h => h.1
  have hpost2 : a = a' ∧ b = b' → b = b' := fun h => h.2
  have hall : a = a' → b = b' → a = a' ∧ b = b' := fun h h' => ⟨h, h'⟩
  clear f1 f2 g1 g2
  replace z0 := mkHid z0
  replace z1 := mkHid z1
  replace hE := mkHid hE
  replace hwb := mkHid hwb
  have hX := mkHid (Ext.refl wb)
  by_cases c1 : a = a'
  case neg =>
    rw [decide_eq_false c1] at k1
    rw [decide_eq_false (fun h => c1 (hpost1 h))]
    clear hpost1 hpost2 hall
    replace c1 := mkHid c1
    go_enter Try.func26, Try.ntmps26
    go_wp2_with fail
    rw [← hwb.out]
    clear hwb
    refine (k1.out wb hX.out).mono ?_
    rintro e w1 ⟨rfl, hE1⟩
    replace hX := mkHid (hX.out.trans hE1)
    clear hE1
    go_wp2_with fail
    go_ret
    exact ⟨rfl, hE.out.trans hX.out⟩
  rw [decide_eq_true c1] at k1
  by_cases c2 : b = b'
  case neg =>
    rw [decide_eq_false c2] at k2
    rw [decide_eq_false (fun h => c2 (hpost2 h))]
    clear hpost1 hpost2 hall
    replace c1 := mkHid c1
    replace c2 := mkHid c2
    go_enter Try.func26, Try.ntmps26
    go_wp2_with fail
    rw [← hwb.out]
    clear hwb
    refine (k1.out wb hX.out).mono ?_
    rintro e w1 ⟨rfl, hE1⟩
    replace hX := mkHid (hX.out.trans hE1)
    have ya0 : w1.cell? ⟨w.heap.size, 0, none⟩ = some (.bool A1) := by simp [World.cell?, hX.out.blk z0.out]
    have ya1 : w1.cell? ⟨w.heap.size, 1, none⟩ = some (.slice A2 A3 A4) := by simp [World.cell?, hX.out.blk z0.out]
    have ya2 : w1.cell? ⟨w.heap.size, 2, none⟩ = some (.bool A5) := by simp [World.cell?, hX.out.blk z0.out]
    have ya3 : w1.cell? ⟨w.heap.size, 3, none⟩ = some (.slice A6 A7 A8) := by simp [World.cell?, hX.out.blk z0.out]
    have ya4 : w1.cell? ⟨w.heap.size, 4, none⟩ = some (.bool B1) := by simp [World.cell?, hX.out.blk z0.out]
    have ya5 : w1.cell? ⟨w.heap.size, 5, none⟩ = some (.slice B2 B3 B4) := by simp [World.cell?, hX.out.blk z0.out]
    have ya6 : w1.cell? ⟨w.heap.size, 6, none⟩ = some (.bool B5) := by simp [World.cell?, hX.out.blk z0.out]
    have ya7 : w1.cell? ⟨w.heap.size, 7, none⟩ = some (.slice B6 B7 B8) := by simp [World.cell?, hX.out.blk z0.out]
    have yb0 : w1.cell? ⟨w.heap.size + 1, 0, none⟩ = some (.bool C1) := by simp [World.cell?, hX.out.blk z1.out]
    have yb1 : w1.cell? ⟨w.heap.size + 1, 1, none⟩ = some (.slice C2 C3 C4) := by simp [World.cell?, hX.out.blk z1.out]
    have yb2 : w1.cell? ⟨w.heap.size + 1, 2, none⟩ = some (.bool C5) := by simp [World.cell?, hX.out.blk z1.out]
    have yb3 : w1.cell? ⟨w.heap.size + 1, 3, none⟩ = some (.slice C6 C7 C8) := by simp [World.cell?, hX.out.blk z1.out]
    have yb4 : w1.cell? ⟨w.heap.size + 1, 4, none⟩ = some (.bool D1) := by simp [World.cell?, hX.out.blk z1.out]
    have yb5 : w1.cell? ⟨w.heap.size + 1, 5, none⟩ = some (.slice D2 D3 D4) := by simp [World.cell?, hX.out.blk z1.out]
    have yb6 : w1.cell? ⟨w.heap.size + 1, 6, none⟩ = some (.bool D5) := by simp [World.cell?, hX.out.blk z1.out]
    have yb7 : w1.cell? ⟨w.heap.size + 1, 7, none⟩ = some (.slice D6 D7 D8) := by simp [World.cell?, hX.out.blk z1.out]
    clear hE1
    go_wp2_with fail
    refine (k2.out w1 hX.out).mono ?_
    rintro e w2 ⟨rfl, hE2⟩
    replace hX := mkHid (hX.out.trans hE2)
    clear ya0 ya1 ya2 ya3 ya4 ya5 ya6 ya7 yb0 yb1 yb2 yb3 yb4 yb5 yb6 yb7
    clear hE2
    go_wp2_with fail
    go_ret
    exact ⟨rfl, hE.out.trans hX.out⟩
  rw [decide_eq_true c2] at k2
  rw [decide_eq_true (hall c1 c2)]
  clear hpost1 hpost2 hall
  replace c1 := mkHid c1
  replace c2 := mkHid c2
  go_enter Try.func26, Try.ntmps26
  go_wp2_with fail
  rw [← hwb.out]
  clear hwb
  refine (k1.out wb hX.out).mono ?_
  rintro e w1 ⟨rfl, hE1⟩
  replace hX := mkHid (hX.out.trans hE1)
  have ya0 : w1.cell? ⟨w.heap.size, 0, none⟩ = some (.bool A1) := by simp [World.cell?, hX.out.blk z0.out]
  have ya1 : w1.cell? ⟨w.heap.size, 1, none⟩ = some (.slice A2 A3 A4) := by simp [World.cell?, hX.out.blk z0.out]
  have ya2 : w1.cell? ⟨w.heap.size, 2, none⟩ = some (.bool A5) := by simp [World.cell?, hX.out.blk z0.out]
  have ya3 : w1.cell? ⟨w.heap.size, 3, none⟩ = some (.slice A6 A7 A8) := by simp [World.cell?, hX.out.blk z0.out]
  have ya4 : w1.cell? ⟨w.heap.size, 4, none⟩ = some (.bool B1) := by simp [World.cell?, hX.out.blk z0.out]
  have ya5 : w1.cell? ⟨w.heap.size, 5, none⟩ = some (.slice B2 B3 B4) := by simp [World.cell?, hX.out.blk z0.out]
  have ya6 : w1.cell? ⟨w.heap.size, 6, none⟩ = some (.bool B5) := by simp [World.cell?, hX.out.blk z0.out]
  have ya7 : w1.cell? ⟨w.heap.size, 7, none⟩ = some (.slice B6 B7 B8) := by simp [World.cell?, hX.out.blk z0.out]
  have yb0 : w1.cell? ⟨w.heap.size + 1, 0, none⟩ = some (.bool C1) := by simp [World.cell?, hX.out.blk z1.out]
  have yb1 : w1.cell? ⟨w.heap.size + 1, 1, none⟩ = some (.slice C2 C3 C4) := by simp [World.cell?, hX.out.blk z1.out]
  have yb2 : w1.cell? ⟨w.heap.size + 1, 2, none⟩ = some (.bool C5) := by simp [World.cell?, hX.out.blk z1.out]
  have yb3 : w1.cell? ⟨w.heap.size + 1, 3, none⟩ = some (.slice C6 C7 C8) := by simp [World.cell?, hX.out.blk z1.out]
  have yb4 : w1.cell? ⟨w.heap.size + 1, 4, none⟩ = some (.bool D1) := by simp [World.cell?, hX.out.blk z1.out]
  have yb5 : w1.cell? ⟨w.heap.size + 1, 5, none⟩ = some (.slice D2 D3 D4) := by simp [World.cell?, hX.out.blk z1.out]
  have yb6 : w1.cell? ⟨w.heap.size + 1, 6, none⟩ = some (.bool D5) := by simp [World.cell?, hX.out.blk z1.out]
  have yb7 : w1.cell? ⟨w.heap.size + 1, 7, none⟩ = some (.slice D6 D7 D8) := by simp [World.cell?, hX.out.blk z1.out]
  clear hE1
  go_wp2_with fail
  refine (k2.out w1 hX.out).mono ?_
  rintro e w2 ⟨rfl, hE2⟩
  replace hX := mkHid (hX.out.trans hE2)
  clear ya0 ya1 ya2 ya3 ya4 ya5 ya6 ya7 yb0 yb1 yb2 yb3 yb4 yb5 yb6 yb7
  clear hE2
  go_wp2_with fail
  go_ret
  exact ⟨rfl, hE.out.trans hX.out⟩
set_option maxRecDepth 100000 in
set_option maxHeartbeats 3200000 in
theorem sameMatrix_f (v1 v2 : Value) (a b c d a' b' c' d' : Rat) (w : World) (h1 : AnyM w v1 (some a) (some b) (some c) (some d)) (h2 : AnyM w v2 (some a') (some b') (some c') (some d')) :
    Calls Try.prog 20 #[v1, v2] w fun e w' => e = .returned (.bool (decide (a = a' ∧ b = b' ∧ c = c' ∧ d = d'))) ∧ Ext w w' := by
  obtain ⟨A1, A2, A3, A4, A5, A6, A7, A8, B1, B2, B3, B4, B5, B6, B7, B8, C1, C2, C3, C4, C5, C6, C7, C8, D1, D2, D3, D4, D5, D6, D7, D8, rfl, f1, f2, f3, f4⟩ := h1
  obtain ⟨E1, E2, E3, E4, E5, E6, E7, E8, G1, G2, G3, G4, G5, G6, G7, G8, H1, H2, H3, H4, H5, H6, H7, H8, I1, I2, I3, I4, I5, I6, I7, I8, rfl, g1, g2, g3, g4⟩ := h2
  obtain ⟨wb, hwb⟩ : ∃ wb, wb = (w.alloc (.cells #[.bool A1, .slice A2 A3 A4, .bool A5, .slice A6 A7 A8, .bool B1, .slice B2 B3 B4, .bool B5, .slice B6 B7 B8, .bool C1, .slice C2 C3 C4, .bool C5, .slice C6 C7 C8, .bool D1, .slice D2 D3 D4, .bool D5, .slice D6 D7 D8] 40)).alloc (.cells #[.bool E1, .slice E2 E3 E4, .bool E5, .slice E6 E7 E8, .bool G1, .slice G2 G3 G4, .bool G5, .slice G6 G7 G8, .bool H1, .slice H2 H3 H4, .bool H5, .slice H6 H7 H8, .bool I1, .slice I2 I3 I4, .bool I5, .slice I6 I7 I8] 40) := ⟨_, rfl⟩
  have hE : Ext w wb := by rw [hwb]; exact ((Ext.refl w).al _).al _
  have z0 : wb.heap[w.heap.size]? = some (.cells #[.bool A1, .slice A2 A3 A4, .bool A5, .slice A6 A7 A8, .bool B1, .slice B2 B3 B4, .bool B5, .slice B6 B7 B8, .bool C1, .slice C2 C3 C4, .bool C5, .slice C6 C7 C8, .bool D1, .slice D2 D3 D4, .bool D5, .slice D6 D7 D8] 40 (0, 0)) := by rw [hwb]; exact (heap_alloc_old _ _ (by simp)).trans (heap_alloc_new _ _)
  have z1 : wb.heap[w.heap.size + 1]? = some (.cells #[.bool E1, .slice E2 E3 E4, .bool E5, .slice E6 E7 E8, .bool G1, .slice G2 G3 G4, .bool G5, .slice G6 G7 G8, .bool H1, .slice H2 H3 H4, .bool H5, .slice H6 H7 H8, .bool I1, .slice I2 I3 I4, .bool I5, .slice I6 I7 I8] 40 (0, 0)) := by rw [hwb]; exact heap_at _ _ _ (by simp)
  have k1 := mkHid (fun W (e : Ext wb W) => sameFrac_f _ _ a a' W ((f1.ext hE).ext e) ((g1.ext hE).ext e))
  have k2 := mkHid (fun W (e : Ext wb W) => sameFrac_f _ _ b b' W ((f2.ext hE).ext e) ((g2.ext hE).ext e))
  have k3 := mkHid (fun W (e : Ext wb W) => sameFrac_f _ _ c c' W ((f3.ext hE).ext e) ((g3.ext hE).ext e))
  have k4 := mkHid (fun W (e : Ext wb W) => sameFrac_f _ _ d d' W ((f4.ext hE).ext e) ((g4.ext hE).ext e))
  have hpost1 : a = a' ∧ b = b' ∧ c = c' ∧ d = d' → a = a' := fun h => h.1
  have hpost2 : a = a' ∧ b = b' ∧ c = c' ∧ d = d' → b = b' := fun h => h.2.1
  have hpost3 : a = a' ∧ b = b' ∧ c = c' ∧ d = d' → c = c' := fun h => h.2.2.1
  have hpost4 : a = a' ∧ b = b' ∧ c = c' ∧ d = d' → d = d' := fun h => h.2.2.2
  have hall : a = a' → b = b' → c = c' → d = d' → a = a' ∧ b = b' ∧ c = c' ∧ d = d' := fun h h' h'' h''' => ⟨h, h', h'', h'''⟩
  clear f1 f2 f3 f4 g1 g2 g3 g4
  replace z0 := mkHid z0
  replace z1 := mkHid z1
  replace hE := mkHid hE
  replace hwb := mkHid hwb
  have hX := mkHid (Ext.refl wb)
  by_cases c1 : a = a'
  case neg =>
    rw [decide_eq_false c1] at k1
    rw [decide_eq_false (fun h => c1 (hpost1 h))]
    clear hpost1 hpost2 hpost3 hpost4 hall
    replace c1 := mkHid c1
    go_enter Try.func20, Try.ntmps20
    go_wp2_with fail
    rw [← hwb.out]
    clear hwb
    refine (k1.out wb hX.out).mono ?_
    rintro e w1 ⟨rfl, hE1⟩
    replace hX := mkHid (hX.out.trans hE1)
    clear hE1
    go_wp2_with fail
    go_ret
    exact ⟨rfl, hE.out.trans hX.out⟩
  rw [decide_eq_true c1] at k1
  by_cases c2 : b = b'
  case neg =>
    rw [decide_eq_false c2] at k2
    rw [decide_eq_false (fun h => c2 (hpost2 h))]
    clear hpost1 hpost2 hpost3 hpost4 hall
    replace c1 := mkHid c1
    replace c2 := mkHid c2
    go_enter Try.func20, Try.ntmps20
    go_wp2_with fail
    rw [← hwb.out]
    clear hwb
    refine (k1.out wb hX.out).mono ?_
    rintro e w1 ⟨rfl, hE1⟩
    replace hX := mkHid (hX.out.trans hE1)
    have ya0 : w1.cell? ⟨w.heap.size, 0, none⟩ = some (.bool A1) := by simp [World.cell?, hX.out.blk z0.out]
    have ya1 : w1.cell? ⟨w.heap.size, 1, none⟩ = some (.slice A2 A3 A4) := by simp [World.cell?, hX.out.blk z0.out]
    have ya2 : w1.cell? ⟨w.heap.size, 2, none⟩ = some (.bool A5) := by simp [World.cell?, hX.out.blk z0.out]
    have ya3 : w1.cell? ⟨w.heap.size, 3, none⟩ = some (.slice A6 A7 A8) := by simp [World.cell?, hX.out.blk z0.out]
    have ya4 : w1.cell? ⟨w.heap.size, 4, none⟩ = some (.bool B1) := by simp [World.cell?, hX.out.blk z0.out]
    have ya5 : w1.cell? ⟨w.heap.size, 5, none⟩ = some (.slice B2 B3 B4) := by simp [World.cell?, hX.out.blk z0.out]
    have ya6 : w1.cell? ⟨w.heap.size, 6, none⟩ = some (.bool B5) := by simp [World.cell?, hX.out.blk z0.out]
    have ya7 : w1.cell? ⟨w.heap.size, 7, none⟩ = some (.slice B6 B7 B8) := by simp [World.cell?, hX.out.blk z0.out]
    have ya8 : w1.cell? ⟨w.heap.size, 8, none⟩ = some (.bool C1) := by simp [World.cell?, hX.out.blk z0.out]
    have ya9 : w1.cell? ⟨w.heap.size, 9, none⟩ = some (.slice C2 C3 C4) := by simp [World.cell?, hX.out.blk z0.out]
    have ya10 : w1.cell? ⟨w.heap.size, 10, none⟩ = some (.bool C5) := by simp [World.cell?, hX.out.blk z0.out]
    have ya11 : w1.cell? ⟨w.heap.size, 11, none⟩ = some (.slice C6 C7 C8) := by simp [World.cell?, hX.out.blk z0.out]
    have ya12 : w1.cell? ⟨w.heap.size, 12, none⟩ = some (.bool D1) := by simp [World.cell?, hX.out.blk z0.out]
    have ya13 : w1.cell? ⟨w.heap.size, 13, none⟩ = some (.slice D2 D3 D4) := by simp [World.cell?, hX.out.blk z0.out]
    have ya14 : w1.cell? ⟨w.heap.size, 14, none⟩ = some (.bool D5) := by simp [World.cell?, hX.out.blk z0.out]
    have ya15 : w1.cell? ⟨w.heap.size, 15, none⟩ = some (.slice D6 D7 D8) := by simp [World.cell?, hX.out.blk z0.out]
    have yb0 : w1.cell? ⟨w.heap.size + 1, 0, none⟩ = some (.bool E1) := by simp [World.cell?, hX.out.blk z1.out]
    have yb1 : w1.cell? ⟨w.heap.size + 1, 1, none⟩ = some (.slice E2 E3 E4) := by simp [World.cell?, hX.out.blk z1.out]
    have yb2 : w1.cell? ⟨w.heap.size + 1, 2, none⟩ = some (.bool E5) := by simp [World.cell?, hX.out.blk z1.out]
    have yb3 : w1.cell? ⟨w.heap.size + 1, 3, none⟩ = some (.slice E6 E7 E8) := by simp [World.cell?, hX.out.blk z1.out]
    have yb4 : w1.cell? ⟨w.heap.size + 1, 4, none⟩ = some (.bool G1) := by simp [World.cell?, hX.out.blk z1.out]
    have yb5 : w1.cell? ⟨w.heap.size + 1, 5, none⟩ = some (.slice G2 G3 G4) := by simp [World.cell?, hX.out.blk z1.out]
    have yb6 : w1.cell? ⟨w.heap.size + 1, 6, none⟩ = some (.bool G5) := by simp [World.cell?, hX.out.blk z1.out]
    have yb7 : w1.cell? ⟨w.heap.size + 1, 7, none⟩ = some (.slice G6 G7 G8) := by simp [World.cell?, hX.out.blk z1.out]
    have yb8 : w1.cell? ⟨w.heap.size + 1, 8, none⟩ = some (.bool H1) := by simp [World.cell?, hX.out.blk z1.out]
    have yb9 : w1.cell? ⟨w.heap.size + 1, 9, none⟩ = some (.slice H2 H3 H4) := by simp [World.cell?, hX.out.blk z1.out]
    have yb10 : w1.cell? ⟨w.heap.size + 1, 10, none⟩ = some (.bool H5) := by simp [World.cell?, hX.out.blk z1.out]
    have yb11 : w1.cell? ⟨w.heap.size + 1, 11, none⟩ = some (.slice H6 H7 H8) := by simp [World.cell?, hX.out.blk z1.out]
    have yb12 : w1.cell? ⟨w.heap.size + 1, 12, none⟩ = some (.bool I1) := by simp [World.cell?, hX.out.blk z1.out]
    have yb13 : w1.cell? ⟨w.heap.size + 1, 13, none⟩ = some (.slice I2 I3 I4) := by simp [World.cell?, hX.out.blk z1.out]
    have yb14 : w1.cell? ⟨w.heap.size + 1, 14, none⟩ = some (.bool I5) := by simp [World.cell?, hX.out.blk z1.out]
    have yb15 : w1.cell? ⟨w.heap.size + 1, 15, none⟩ = some (.slice I6 I7 I8) := by simp [World.cell?, hX.out.blk z1.out]
    clear hE1
    go_wp2_with fail
    refine (k2.out w1 hX.out).mono ?_
    rintro e w2 ⟨rfl, hE2⟩
    replace hX := mkHid (hX.out.trans hE2)
    clear ya0 ya1 ya2 ya3 ya4 ya5 ya6 ya7 ya8 ya9 ya10 ya11 ya12 ya13 ya14 ya15 yb0 yb1 yb2 yb3 yb4 yb5 yb6 yb7 yb8 yb9 yb10 yb11 yb12 yb13 yb14 yb15
    clear hE2
    go_wp2_with fail
    go_ret
    exact ⟨rfl, hE.out.trans hX.out⟩
  rw [decide_eq_true c2] at k2
  by_cases c3 : c = c'
  case neg =>
    rw [decide_eq_false c3] at k3
    rw [decide_eq_false (fun h => c3 (hpost3 h))]
    clear hpost1 hpost2 hpost3 hpost4 hall
    replace c1 := mkHid c1
    replace c2 := mkHid c2
    replace c3 := mkHid c3
    go_enter Try.func20, Try.ntmps20
    go_wp2_with fail
    rw [← hwb.out]
    clear hwb
    refine (k1.out wb hX.out).mono ?_
    rintro e w1 ⟨rfl, hE1⟩
    replace hX := mkHid (hX.out.trans hE1)
    have ya0 : w1.cell? ⟨w.heap.size, 0, none⟩ = some (.bool A1) := by simp [World.cell?, hX.out.blk z0.out]
    have ya1 : w1.cell? ⟨w.heap.size, 1, none⟩ = some (.slice A2 A3 A4) := by simp [World.cell?, hX.out.blk z0.out]
    have ya2 : w1.cell? ⟨w.heap.size, 2, none⟩ = some (.bool A5) := by simp [World.cell?, hX.out.blk z0.out]
    have ya3 : w1.cell? ⟨w.heap.size, 3, none⟩ = some (.slice A6 A7 A8) := by simp [World.cell?, hX.out.blk z0.out]
    have ya4 : w1.cell? ⟨w.heap.size, 4, none⟩ = some (.bool B1) := by simp [World.cell?, hX.out.blk z0.out]
    have ya5 : w1.cell? ⟨w.heap.size, 5, none⟩ = some (.slice B2 B3 B4) := by simp [World.cell?, hX.out.blk z0.out]
    have ya6 : w1.cell? ⟨w.heap.size, 6, none⟩ = some (.bool B5) := by simp [World.cell?, hX.out.blk z0.out]
    have ya7 : w1.cell? ⟨w.heap.size, 7, none⟩ = some (.slice B6 B7 B8) := by simp [World.cell?, hX.out.blk z0.out]
    have ya8 : w1.cell? ⟨w.heap.size, 8, none⟩ = some (.bool C1) := by simp [World.cell?, hX.out.blk z0.out]
    have ya9 : w1.cell? ⟨w.heap.size, 9, none⟩ = some (.slice C2 C3 C4) := by simp [World.cell?, hX.out.blk z0.out]
    have ya10 : w1.cell? ⟨w.heap.size, 10, none⟩ = some (.bool C5) := by simp [World.cell?, hX.out.blk z0.out]
    have ya11 : w1.cell? ⟨w.heap.size, 11, none⟩ = some (.slice C6 C7 C8) := by simp [World.cell?, hX.out.blk z0.out]
    have ya12 : w1.cell? ⟨w.heap.size, 12, none⟩ = some (.bool D1) := by simp [World.cell?, hX.out.blk z0.out]
    have ya13 : w1.cell? ⟨w.heap.size, 13, none⟩ = some (.slice D2 D3 D4) := by simp [World.cell?, hX.out.blk z0.out]
    have ya14 : w1.cell? ⟨w.heap.size, 14, none⟩ = some (.bool D5) := by simp [World.cell?, hX.out.blk z0.out]
    have ya15 : w1.cell? ⟨w.heap.size, 15, none⟩ = some (.slice D6 D7 D8) := by simp [World.cell?, hX.out.blk z0.out]
    have yb0 : w1.cell? ⟨w.heap.size + 1, 0, none⟩ = some (.bool E1) := by simp [World.cell?, hX.out.blk z1.out]
    have yb1 : w1.cell? ⟨w.heap.size + 1, 1, none⟩ = some (.slice E2 E3 E4) := by simp [World.cell?, hX.out.blk z1.out]
    have yb2 : w1.cell? ⟨w.heap.size + 1, 2, none⟩ = some (.bool E5) := by simp [World.cell?, hX.out.blk z1.out]
    have yb3 : w1.cell? ⟨w.heap.size + 1, 3, none⟩ = some (.slice E6 E7 E8) := by simp [World.cell?, hX.out.blk z1.out]
    have yb4 : w1.cell? ⟨w.heap.size + 1, 4, none⟩ = some (.bool G1) := by simp [World.cell?, hX.out.blk z1.out]
    have yb5 : w1.cell? ⟨w.heap.size + 1, 5, none⟩ = some (.slice G2 G3 G4) := by simp [World.cell?, hX.out.blk z1.out]
    have yb6 : w1.cell? ⟨w.heap.size + 1, 6, none⟩ = some (.bool G5) := by simp [World.cell?, hX.out.blk z1.out]
    have yb7 : w1.cell? ⟨w.heap.size + 1, 7, none⟩ = some (.slice G6 G7 G8) := by simp [World.cell?, hX.out.blk z1.out]
    have yb8 : w1.cell? ⟨w.heap.size + 1, 8, none⟩ = some (.bool H1) := by simp [World.cell?, hX.out.blk z1.out]
    have yb9 : w1.cell? ⟨w.heap.size + 1, 9, none⟩ = some (.slice H2 H3 H4) := by simp [World.cell?, hX.out.blk z1.out]
    have yb10 : w1.cell? ⟨w.heap.size + 1, 10, none⟩ = some (.bool H5) := by simp [World.cell?, hX.out.blk z1.out]
    have yb11 : w1.cell? ⟨w.heap.size + 1, 11, none⟩ = some (.slice H6 H7 H8) := by simp [World.cell?, hX.out.blk z1.out]
    have yb12 : w1.cell? ⟨w.heap.size + 1, 12, none⟩ = some (.bool I1) := by simp [World.cell?, hX.out.blk z1.out]
    have yb13 : w1.cell? ⟨w.heap.size + 1, 13, none⟩ = some (.slice I2 I3 I4) := by simp [World.cell?, hX.out.blk z1.out]
    have yb14 : w1.cell? ⟨w.heap.size + 1, 14, none⟩ = some (.bool I5) := by simp [World.cell?, hX.out.blk z1.out]
    have yb15 : w1.cell? ⟨w.heap.size + 1, 15, none⟩ = some (.slice I6 I7 I8) := by simp [World.cell?, hX.out.blk z1.out]
    clear hE1
    go_wp2_with fail
    refine (k2.out w1 hX.out).mono ?_
    rintro e w2 ⟨rfl, hE2⟩
    replace hX := mkHid (hX.out.trans hE2)
    clear ya0 ya1 ya2 ya3 ya4 ya5 ya6 ya7 ya8 ya9 ya10 ya11 ya12 ya13 ya14 ya15 yb0 yb1 yb2 yb3 yb4 yb5 yb6 yb7 yb8 yb9 yb10 yb11 yb12 yb13 yb14 yb15
    have ya0 : w2.cell? ⟨w.heap.size, 0, none⟩ = some (.bool A1) := by simp [World.cell?, hX.out.blk z0.out]
    have ya1 : w2.cell? ⟨w.heap.size, 1, none⟩ = some (.slice A2 A3 A4) := by simp [World.cell?, hX.out.blk z0.out]
    have ya2 : w2.cell? ⟨w.heap.size, 2, none⟩ = some (.bool A5) := by simp [World.cell?, hX.out.blk z0.out]
    have ya3 : w2.cell? ⟨w.heap.size, 3, none⟩ = some (.slice A6 A7 A8) := by simp [World.cell?, hX.out.blk z0.out]
    have ya4 : w2.cell? ⟨w.heap.size, 4, none⟩ = some (.bool B1) := by simp [World.cell?, hX.out.blk z0.out]
    have ya5 : w2.cell? ⟨w.heap.size, 5, none⟩ = some (.slice B2 B3 B4) := by simp [World.cell?, hX.out.blk z0.out]
    have ya6 : w2.cell? ⟨w.heap.size, 6, none⟩ = some (.bool B5) := by simp [World.cell?, hX.out.blk z0.out]
    have ya7 : w2.cell? ⟨w.heap.size, 7, none⟩ = some (.slice B6 B7 B8) := by simp [World.cell?, hX.out.blk z0.out]
    have ya8 : w2.cell? ⟨w.heap.size, 8, none⟩ = some (.bool C1) := by simp [World.cell?, hX.out.blk z0.out]
    have ya9 : w2.cell? ⟨w.heap.size, 9, none⟩ = some (.slice C2 C3 C4) := by simp [World.cell?, hX.out.blk z0.out]
    have ya10 : w2.cell? ⟨w.heap.size, 10, none⟩ = some (.bool C5) := by simp [World.cell?, hX.out.blk z0.out]
    have ya11 : w2.cell? ⟨w.heap.size, 11, none⟩ = some (.slice C6 C7 C8) := by simp [World.cell?, hX.out.blk z0.out]
    have ya12 : w2.cell? ⟨w.heap.size, 12, none⟩ = some (.bool D1) := by simp [World.cell?, hX.out.blk z0.out]
    have ya13 : w2.cell? ⟨w.heap.size, 13, none⟩ = some (.slice D2 D3 D4) := by simp [World.cell?, hX.out.blk z0.out]
    have ya14 : w2.cell? ⟨w.heap.size, 14, none⟩ = some (.bool D5) := by simp [World.cell?, hX.out.blk z0.out]
    have ya15 : w2.cell? ⟨w.heap.size, 15, none⟩ = some (.slice D6 D7 D8) := by simp [World.cell?, hX.out.blk z0.out]
    have yb0 : w2.cell? ⟨w.heap.size + 1, 0, none⟩ = some (.bool E1) := by simp [World.cell?, hX.out.blk z1.out]
    have yb1 : w2.cell? ⟨w.heap.size + 1, 1, none⟩ = some (.slice E2 E3 E4) := by simp [World.cell?, hX.out.blk z1.out]
    have yb2 : w2.cell? ⟨w.heap.size + 1, 2, none⟩ = some (.bool E5) := by simp [World.cell?, hX.out.blk z1.out]
    have yb3 : w2.cell? ⟨w.heap.size + 1, 3, none⟩ = some (.slice E6 E7 E8) := by simp [World.cell?, hX.out.blk z1.out]
    have yb4 : w2.cell? ⟨w.heap.size + 1, 4, none⟩ = some (.bool G1) := by simp [World.cell?, hX.out.blk z1.out]
    have yb5 : w2.cell? ⟨w.heap.size + 1, 5, none⟩ = some (.slice G2 G3 G4) := by simp [World.cell?, hX.out.blk z1.out]
    have yb6 : w2.cell? ⟨w.heap.size + 1, 6, none⟩ = some (.bool G5) := by simp [World.cell?, hX.out.blk z1.out]
    have yb7 : w2.cell? ⟨w.heap.size + 1, 7, none⟩ = some (.slice G6 G7 G8) := by simp [World.cell?, hX.out.blk z1.out]
    have yb8 : w2.cell? ⟨w.heap.size + 1, 8, none⟩ = some (.bool H1) := by simp [World.cell?, hX.out.blk z1.out]
    have yb9 : w2.cell? ⟨w.heap.size + 1, 9, none⟩ = some (.slice H2 H3 H4) := by simp [World.cell?, hX.out.blk z1.out]
    have yb10 : w2.cell? ⟨w.heap.size + 1, 10, none⟩ = some (.bool H5) := by simp [World.cell?, hX.out.blk z1.out]
    have yb11 : w2.cell? ⟨w.heap.size + 1, 11, none⟩ = some (.slice H6 H7 H8) := by simp [World.cell?, hX.out.blk z1.out]
    have yb12 : w2.cell? ⟨w.heap.size + 1, 12, none⟩ = some (.bool I1) := by simp [World.cell?, hX.out.blk z1.out]
    have yb13 : w2.cell? ⟨w.heap.size + 1, 13, none⟩ = some (.slice I2 I3 I4) := by simp [World.cell?, hX.out.blk z1.out]
    have yb14 : w2.cell? ⟨w.heap.size + 1, 14, none⟩ = some (.bool I5) := by simp [World.cell?, hX.out.blk z1.out]
    have yb15 : w2.cell? ⟨w.heap.size + 1, 15, none⟩ = some (.slice I6 I7 I8) := by simp [World.cell?, hX.out.blk z1.out]
    clear hE2
    go_wp2_with fail
    refine (k3.out w2 hX.out).mono ?_
    rintro e w3 ⟨rfl, hE3⟩
    replace hX := mkHid (hX.out.trans hE3)
    clear ya0 ya1 ya2 ya3 ya4 ya5 ya6 ya7 ya8 ya9 ya10 ya11 ya12 ya13 ya14 ya15 yb0 yb1 yb2 yb3 yb4 yb5 yb6 yb7 yb8 yb9 yb10 yb11 yb12 yb13 yb14 yb15
    clear hE3
    go_wp2_with fail
    go_ret
    exact ⟨rfl, hE.out.trans hX.out⟩
  rw [decide_eq_true c3] at k3
  by_cases c4 : d = d'
  case neg =>
    rw [decide_eq_false c4] at k4
    rw [decide_eq_false (fun h => c4 (hpost4 h))]
    clear hpost1 hpost2 hpost3 hpost4 hall
    replace c1 := mkHid c1
    replace c2 := mkHid c2
    replace c3 := mkHid c3
    replace c4 := mkHid c4
    go_enter Try.func20, Try.ntmps20
    go_wp2_with fail
    rw [← hwb.out]
    clear hwb
    refine (k1.out wb hX.out).mono ?_
    rintro e w1 ⟨rfl, hE1⟩
    replace hX := mkHid (hX.out.trans hE1)
    have ya0 : w1.cell? ⟨w.heap.size, 0, none⟩ = some (.bool A1) := by simp [World.cell?, hX.out.blk z0.out]
    have ya1 : w1.cell? ⟨w.heap.size, 1, none⟩ = some (.slice A2 A3 A4) := by simp [World.cell?, hX.out.blk z0.out]
    have ya2 : w1.cell? ⟨w.heap.size, 2, none⟩ = some (.bool A5) := by simp [World.cell?, hX.out.blk z0.out]
    have ya3 : w1.cell? ⟨w.heap.size, 3, none⟩ = some (.slice A6 A7 A8) := by simp [World.cell?, hX.out.blk z0.out]
    have ya4 : w1.cell? ⟨w.heap.size, 4, none⟩ = some (.bool B1) := by simp [World.cell?, hX.out.blk z0.out]
    have ya5 : w1.cell? ⟨w.heap.size, 5, none⟩ = some (.slice B2 B3 B4) := by simp [World.cell?, hX.out.blk z0.out]
    have ya6 : w1.cell? ⟨w.heap.size, 6, none⟩ = some (.bool B5) := by simp [World.cell?, hX.out.blk z0.out]
    have ya7 : w1.cell? ⟨w.heap.size, 7, none⟩ = some (.slice B6 B7 B8) := by simp [World.cell?, hX.out.blk z0.out]
    have ya8 : w1.cell? ⟨w.heap.size, 8, none⟩ = some (.bool C1) := by simp [World.cell?, hX.out.blk z0.out]
    have ya9 : w1.cell? ⟨w.heap.size, 9, none⟩ = some (.slice C2 C3 C4) := by simp [World.cell?, hX.out.blk z0.out]
    have ya10 : w1.cell? ⟨w.heap.size, 10, none⟩ = some (.bool C5) := by simp [World.cell?, hX.out.blk z0.out]
    have ya11 : w1.cell? ⟨w.heap.size, 11, none⟩ = some (.slice C6 C7 C8) := by simp [World.cell?, hX.out.blk z0.out]
    have ya12 : w1.cell? ⟨w.heap.size, 12, none⟩ = some (.bool D1) := by simp [World.cell?, hX.out.blk z0.out]
    have ya13 : w1.cell? ⟨w.heap.size, 13, none⟩ = some (.slice D2 D3 D4) := by simp [World.cell?, hX.out.blk z0.out]
    have ya14 : w1.cell? ⟨w.heap.size, 14, none⟩ = some (.bool D5) := by simp [World.cell?, hX.out.blk z0.out]
    have ya15 : w1.cell? ⟨w.heap.size, 15, none⟩ = some (.slice D6 D7 D8) := by simp [World.cell?, hX.out.blk z0.out]
    have yb0 : w1.cell? ⟨w.heap.size + 1, 0, none⟩ = some (.bool E1) := by simp [World.cell?, hX.out.blk z1.out]
    have yb1 : w1.cell? ⟨w.heap.size + 1, 1, none⟩ = some (.slice E2 E3 E4) := by simp [World.cell?, hX.out.blk z1.out]
    have yb2 : w1.cell? ⟨w.heap.size + 1, 2, none⟩ = some (.bool E5) := by simp [World.cell?, hX.out.blk z1.out]
    have yb3 : w1.cell? ⟨w.heap.size + 1, 3, none⟩ = some (.slice E6 E7 E8) := by simp [World.cell?, hX.out.blk z1.out]
    have yb4 : w1.cell? ⟨w.heap.size + 1, 4, none⟩ = some (.bool G1) := by simp [World.cell?, hX.out.blk z1.out]
    have yb5 : w1.cell? ⟨w.heap.size + 1, 5, none⟩ = some (.slice G2 G3 G4) := by simp [World.cell?, hX.out.blk z1.out]
    have yb6 : w1.cell? ⟨w.heap.size + 1, 6, none⟩ = some (.bool G5) := by simp [World.cell?, hX.out.blk z1.out]
    have yb7 : w1.cell? ⟨w.heap.size + 1, 7, none⟩ = some (.slice G6 G7 G8) := by simp [World.cell?, hX.out.blk z1.out]
    have yb8 : w1.cell? ⟨w.heap.size + 1, 8, none⟩ = some (.bool H1) := by simp [World.cell?, hX.out.blk z1.out]
    have yb9 : w1.cell? ⟨w.heap.size + 1, 9, none⟩ = some (.slice H2 H3 H4) := by simp [World.cell?, hX.out.blk z1.out]
    have yb10 : w1.cell? ⟨w.heap.size + 1, 10, none⟩ = some (.bool H5) := by simp [World.cell?, hX.out.blk z1.out]
    have yb11 : w1.cell? ⟨w.heap.size + 1, 11, none⟩ = some (.slice H6 H7 H8) := by simp [World.cell?, hX.out.blk z1.out]
    have yb12 : w1.cell? ⟨w.heap.size + 1, 12, none⟩ = some (.bool I1) := by simp [World.cell?, hX.out.blk z1.out]
    have yb13 : w1.cell? ⟨w.heap.size + 1, 13, none⟩ = some (.slice I2 I3 I4) := by simp [World.cell?, hX.out.blk z1.out]
    have yb14 : w1.cell? ⟨w.heap.size + 1, 14, none⟩ = some (.bool I5) := by simp [World.cell?, hX.out.blk z1.out]
    have yb15 : w1.cell? ⟨w.heap.size + 1, 15, none⟩ = some (.slice I6 I7 I8) := by simp [World.cell?, hX.out.blk z1.out]
    clear hE1
    go_wp2_with fail
    refine (k2.out w1 hX.out).mono ?_
    rintro e w2 ⟨rfl, hE2⟩
    replace hX := mkHid (hX.out.trans hE2)
    clear ya0 ya1 ya2 ya3 ya4 ya5 ya6 ya7 ya8 ya9 ya10 ya11 ya12 ya13 ya14 ya15 yb0 yb1 yb2 yb3 yb4 yb5 yb6 yb7 yb8 yb9 yb10 yb11 yb12 yb13 yb14 yb15
    have ya0 : w2.cell? ⟨w.heap.size, 0, none⟩ = some (.bool A1) := by simp [World.cell?, hX.out.blk z0.out]
    have ya1 : w2.cell? ⟨w.heap.size, 1, none⟩ = some (.slice A2 A3 A4) := by simp [World.cell?, hX.out.blk z0.out]
    have ya2 : w2.cell? ⟨w.heap.size, 2, none⟩ = some (.bool A5) := by simp [World.cell?, hX.out.blk z0.out]
    have ya3 : w2.cell? ⟨w.heap.size, 3, none⟩ = some (.slice A6 A7 A8) := by simp [World.cell?, hX.out.blk z0.out]
    have ya4 : w2.cell? ⟨w.heap.size, 4, none⟩ = some (.bool B1) := by simp [World.cell?, hX.out.blk z0.out]
    have ya5 : w2.cell? ⟨w.heap.size, 5, none⟩ = some (.slice B2 B3 B4) := by simp [World.cell?, hX.out.blk z0.out]
    have ya6 : w2.cell? ⟨w.heap.size, 6, none⟩ = some (.bool B5) := by simp [World.cell?, hX.out.blk z0.out]
    have ya7 : w2.cell? ⟨w.heap.size, 7, none⟩ = some (.slice B6 B7 B8) := by simp [World.cell?, hX.out.blk z0.out]
    have ya8 : w2.cell? ⟨w.heap.size, 8, none⟩ = some (.bool C1) := by simp [World.cell?, hX.out.blk z0.out]
    have ya9 : w2.cell? ⟨w.heap.size, 9, none⟩ = some (.slice C2 C3 C4) := by simp [World.cell?, hX.out.blk z0.out]
    have ya10 : w2.cell? ⟨w.heap.size, 10, none⟩ = some (.bool C5) := by simp [World.cell?, hX.out.blk z0.out]
    have ya11 : w2.cell? ⟨w.heap.size, 11, none⟩ = some (.slice C6 C7 C8) := by simp [World.cell?, hX.out.blk z0.out]
    have ya12 : w2.cell? ⟨w.heap.size, 12, none⟩ = some (.bool D1) := by simp [World.cell?, hX.out.blk z0.out]
    have ya13 : w2.cell? ⟨w.heap.size, 13, none⟩ = some (.slice D2 D3 D4) := by simp [World.cell?, hX.out.blk z0.out]
    have ya14 : w2.cell? ⟨w.heap.size, 14, none⟩ = some (.bool D5) := by simp [World.cell?, hX.out.blk z0.out]
    have ya15 : w2.cell? ⟨w.heap.size, 15, none⟩ = some (.slice D6 D7 D8) := by simp [World.cell?, hX.out.blk z0.out]
    have yb0 : w2.cell? ⟨w.heap.size + 1, 0, none⟩ = some (.bool E1) := by simp [World.cell?, hX.out.blk z1.out]
    have yb1 : w2.cell? ⟨w.heap.size + 1, 1, none⟩ = some (.slice E2 E3 E4) := by simp [World.cell?, hX.out.blk z1.out]
    have yb2 : w2.cell? ⟨w.heap.size + 1, 2, none⟩ = some (.bool E5) := by simp [World.cell?, hX.out.blk z1.out]
    have yb3 : w2.cell? ⟨w.heap.size + 1, 3, none⟩ = some (.slice E6 E7 E8) := by simp [World.cell?, hX.out.blk z1.out]
    have yb4 : w2.cell? ⟨w.heap.size + 1, 4, none⟩ = some (.bool G1) := by simp [World.cell?, hX.out.blk z1.out]
    have yb5 : w2.cell? ⟨w.heap.size + 1, 5, none⟩ = some (.slice G2 G3 G4) := by simp [World.cell?, hX.out.blk z1.out]
    have yb6 : w2.cell? ⟨w.heap.size + 1, 6, none⟩ = some (.bool G5) := by simp [World.cell?, hX.out.blk z1.out]
    have yb7 : w2.cell? ⟨w.heap.size + 1, 7, none⟩ = some (.slice G6 G7 G8) := by simp [World.cell?, hX.out.blk z1.out]
    have yb8 : w2.cell? ⟨w.heap.size + 1, 8, none⟩ = some (.bool H1) := by simp [World.cell?, hX.out.blk z1.out]
    have yb9 : w2.cell? ⟨w.heap.size + 1, 9, none⟩ = some (.slice H2 H3 H4) := by simp [World.cell?, hX.out.blk z1.out]
    have yb10 : w2.cell? ⟨w.heap.size + 1, 10, none⟩ = some (.bool H5) := by simp [World.cell?, hX.out.blk z1.out]
    have yb11 : w2.cell? ⟨w.heap.size + 1, 11, none⟩ = some (.slice H6 H7 H8) := by simp [World.cell?, hX.out.blk z1.out]
    have yb12 : w2.cell? ⟨w.heap.size + 1, 12, none⟩ = some (.bool I1) := by simp [World.cell?, hX.out.blk z1.out]
    have yb13 : w2.cell? ⟨w.heap.size + 1, 13, none⟩ = some (.slice I2 I3 I4) := by simp [World.cell?, hX.out.blk z1.out]
    have yb14 : w2.cell? ⟨w.heap.size + 1, 14, none⟩ = some (.bool I5) := by simp [World.cell?, hX.out.blk z1.out]
    have yb15 : w2.cell? ⟨w.heap.size + 1, 15, none⟩ = some (.slice I6 I7 I8) := by simp [World.cell?, hX.out.blk z1.out]
    clear hE2
    go_wp2_with fail
    refine (k3.out w2 hX.out).mono ?_
    rintro e w3 ⟨rfl, hE3⟩
    replace hX := mkHid (hX.out.trans hE3)
    clear ya0 ya1 ya2 ya3 ya4 ya5 ya6 ya7 ya8 ya9 ya10 ya11 ya12 ya13 ya14 ya15 yb0 yb1 yb2 yb3 yb4 yb5 yb6 yb7 yb8 yb9 yb10 yb11 yb12 yb13 yb14 yb15
    have ya0 : w3.cell? ⟨w.heap.size, 0, none⟩ = some (.bool A1) := by simp [World.cell?, hX.out.blk z0.out]
    have ya1 : w3.cell? ⟨w.heap.size, 1, none⟩ = some (.slice A2 A3 A4) := by simp [World.cell?, hX.out.blk z0.out]
    have ya2 : w3.cell? ⟨w.heap.size, 2, none⟩ = some (.bool A5) := by simp [World.cell?, hX.out.blk z0.out]
    have ya3 : w3.cell? ⟨w.heap.size, 3, none⟩ = some (.slice A6 A7 A8) := by simp [World.cell?, hX.out.blk z0.out]
    have ya4 : w3.cell? ⟨w.heap.size, 4, none⟩ = some (.bool B1) := by simp [World.cell?, hX.out.blk z0.out]
    have ya5 : w3.cell? ⟨w.heap.size, 5, none⟩ = some (.slice B2 B3 B4) := by simp [World.cell?, hX.out.blk z0.out]
    have ya6 : w3.cell? ⟨w.heap.size, 6, none⟩ = some (.bool B5) := by simp [World.cell?, hX.out.blk z0.out]
    have ya7 : w3.cell? ⟨w.heap.size, 7, none⟩ = some (.slice B6 B7 B8) := by simp [World.cell?, hX.out.blk z0.out]
    have ya8 : w3.cell? ⟨w.heap.size, 8, none⟩ = some (.bool C1) := by simp [World.cell?, hX.out.blk z0.out]
    have ya9 : w3.cell? ⟨w.heap.size, 9, none⟩ = some (.slice C2 C3 C4) := by simp [World.cell?, hX.out.blk z0.out]
    have ya10 : w3.cell? ⟨w.heap.size, 10, none⟩ = some (.bool C5) := by simp [World.cell?, hX.out.blk z0.out]
    have ya11 : w3.cell? ⟨w.heap.size, 11, none⟩ = some (.slice C6 C7 C8) := by simp [World.cell?, hX.out.blk z0.out]
    have ya12 : w3.cell? ⟨w.heap.size, 12, none⟩ = some (.bool D1) := by simp [World.cell?, hX.out.blk z0.out]
    have ya13 : w3.cell? ⟨w.heap.size, 13, none⟩ = some (.slice D2 D3 D4) := by simp [World.cell?, hX.out.blk z0.out]
    have ya14 : w3.cell? ⟨w.heap.size, 14, none⟩ = some (.bool D5) := by simp [World.cell?, hX.out.blk z0.out]
    have ya15 : w3.cell? ⟨w.heap.size, 15, none⟩ = some (.slice D6 D7 D8) := by simp [World.cell?, hX.out.blk z0.out]
    have yb0 : w3.cell? ⟨w.heap.size + 1, 0, none⟩ = some (.bool E1) := by simp [World.cell?, hX.out.blk z1.out]
    have yb1 : w3.cell? ⟨w.heap.size + 1, 1, none⟩ = some (.slice E2 E3 E4) := by simp [World.cell?, hX.out.blk z1.out]
    have yb2 : w3.cell? ⟨w.heap.size + 1, 2, none⟩ = some (.bool E5) := by simp [World.cell?, hX.out.blk z1.out]
    have yb3 : w3.cell? ⟨w.heap.size + 1, 3, none⟩ = some (.slice E6 E7 E8) := by simp [World.cell?, hX.out.blk z1.out]
    have yb4 : w3.cell? ⟨w.heap.size + 1, 4, none⟩ = some (.bool G1) := by simp [World.cell?, hX.out.blk z1.out]
    have yb5 : w3.cell? ⟨w.heap.size + 1, 5, none⟩ = some (.slice G2 G3 G4) := by simp [World.cell?, hX.out.blk z1.out]
    have yb6 : w3.cell? ⟨w.heap.size + 1, 6, none⟩ = some (.bool G5) := by simp [World.cell?, hX.out.blk z1.out]
    have yb7 : w3.cell? ⟨w.heap.size + 1, 7, none⟩ = some (.slice G6 G7 G8) := by simp [World.cell?, hX.out.blk z1.out]
    have yb8 : w3.cell? ⟨w.heap.size + 1, 8, none⟩ = some (.bool H1) := by simp [World.cell?, hX.out.blk z1.out]
    have yb9 : w3.cell? ⟨w.heap.size + 1, 9, none⟩ = some (.slice H2 H3 H4) := by simp [World.cell?, hX.out.blk z1.out]
    have yb10 : w3.cell? ⟨w.heap.size + 1, 10, none⟩ = some (.bool H5) := by simp [World.cell?, hX.out.blk z1.out]
    have yb11 : w3.cell? ⟨w.heap.size + 1, 11, none⟩ = some (.slice H6 H7 H8) := by simp [World.cell?, hX.out.blk z1.out]
    have yb12 : w3.cell? ⟨w.heap.size + 1, 12, none⟩ = some (.bool I1) := by simp [World.cell?, hX.out.blk z1.out]
    have yb13 : w3.cell? ⟨w.heap.size + 1, 13, none⟩ = some (.slice I2 I3 I4) := by simp [World.cell?, hX.out.blk z1.out]
    have yb14 : w3.cell? ⟨w.heap.size + 1, 14, none⟩ = some (.bool I5) := by simp [World.cell?, hX.out.blk z1.out]
    have yb15 : w3.cell? ⟨w.heap.size + 1, 15, none⟩ = some (.slice I6 I7 I8) := by simp [World.cell?, hX.out.blk z1.out]
    clear hE3
    go_wp2_with fail
    refine (k4.out w3 hX.out).mono ?_
    rintro e w4 ⟨rfl, hE4⟩
    replace hX := mkHid (hX.out.trans hE4)
    clear ya0 ya1 ya2 ya3 ya4 ya5 ya6 ya7 ya8 ya9 ya10 ya11 ya12 ya13 ya14 ya15 yb0 yb1 yb2 yb3 yb4 yb5 yb6 yb7 yb8 yb9 yb10 yb11 yb12 yb13 yb14 yb15
    clear hE4
    go_wp2_with fail
    go_ret
    exact ⟨rfl, hE.out.trans hX.out⟩
  rw [decide_eq_true c4] at k4
  rw [decide_eq_true (hall c1 c2 c3 c4)]
  clear hpost1 hpost2 hpost3 hpost4 hall
  replace c1 := mkHid c1
  replace c2 := mkHid c2
  replace c3 := mkHid c3
  replace c4 := mkHid c4
  go_enter Try.func20, Try.ntmps20
  go_wp2_with fail
  rw [← hwb.out]
  clear hwb
  refine (k1.out wb hX.out).mono ?_
  rintro e w1 ⟨rfl, hE1⟩
  replace hX := mkHid (hX.out.trans hE1)
  have ya0 : w1.cell? ⟨w.heap.size, 0, none⟩ = some (.bool A1) := by simp [World.cell?, hX.out.blk z0.out]
  have ya1 : w1.cell? ⟨w.heap.size, 1, none⟩ = some (.slice A2 A3 A4) := by simp [World.cell?, hX.out.blk z0.out]
  have ya2 : w1.cell? ⟨w.heap.size, 2, none⟩ = some (.bool A5) := by simp [World.cell?, hX.out.blk z0.out]
  have ya3 : w1.cell? ⟨w.heap.size, 3, none⟩ = some (.slice A6 A7 A8) := by simp [World.cell?, hX.out.blk z0.out]
  have ya4 : w1.cell? ⟨w.heap.size, 4, none⟩ = some (.bool B1) := by simp [World.cell?, hX.out.blk z0.out]
  have ya5 : w1.cell? ⟨w.heap.size, 5, none⟩ = some (.slice B2 B3 B4) := by simp [World.cell?, hX.out.blk z0.out]
  have ya6 : w1.cell? ⟨w.heap.size, 6, none⟩ = some (.bool B5) := by simp [World.cell?, hX.out.blk z0.out]
  have ya7 : w1.cell? ⟨w.heap.size, 7, none⟩ = some (.slice B6 B7 B8) := by simp [World.cell?, hX.out.blk z0.out]
  have ya8 : w1.cell? ⟨w.heap.size, 8, none⟩ = some (.bool C1) := by simp [World.cell?, hX.out.blk z0.out]
  have ya9 : w1.cell? ⟨w.heap.size, 9, none⟩ = some (.slice C2 C3 C4) := by simp [World.cell?, hX.out.blk z0.out]
  have ya10 : w1.cell? ⟨w.heap.size, 10, none⟩ = some (.bool C5) := by simp [World.cell?, hX.out.blk z0.out]
  have ya11 : w1.cell? ⟨w.heap.size, 11, none⟩ = some (.slice C6 C7 C8) := by simp [World.cell?, hX.out.blk z0.out]
  have ya12 : w1.cell? ⟨w.heap.size, 12, none⟩ = some (.bool D1) := by simp [World.cell?, hX.out.blk z0.out]
  have ya13 : w1.cell? ⟨w.heap.size, 13, none⟩ = some (.slice D2 D3 D4) := by simp [World.cell?, hX.out.blk z0.out]
  have ya14 : w1.cell? ⟨w.heap.size, 14, none⟩ = some (.bool D5) := by simp [World.cell?, hX.out.blk z0.out]
  have ya15 : w1.cell? ⟨w.heap.size, 15, none⟩ = some (.slice D6 D7 D8) := by simp [World.cell?, hX.out.blk z0.out]
  have yb0 : w1.cell? ⟨w.heap.size + 1, 0, none⟩ = some (.bool E1) := by simp [World.cell?, hX.out.blk z1.out]
  have yb1 : w1.cell? ⟨w.heap.size + 1, 1, none⟩ = some (.slice E2 E3 E4) := by simp [World.cell?, hX.out.blk z1.out]
  have yb2 : w1.cell? ⟨w.heap.size + 1, 2, none⟩ = some (.bool E5) := by simp [World.cell?, hX.out.blk z1.out]
  have yb3 : w1.cell? ⟨w.heap.size + 1, 3, none⟩ = some (.slice E6 E7 E8) := by simp [World.cell?, hX.out.blk z1.out]
  have yb4 : w1.cell? ⟨w.heap.size + 1, 4, none⟩ = some (.bool G1) := by simp [World.cell?, hX.out.blk z1.out]
  have yb5 : w1.cell? ⟨w.heap.size + 1, 5, none⟩ = some (.slice G2 G3 G4) := by simp [World.cell?, hX.out.blk z1.out]
  have yb6 : w1.cell? ⟨w.heap.size + 1, 6, none⟩ = some (.bool G5) := by simp [World.cell?, hX.out.blk z1.out]
  have yb7 : w1.cell? ⟨w.heap.size + 1, 7, none⟩ = some (.slice G6 G7 G8) := by simp [World.cell?, hX.out.blk z1.out]
  have yb8 : w1.cell? ⟨w.heap.size + 1, 8, none⟩ = some (.bool H1) := by simp [World.cell?, hX.out.blk z1.out]
  have yb9 : w1.cell? ⟨w.heap.size + 1, 9, none⟩ = some (.slice H2 H3 H4) := by simp [World.cell?, hX.out.blk z1.out]
  have yb10 : w1.cell? ⟨w.heap.size + 1, 10, none⟩ = some (.bool H5) := by simp [World.cell?, hX.out.blk z1.out]
  have yb11 : w1.cell? ⟨w.heap.size + 1, 11, none⟩ = some (.slice H6 H7 H8) := by simp [World.cell?, hX.out.blk z1.out]
  have yb12 : w1.cell? ⟨w.heap.size + 1, 12, none⟩ = some (.bool I1) := by simp [World.cell?, hX.out.blk z1.out]
  have yb13 : w1.cell? ⟨w.heap.size + 1, 13, none⟩ = some (.slice I2 I3 I4) := by simp [World.cell?, hX.out.blk z1.out]
  have yb14 : w1.cell? ⟨w.heap.size + 1, 14, none⟩ = some (.bool I5) := by simp [World.cell?, hX.out.blk z1.out]
  have yb15 : w1.cell? ⟨w.heap.size + 1, 15, none⟩ = some (.slice I6 I7 I8) := by simp [World.cell?, hX.out.blk z1.out]
  clear hE1
  go_wp2_with fail
  refine (k2.out w1 hX.out).mono ?_
  rintro e w2 ⟨rfl, hE2⟩
  replace hX := mkHid (hX.out.trans hE2)
  clear ya0 ya1 ya2 ya3 ya4 ya5 ya6 ya7 ya8 ya9 ya10 ya11 ya12 ya13 ya14 ya15 yb0 yb1 yb2 yb3 yb4 yb5 yb6 yb7 yb8 yb9 yb10 yb11 yb12 yb13 yb14 yb15
  have ya0 : w2.cell? ⟨w.heap.size, 0, none⟩ = some (.bool A1) := by simp [World.cell?, hX.out.blk z0.out]
  have ya1 : w2.cell? ⟨w.heap.size, 1, none⟩ = some (.slice A2 A3 A4) := by simp [World.cell?, hX.out.blk z0.out]
  have ya2 : w2.cell? ⟨w.heap.size, 2, none⟩ = some (.bool A5) := by simp [World.cell?, hX.out.blk z0.out]
  have ya3 : w2.cell? ⟨w.heap.size, 3, none⟩ = some (.slice A6 A7 A8) := by simp [World.cell?, hX.out.blk z0.out]
  have ya4 : w2.cell? ⟨w.heap.size, 4, none⟩ = some (.bool B1) := by simp [World.cell?, hX.out.blk z0.out]
  have ya5 : w2.cell? ⟨w.heap.size, 5, none⟩ = some (.slice B2 B3 B4) := by simp [World.cell?, hX.out.blk z0.out]
  have ya6 : w2.cell? ⟨w.heap.size, 6, none⟩ = some (.bool B5) := by simp [World.cell?, hX.out.blk z0.out]
  have ya7 : w2.cell? ⟨w.heap.size, 7, none⟩ = some (.slice B6 B7 B8) := by simp [World.cell?, hX.out.blk z0.out]
  have ya8 : w2.cell? ⟨w.heap.size, 8, none⟩ = some (.bool C1) := by simp [World.cell?, hX.out.blk z0.out]
  have ya9 : w2.cell? ⟨w.heap.size, 9, none⟩ = some (.slice C2 C3 C4) := by simp [World.cell?, hX.out.blk z0.out]
  have ya10 : w2.cell? ⟨w.heap.size, 10, none⟩ = some (.bool C5) := by simp [World.cell?, hX.out.blk z0.out]
  have ya11 : w2.cell? ⟨w.heap.size, 11, none⟩ = some (.slice C6 C7 C8) := by simp [World.cell?, hX.out.blk z0.out]
  have ya12 : w2.cell? ⟨w.heap.size, 12, none⟩ = some (.bool D1) := by simp [World.cell?, hX.out.blk z0.out]
  have ya13 : w2.cell? ⟨w.heap.size, 13, none⟩ = some (.slice D2 D3 D4) := by simp [World.cell?, hX.out.blk z0.out]
  have ya14 : w2.cell? ⟨w.heap.size, 14, none⟩ = some (.bool D5) := by simp [World.cell?, hX.out.blk z0.out]
  have ya15 : w2.cell? ⟨w.heap.size, 15, none⟩ = some (.slice D6 D7 D8) := by simp [World.cell?, hX.out.blk z0.out]
  have yb0 : w2.cell? ⟨w.heap.size + 1, 0, none⟩ = some (.bool E1) := by simp [World.cell?, hX.out.blk z1.out]
  have yb1 : w2.cell? ⟨w.heap.size + 1, 1, none⟩ = some (.slice E2 E3 E4) := by simp [World.cell?, hX.out.blk z1.out]
  have yb2 : w2.cell? ⟨w.heap.size + 1, 2, none⟩ = some (.bool E5) := by simp [World.cell?, hX.out.blk z1.out]
  have yb3 : w2.cell? ⟨w.heap.size + 1, 3, none⟩ = some (.slice E6 E7 E8) := by simp [World.cell?, hX.out.blk z1.out]
  have yb4 : w2.cell? ⟨w.heap.size + 1, 4, none⟩ = some (.bool G1) := by simp [World.cell?, hX.out.blk z1.out]
  have yb5 : w2.cell? ⟨w.heap.size + 1, 5, none⟩ = some (.slice G2 G3 G4) := by simp [World.cell?, hX.out.blk z1.out]
  have yb6 : w2.cell? ⟨w.heap.size + 1, 6, none⟩ = some (.bool G5) := by simp [World.cell?, hX.out.blk z1.out]
  have yb7 : w2.cell? ⟨w.heap.size + 1, 7, none⟩ = some (.slice G6 G7 G8) := by simp [World.cell?, hX.out.blk z1.out]
  have yb8 : w2.cell? ⟨w.heap.size + 1, 8, none⟩ = some (.bool H1) := by simp [World.cell?, hX.out.blk z1.out]
  have yb9 : w2.cell? ⟨w.heap.size + 1, 9, none⟩ = some (.slice H2 H3 H4) := by simp [World.cell?, hX.out.blk z1.out]
  have yb10 : w2.cell? ⟨w.heap.size + 1, 10, none⟩ = some (.bool H5) := by simp [World.cell?, hX.out.blk z1.out]
  have yb11 : w2.cell? ⟨w.heap.size + 1, 11, none⟩ = some (.slice H6 H7 H8) := by simp [World.cell?, hX.out.blk z1.out]
  have yb12 : w2.cell? ⟨w.heap.size + 1, 12, none⟩ = some (.bool I1) := by simp [World.cell?, hX.out.blk z1.out]
  have yb13 : w2.cell? ⟨w.heap.size + 1, 13, none⟩ = some (.slice I2 I3 I4) := by simp [World.cell?, hX.out.blk z1.out]
  have yb14 : w2.cell? ⟨w.heap.size + 1, 14, none⟩ = some (.bool I5) := by simp [World.cell?, hX.out.blk z1.out]
  have yb15 : w2.cell? ⟨w.heap.size + 1, 15, none⟩ = some (.slice I6 I7 I8) := by simp [World.cell?, hX.out.blk z1.out]
  clear hE2
  go_wp2_with fail
  refine (k3.out w2 hX.out).mono ?_
  rintro e w3 ⟨rfl, hE3⟩
  replace hX := mkHid (hX.out.trans hE3)
  clear ya0 ya1 ya2 ya3 ya4 ya5 ya6 ya7 ya8 ya9 ya10 ya11 ya12 ya13 ya14 ya15 yb0 yb1 yb2 yb3 yb4 yb5 yb6 yb7 yb8 yb9 yb10 yb11 yb12 yb13 yb14 yb15
  have ya0 : w3.cell? ⟨w.heap.size, 0, none⟩ = some (.bool A1) := by simp [World.cell?, hX.out.blk z0.out]
  have ya1 : w3.cell? ⟨w.heap.size, 1, none⟩ = some (.slice A2 A3 A4) := by simp [World.cell?, hX.out.blk z0.out]
  have ya2 : w3.cell? ⟨w.heap.size, 2, none⟩ = some (.bool A5) := by simp [World.cell?, hX.out.blk z0.out]
  have ya3 : w3.cell? ⟨w.heap.size, 3, none⟩ = some (.slice A6 A7 A8) := by simp [World.cell?, hX.out.blk z0.out]
  have ya4 : w3.cell? ⟨w.heap.size, 4, none⟩ = some (.bool B1) := by simp [World.cell?, hX.out.blk z0.out]
  have ya5 : w3.cell? ⟨w.heap.size, 5, none⟩ = some (.slice B2 B3 B4) := by simp [World.cell?, hX.out.blk z0.out]
  have ya6 : w3.cell? ⟨w.heap.size, 6, none⟩ = some (.bool B5) := by simp [World.cell?, hX.out.blk z0.out]
  have ya7 : w3.cell? ⟨w.heap.size, 7, none⟩ = some (.slice B6 B7 B8) := by simp [World.cell?, hX.out.blk z0.out]
  have ya8 : w3.cell? ⟨w.heap.size, 8, none⟩ = some (.bool C1) := by simp [World.cell?, hX.out.blk z0.out]
  have ya9 : w3.cell? ⟨w.heap.size, 9, none⟩ = some (.slice C2 C3 C4) := by simp [World.cell?, hX.out.blk z0.out]
  have ya10 : w3.cell? ⟨w.heap.size, 10, none⟩ = some (.bool C5) := by simp [World.cell?, hX.out.blk z0.out]
  have ya11 : w3.cell? ⟨w.heap.size, 11, none⟩ = some (.slice C6 C7 C8) := by simp [World.cell?, hX.out.blk z0.out]
  have ya12 : w3.cell? ⟨w.heap.size, 12, none⟩ = some (.bool D1) := by simp [World.cell?, hX.out.blk z0.out]
  have ya13 : w3.cell? ⟨w.heap.size, 13, none⟩ = some (.slice D2 D3 D4) := by simp [World.cell?, hX.out.blk z0.out]
  have ya14 : w3.cell? ⟨w.heap.size, 14, none⟩ = some (.bool D5) := by simp [World.cell?, hX.out.blk z0.out]
  have ya15 : w3.cell? ⟨w.heap.size, 15, none⟩ = some (.slice D6 D7 D8) := by simp [World.cell?, hX.out.blk z0.out]
  have yb0 : w3.cell? ⟨w.heap.size + 1, 0, none⟩ = some (.bool E1) := by simp [World.cell?, hX.out.blk z1.out]
  have yb1 : w3.cell? ⟨w.heap.size + 1, 1, none⟩ = some (.slice E2 E3 E4) := by simp [World.cell?, hX.out.blk z1.out]
  have yb2 : w3.cell? ⟨w.heap.size + 1, 2, none⟩ = some (.bool E5) := by simp [World.cell?, hX.out.blk z1.out]
  have yb3 : w3.cell? ⟨w.heap.size + 1, 3, none⟩ = some (.slice E6 E7 E8) := by simp [World.cell?, hX.out.blk z1.out]
  have yb4 : w3.cell? ⟨w.heap.size + 1, 4, none⟩ = some (.bool G1) := by simp [World.cell?, hX.out.blk z1.out]
  have yb5 : w3.cell? ⟨w.heap.size + 1, 5, none⟩ = some (.slice G2 G3 G4) := by simp [World.cell?, hX.out.blk z1.out]
  have yb6 : w3.cell? ⟨w.heap.size + 1, 6, none⟩ = some (.bool G5) := by simp [World.cell?, hX.out.blk z1.out]
  have yb7 : w3.cell? ⟨w.heap.size + 1, 7, none⟩ = some (.slice G6 G7 G8) := by simp [World.cell?, hX.out.blk z1.out]
  have yb8 : w3.cell? ⟨w.heap.size + 1, 8, none⟩ = some (.bool H1) := by simp [World.cell?, hX.out.blk z1.out]
  have yb9 : w3.cell? ⟨w.heap.size + 1, 9, none⟩ = some (.slice H2 H3 H4) := by simp [World.cell?, hX.out.blk z1.out]
  have yb10 : w3.cell? ⟨w.heap.size + 1, 10, none⟩ = some (.bool H5) := by simp [World.cell?, hX.out.blk z1.out]
  have yb11 : w3.cell? ⟨w.heap.size + 1, 11, none⟩ = some (.slice H6 H7 H8) := by simp [World.cell?, hX.out.blk z1.out]
  have yb12 : w3.cell? ⟨w.heap.size + 1, 12, none⟩ = some (.bool I1) := by simp [World.cell?, hX.out.blk z1.out]
  have yb13 : w3.cell? ⟨w.heap.size + 1, 13, none⟩ = some (.slice I2 I3 I4) := by simp [World.cell?, hX.out.blk z1.out]
  have yb14 : w3.cell? ⟨w.heap.size + 1, 14, none⟩ = some (.bool I5) := by simp [World.cell?, hX.out.blk z1.out]
  have yb15 : w3.cell? ⟨w.heap.size + 1, 15, none⟩ = some (.slice I6 I7 I8) := by simp [World.cell?, hX.out.blk z1.out]
  clear hE3
  go_wp2_with fail
  refine (k4.out w3 hX.out).mono ?_
  rintro e w4 ⟨rfl, hE4⟩
  replace hX := mkHid (hX.out.trans hE4)
  clear ya0 ya1 ya2 ya3 ya4 ya5 ya6 ya7 ya8 ya9 ya10 ya11 ya12 ya13 ya14 ya15 yb0 yb1 yb2 yb3 yb4 yb5 yb6 yb7 yb8 yb9 yb10 yb11 yb12 yb13 yb14 yb15
  clear hE4
  go_wp2_with fail
  go_ret
  exact ⟨rfl, hE.out.trans hX.out⟩
end Go.Proofs.Ytpmfohhpaoagfaa
namespace Go.Proofs.Ytpmfohhpaoagfaa
open Go Go.RowKit Go.Proofs
set_option maxHeartbeats 1600000 in
theorem intSize_c (b : Bool) (a : Option Addr) (n c : Nat) (w : World) (hn : n ≤ 140737488355328) :
    Calls Try.prog 61 #[.agg #[.bool b, .slice a n c]] w fun e w' => e = .returned (.int .i64 (1 + n)) ∧ Ext w w' := by
  have FE := mkHid ((Ext.refl w).al (.cells #[.bool b, .slice a n c] 24))
  go_enter Try.func61, Try.ntmps61
  go_wp2_with fail
  go_ret
  exact ⟨by trivial, FE.out⟩
def lowV (n m : Nat) : Int := Int.tdiv ((min (n : Int) 1048576) * (min (m : Int) 1048576)) 16 * 1024
theorem lowV_b (n m : Nat) : 0 ≤ lowV n m ∧ lowV n m ≤ 70368744177664 := by
  unfold lowV
  obtain ⟨x, hx⟩ : ∃ x : Int, x = min (n : Int) 1048576 := ⟨_, rfl⟩
  obtain ⟨y, hy⟩ : ∃ y : Int, y = min (m : Int) 1048576 := ⟨_, rfl⟩
  rw [← hx, ← hy]
  have h1 : 0 ≤ x ∧ x ≤ 1048576 := by omega
  have h2 : 0 ≤ y ∧ y ≤ 1048576 := by omega
  have h3 : 0 ≤ x * y := Int.mul_nonneg h1.1 h2.1
  have h4 : x * y ≤ 1048576 * 1048576 := Int.mul_le_mul h1.2 h2.2 h2.1 (by omega)
  rw [Int.tdiv_eq_ediv_of_nonneg h3]
  omega
theorem low_wrap (n m : Nat) : RowKit.wrap64 (RowKit.wrap64 ((RowKit.wrap64 (min (n : Int) 1048576 * min (m : Int) 1048576)).tdiv 16) * 1024) = lowV n m := by
  have hb := lowV_b n m
  unfold lowV at *
  have h1 : 0 ≤ min (n : Int) 1048576 ∧ min (n : Int) 1048576 ≤ 1048576 := by omega
  have h2 : 0 ≤ min (m : Int) 1048576 ∧ min (m : Int) 1048576 ≤ 1048576 := by omega
  generalize min (n : Int) 1048576 = x at *
  generalize min (m : Int) 1048576 = y at *
  have h3 : 0 ≤ x * y := Int.mul_nonneg h1.1 h2.1
  have h4 : x * y ≤ 1048576 * 1048576 := Int.mul_le_mul h1.2 h2.2 h2.1 (by omega)
  have e : (x * y).tdiv 16 = x * y / 16 := Int.tdiv_eq_ediv_of_nonneg h3
  rw [e] at hb ⊢
  rw [IntWalk.wrap64_in (x * y) (by omega), e, IntWalk.wrap64_in (x * y / 16) (by omega), IntWalk.wrap64_in _ (by omega)]
set_option maxHeartbeats 1600000 in
theorem lowest_c (b b' : Bool) (a a' : Option Addr) (n c n' c' : Nat) (w : World) (_hn : n ≤ 140737488355328) (_hn' : n' ≤ 140737488355328) :
    Calls Try.prog 28 #[.agg #[.bool b, .slice a n c], .agg #[.bool b', .slice a' n' c']] w fun e w' => e = .returned (.int .i64 (lowV n n')) ∧ Ext w w' := by
  have FE := mkHid (((Ext.refl w).al (.cells #[.bool b, .slice a n c] 24)).al (.cells #[.bool b', .slice a' n' c'] 24))
  go_enter Try.func28, Try.ntmps28
  go_wp2_with fail
  go_ret
  exact ⟨ret1_eq (low_wrap n n'), FE.out⟩
set_option maxHeartbeats 1600000 in
theorem fracSize_c (b b' : Bool) (a a' : Option Addr) (n c n' c' : Nat) (w : World) (hn : n ≤ 140737488355328) (hn' : n' ≤ 140737488355328) :
    Calls Try.prog 27 #[.agg #[.bool b, .slice a n c, .bool b', .slice a' n' c']] w fun e w' => e = .returned (.int .i64 (1 + n + (1 + n'))) ∧ Ext w w' := by
  have k1 := mkHid (fun w => intSize_c b a n c w hn)
  have k2 := mkHid (fun w => intSize_c b' a' n' c' w hn')
  go_enter Try.func27, Try.ntmps27
  go_wp2_with fail
  obtain ⟨wb, hwb⟩ : ∃ wb, wb = w.alloc (.cells #[.bool b, .slice a n c, .bool b', .slice a' n' c'] 26) := ⟨_, rfl⟩
  have hE : Ext w wb := by rw [hwb]; exact (Ext.refl w).al _
  have c0 : ∀ W, Ext wb W → W.cell? ⟨w.heap.size, 0, none⟩ = some (.bool b) := fun W e => e.cell (by rw [hwb]; go_simp)
  have c1 : ∀ W, Ext wb W → W.cell? ⟨w.heap.size, 1, none⟩ = some (.slice a n c) := fun W e => e.cell (by rw [hwb]; go_simp)
  have c2 : ∀ W, Ext wb W → W.cell? ⟨w.heap.size, 2, none⟩ = some (.bool b') := fun W e => e.cell (by rw [hwb]; go_simp)
  have c3 : ∀ W, Ext wb W → W.cell? ⟨w.heap.size, 3, none⟩ = some (.slice a' n' c') := fun W e => e.cell (by rw [hwb]; go_simp)
  rw [← hwb]
  replace hE := mkHid hE
  clear hwb
  apply region_ext [.val _, .val _, .val (.int .i64 (1 + n)), .val _, .val _, .val (.int .i64 (1 + n')), .val (.int .i64 (1 + n + (1 + n')))] (by kernel_rfl) (stable_vals _ (stable_vals _ (stable_vals _ (stable_vals _ (stable_vals _ (stable_vals _ (stable_vals _ trivial)))))))
  iterate 2 (refine ⟨fun W hW _ => by go_simp; exact ⟨Ext.refl _, rfl⟩, ?_⟩)
  refine ⟨fun W hW _ => ?g2, ?_⟩
  case g2 =>
    go_simp
    refine (k1.out W).mono ?_
    rintro e w' ⟨rfl, h1⟩
    exact ⟨rfl, h1⟩
  iterate 2 (refine ⟨fun W hW _ => by go_simp; exact ⟨Ext.refl _, rfl⟩, ?_⟩)
  refine ⟨fun W hW _ => ?g5, ⟨fun W hW _ => by go_simp; exact ⟨Ext.refl _, by rw [IntKind.wrap_i64]; omega⟩, ?_⟩⟩
  case g5 =>
    go_simp
    refine (k2.out W).mono ?_
    rintro e w' ⟨rfl, h1⟩
    exact ⟨rfl, h1⟩
  intro W hW _
  clear c0 c1 c2 c3
  replace hE := mkHid (hE.out.trans hW)
  clear hW
  go_simp
  go_wp2_with fail
  go_ret
  exact ⟨by trivial, hE.out⟩
/-- What a fraction of these lengths costs. -/
def costV (n n' : Nat) : Int := 1 + n + (1 + n') + lowV n n'
set_option maxHeartbeats 1600000 in
theorem fracCost_c (b b' : Bool) (a a' : Option Addr) (n c n' c' : Nat) (w : World) (hn : n ≤ 140737488355328) (hn' : n' ≤ 140737488355328) :
    Calls Try.prog 8 #[.agg #[.bool b, .slice a n c, .bool b', .slice a' n' c']] w fun e w' => e = .returned (.int .i64 (costV n n')) ∧ Ext w w' := by
  have k1 := mkHid (fun w => fracSize_c b b' a a' n c n' c' w hn hn')
  have k2 := mkHid (fun w => lowest_c b b' a a' n c n' c' w hn hn')
  obtain ⟨S, hS⟩ : ∃ S : Int, S = 1 + n + (1 + n') := ⟨_, rfl⟩
  have hb := lowV_b n n'
  unfold costV
  rw [← hS] at k1
  rw [← hS]
  generalize lowV n n' = L at *
  have hS0 : 0 ≤ S ∧ S ≤ 562949953421312 := by omega
  clear hS hn hn'
  obtain ⟨hb1, hb2⟩ := hb
  obtain ⟨hS1, hS2⟩ := hS0
  go_enter Try.func8, Try.ntmps8
  go_wp2_with fail
  obtain ⟨wb, hwb⟩ : ∃ wb, wb = w.alloc (.cells #[.bool b, .slice a n c, .bool b', .slice a' n' c'] 26) := ⟨_, rfl⟩
  have hE : Ext w wb := by rw [hwb]; exact (Ext.refl w).al _
  have c0 : ∀ W, Ext wb W → W.cell? ⟨w.heap.size, 0, none⟩ = some (.bool b) := fun W e => e.cell (by rw [hwb]; go_simp)
  have c1 : ∀ W, Ext wb W → W.cell? ⟨w.heap.size, 1, none⟩ = some (.slice a n c) := fun W e => e.cell (by rw [hwb]; go_simp)
  have c2 : ∀ W, Ext wb W → W.cell? ⟨w.heap.size, 2, none⟩ = some (.bool b') := fun W e => e.cell (by rw [hwb]; go_simp)
  have c3 : ∀ W, Ext wb W → W.cell? ⟨w.heap.size, 3, none⟩ = some (.slice a' n' c') := fun W e => e.cell (by rw [hwb]; go_simp)
  rw [← hwb]
  replace hE := mkHid hE
  clear hwb
  apply region_ext [.val _, .val (.int .i64 S), .val _, .val _, .val _, .val _, .val (.int .i64 L), .val (.int .i64 (S + L))] (by kernel_rfl) (stable_vals _ (stable_vals _ (stable_vals _ (stable_vals _ (stable_vals _ (stable_vals _ (stable_vals _ (stable_vals _ trivial))))))))
  refine ⟨fun W hW _ => by go_simp; exact ⟨Ext.refl _, rfl⟩, ⟨fun W hW _ => ?g1, ?_⟩⟩
  case g1 =>
    go_simp
    refine (k1.out W).mono ?_
    rintro e w' ⟨rfl, h1⟩
    exact ⟨rfl, h1⟩
  iterate 4 (refine ⟨fun W hW _ => by go_simp; exact ⟨Ext.refl _, rfl⟩, ?_⟩)
  refine ⟨fun W hW _ => ?g5, ⟨fun W hW _ => by go_simp; exact ⟨Ext.refl _, by rw [IntKind.wrap_i64]; omega⟩, ?_⟩⟩
  case g5 =>
    go_simp
    refine (k2.out W).mono ?_
    rintro e w' ⟨rfl, h1⟩
    exact ⟨rfl, h1⟩
  intro W hW _
  clear c0 c1 c2 c3
  replace hE := mkHid (hE.out.trans hW)
  clear hW
  go_simp
  go_wp2_with fail
  go_ret
  exact ⟨by trivial, hE.out⟩
end Go.Proofs.Ytpmfohhpaoagfaa
namespace Go.Proofs.Ytpmfohhpaoagfaa
open Go Go.RowKit Go.Proofs
theorem costV_b (n m : Nat) (hn : n ≤ 140737488355328) (hm : m ≤ 140737488355328) : 0 ≤ costV n m ∧ costV n m ≤ 562949953421312 ∧ (n : Int) ≤ costV n m ∧ (m : Int) ≤ costV n m := by
  have := lowV_b n m
  unfold costV
  omega

set_option maxHeartbeats 1600000 in
theorem matrixCost_c (Ab : Bool) (Aa : Option Addr) (nA Ac : Nat) (Ae : Bool) (Ad : Option Addr) (mA Af : Nat) (Bb : Bool) (Ba : Option Addr) (nB Bc : Nat) (Be : Bool) (Bd : Option Addr) (mB Bf : Nat) (Cb : Bool) (Ca : Option Addr) (nC Cc : Nat) (Ce : Bool) (Cd : Option Addr) (mC Cf : Nat) (Db : Bool) (Da : Option Addr) (nD Dc : Nat) (De : Bool) (Dd : Option Addr) (mD Df : Nat) (w : World) (hnA : nA ≤ 140737488355328) (hmA : mA ≤ 140737488355328) (hnB : nB ≤ 140737488355328) (hmB : mB ≤ 140737488355328) (hnC : nC ≤ 140737488355328) (hmC : mC ≤ 140737488355328) (hnD : nD ≤ 140737488355328) (hmD : mD ≤ 140737488355328) :
    Calls Try.prog 21 #[.agg #[.bool Ab, .slice Aa nA Ac, .bool Ae, .slice Ad mA Af, .bool Bb, .slice Ba nB Bc, .bool Be, .slice Bd mB Bf, .bool Cb, .slice Ca nC Cc, .bool Ce, .slice Cd mC Cf, .bool Db, .slice Da nD Dc, .bool De, .slice Dd mD Df]] w fun e w' => e = .returned (.int .i64 (costV nA mA + costV nB mB + costV nC mC + costV nD mD)) ∧ Ext w w' := by
  have kA := mkHid (fun w => fracCost_c Ab Ae Aa Ad nA Ac mA Af w hnA hmA)
  obtain ⟨pA, qA, -⟩ := costV_b nA mA hnA hmA
  have kB := mkHid (fun w => fracCost_c Bb Be Ba Bd nB Bc mB Bf w hnB hmB)
  obtain ⟨pB, qB, -⟩ := costV_b nB mB hnB hmB
  have kC := mkHid (fun w => fracCost_c Cb Ce Ca Cd nC Cc mC Cf w hnC hmC)
  obtain ⟨pC, qC, -⟩ := costV_b nC mC hnC hmC
  have kD := mkHid (fun w => fracCost_c Db De Da Dd nD Dc mD Df w hnD hmD)
  obtain ⟨pD, qD, -⟩ := costV_b nD mD hnD hmD
  generalize costV nA mA = CA at *
  generalize costV nB mB = CB at *
  generalize costV nC mC = CC at *
  generalize costV nD mD = CD at *
  clear hnA hmA hnB hmB hnC hmC hnD hmD
  go_enter Try.func21, Try.ntmps21
  go_wp2_with fail
  obtain ⟨wb, hwb⟩ : ∃ wb, wb = w.alloc (.cells #[.bool Ab, .slice Aa nA Ac, .bool Ae, .slice Ad mA Af, .bool Bb, .slice Ba nB Bc, .bool Be, .slice Bd mB Bf, .bool Cb, .slice Ca nC Cc, .bool Ce, .slice Cd mC Cf, .bool Db, .slice Da nD Dc, .bool De, .slice Dd mD Df] 40) := ⟨_, rfl⟩
  have hE : Ext w wb := by rw [hwb]; exact (Ext.refl w).al _
  have c0 : ∀ W, Ext wb W → W.cell? ⟨w.heap.size, 0, none⟩ = some (.bool Ab) := fun W e => e.cell (by rw [hwb]; go_simp)
  have c1 : ∀ W, Ext wb W → W.cell? ⟨w.heap.size, 1, none⟩ = some (.slice Aa nA Ac) := fun W e => e.cell (by rw [hwb]; go_simp)
  have c2 : ∀ W, Ext wb W → W.cell? ⟨w.heap.size, 2, none⟩ = some (.bool Ae) := fun W e => e.cell (by rw [hwb]; go_simp)
  have c3 : ∀ W, Ext wb W → W.cell? ⟨w.heap.size, 3, none⟩ = some (.slice Ad mA Af) := fun W e => e.cell (by rw [hwb]; go_simp)
  have c4 : ∀ W, Ext wb W → W.cell? ⟨w.heap.size, 4, none⟩ = some (.bool Bb) := fun W e => e.cell (by rw [hwb]; go_simp)
  have c5 : ∀ W, Ext wb W → W.cell? ⟨w.heap.size, 5, none⟩ = some (.slice Ba nB Bc) := fun W e => e.cell (by rw [hwb]; go_simp)
  have c6 : ∀ W, Ext wb W → W.cell? ⟨w.heap.size, 6, none⟩ = some (.bool Be) := fun W e => e.cell (by rw [hwb]; go_simp)
  have c7 : ∀ W, Ext wb W → W.cell? ⟨w.heap.size, 7, none⟩ = some (.slice Bd mB Bf) := fun W e => e.cell (by rw [hwb]; go_simp)
  have c8 : ∀ W, Ext wb W → W.cell? ⟨w.heap.size, 8, none⟩ = some (.bool Cb) := fun W e => e.cell (by rw [hwb]; go_simp)
  have c9 : ∀ W, Ext wb W → W.cell? ⟨w.heap.size, 9, none⟩ = some (.slice Ca nC Cc) := fun W e => e.cell (by rw [hwb]; go_simp)
  have c10 : ∀ W, Ext wb W → W.cell? ⟨w.heap.size, 10, none⟩ = some (.bool Ce) := fun W e => e.cell (by rw [hwb]; go_simp)
  have c11 : ∀ W, Ext wb W → W.cell? ⟨w.heap.size, 11, none⟩ = some (.slice Cd mC Cf) := fun W e => e.cell (by rw [hwb]; go_simp)
  have c12 : ∀ W, Ext wb W → W.cell? ⟨w.heap.size, 12, none⟩ = some (.bool Db) := fun W e => e.cell (by rw [hwb]; go_simp)
  have c13 : ∀ W, Ext wb W → W.cell? ⟨w.heap.size, 13, none⟩ = some (.slice Da nD Dc) := fun W e => e.cell (by rw [hwb]; go_simp)
  have c14 : ∀ W, Ext wb W → W.cell? ⟨w.heap.size, 14, none⟩ = some (.bool De) := fun W e => e.cell (by rw [hwb]; go_simp)
  have c15 : ∀ W, Ext wb W → W.cell? ⟨w.heap.size, 15, none⟩ = some (.slice Dd mD Df) := fun W e => e.cell (by rw [hwb]; go_simp)
  rw [← hwb]
  replace hE := mkHid hE
  clear hwb
  apply region_ext [.val _, .val _, .val (.int .i64 CA), .val _, .val _, .val (.int .i64 CB), .val (.int .i64 (CA + CB)), .val _, .val _, .val (.int .i64 CC), .val (.int .i64 (CA + CB + CC)), .val _, .val _, .val (.int .i64 CD), .val (.int .i64 (CA + CB + CC + CD))] (by kernel_rfl) (stable_vals _ (stable_vals _ (stable_vals _ (stable_vals _ (stable_vals _ (stable_vals _ (stable_vals _ (stable_vals _ (stable_vals _ (stable_vals _ (stable_vals _ (stable_vals _ (stable_vals _ (stable_vals _ (stable_vals _ trivial)))))))))))))))
  refine ⟨fun W hW _ => by go_simp; exact ⟨Ext.refl _, rfl⟩, ?_⟩
  refine ⟨fun W hW _ => by go_simp; exact ⟨Ext.refl _, rfl⟩, ?_⟩
  refine ⟨fun W hW _ => ?g2, ?_⟩
  case g2 =>
    go_simp
    refine (kA.out W).mono ?_
    rintro e w' ⟨rfl, h1⟩
    exact ⟨rfl, h1⟩
  refine ⟨fun W hW _ => by go_simp; exact ⟨Ext.refl _, rfl⟩, ?_⟩
  refine ⟨fun W hW _ => by go_simp; exact ⟨Ext.refl _, rfl⟩, ?_⟩
  refine ⟨fun W hW _ => ?g5, ?_⟩
  case g5 =>
    go_simp
    refine (kB.out W).mono ?_
    rintro e w' ⟨rfl, h1⟩
    exact ⟨rfl, h1⟩
  refine ⟨fun W hW _ => by go_simp; exact ⟨Ext.refl _, by rw [IntKind.wrap_i64]; omega⟩, ?_⟩
  refine ⟨fun W hW _ => by go_simp; exact ⟨Ext.refl _, rfl⟩, ?_⟩
  refine ⟨fun W hW _ => by go_simp; exact ⟨Ext.refl _, rfl⟩, ?_⟩
  refine ⟨fun W hW _ => ?g9, ?_⟩
  case g9 =>
    go_simp
    refine (kC.out W).mono ?_
    rintro e w' ⟨rfl, h1⟩
    exact ⟨rfl, h1⟩
  refine ⟨fun W hW _ => by go_simp; exact ⟨Ext.refl _, by rw [IntKind.wrap_i64]; omega⟩, ?_⟩
  refine ⟨fun W hW _ => by go_simp; exact ⟨Ext.refl _, rfl⟩, ?_⟩
  refine ⟨fun W hW _ => by go_simp; exact ⟨Ext.refl _, rfl⟩, ?_⟩
  refine ⟨fun W hW _ => ?g13, ?_⟩
  case g13 =>
    go_simp
    refine (kD.out W).mono ?_
    rintro e w' ⟨rfl, h1⟩
    exact ⟨rfl, h1⟩
  refine ⟨fun W hW _ => by go_simp; exact ⟨Ext.refl _, by rw [IntKind.wrap_i64]; omega⟩, ?_⟩
  intro W hW _
  clear c0 c1 c2 c3 c4 c5 c6 c7 c8 c9 c10 c11 c12 c13 c14 c15
  replace hE := mkHid (hE.out.trans hW)
  clear hW
  go_simp
  go_wp2_with fail
  go_ret
  exact ⟨by trivial, hE.out⟩
set_option maxHeartbeats 1600000 in
theorem rayCost_c (Ab : Bool) (Aa : Option Addr) (nA Ac : Nat) (Ae : Bool) (Ad : Option Addr) (mA Af : Nat) (Bb : Bool) (Ba : Option Addr) (nB Bc : Nat) (Be : Bool) (Bd : Option Addr) (mB Bf : Nat) (w : World) (hnA : nA ≤ 140737488355328) (hmA : mA ≤ 140737488355328) (hnB : nB ≤ 140737488355328) (hmB : mB ≤ 140737488355328) :
    Calls Try.prog 22 #[.agg #[.bool Ab, .slice Aa nA Ac, .bool Ae, .slice Ad mA Af, .bool Bb, .slice Ba nB Bc, .bool Be, .slice Bd mB Bf]] w fun e w' => e = .returned (.int .i64 (costV nA mA + costV nB mB)) ∧ Ext w w' := by
  have kA := mkHid (fun w => fracCost_c Ab Ae Aa Ad nA Ac mA Af w hnA hmA)
  obtain ⟨pA, qA, -⟩ := costV_b nA mA hnA hmA
  have kB := mkHid (fun w => fracCost_c Bb Be Ba Bd nB Bc mB Bf w hnB hmB)
  obtain ⟨pB, qB, -⟩ := costV_b nB mB hnB hmB
  generalize costV nA mA = CA at *
  generalize costV nB mB = CB at *
  clear hnA hmA hnB hmB
  go_enter Try.func22, Try.ntmps22
  go_wp2_with fail
  obtain ⟨wb, hwb⟩ : ∃ wb, wb = w.alloc (.cells #[.bool Ab, .slice Aa nA Ac, .bool Ae, .slice Ad mA Af, .bool Bb, .slice Ba nB Bc, .bool Be, .slice Bd mB Bf] 48) := ⟨_, rfl⟩
  have hE : Ext w wb := by rw [hwb]; exact (Ext.refl w).al _
  have c0 : ∀ W, Ext wb W → W.cell? ⟨w.heap.size, 0, none⟩ = some (.bool Ab) := fun W e => e.cell (by rw [hwb]; go_simp)
  have c1 : ∀ W, Ext wb W → W.cell? ⟨w.heap.size, 1, none⟩ = some (.slice Aa nA Ac) := fun W e => e.cell (by rw [hwb]; go_simp)
  have c2 : ∀ W, Ext wb W → W.cell? ⟨w.heap.size, 2, none⟩ = some (.bool Ae) := fun W e => e.cell (by rw [hwb]; go_simp)
  have c3 : ∀ W, Ext wb W → W.cell? ⟨w.heap.size, 3, none⟩ = some (.slice Ad mA Af) := fun W e => e.cell (by rw [hwb]; go_simp)
  have c4 : ∀ W, Ext wb W → W.cell? ⟨w.heap.size, 4, none⟩ = some (.bool Bb) := fun W e => e.cell (by rw [hwb]; go_simp)
  have c5 : ∀ W, Ext wb W → W.cell? ⟨w.heap.size, 5, none⟩ = some (.slice Ba nB Bc) := fun W e => e.cell (by rw [hwb]; go_simp)
  have c6 : ∀ W, Ext wb W → W.cell? ⟨w.heap.size, 6, none⟩ = some (.bool Be) := fun W e => e.cell (by rw [hwb]; go_simp)
  have c7 : ∀ W, Ext wb W → W.cell? ⟨w.heap.size, 7, none⟩ = some (.slice Bd mB Bf) := fun W e => e.cell (by rw [hwb]; go_simp)
  rw [← hwb]
  replace hE := mkHid hE
  clear hwb
  apply region_ext [.val _, .val _, .val (.int .i64 CA), .val _, .val _, .val (.int .i64 CB), .val (.int .i64 (CA + CB))] (by kernel_rfl) (stable_vals _ (stable_vals _ (stable_vals _ (stable_vals _ (stable_vals _ (stable_vals _ (stable_vals _ trivial)))))))
  refine ⟨fun W hW _ => by go_simp; exact ⟨Ext.refl _, rfl⟩, ?_⟩
  refine ⟨fun W hW _ => by go_simp; exact ⟨Ext.refl _, rfl⟩, ?_⟩
  refine ⟨fun W hW _ => ?g2, ?_⟩
  case g2 =>
    go_simp
    refine (kA.out W).mono ?_
    rintro e w' ⟨rfl, h1⟩
    exact ⟨rfl, h1⟩
  refine ⟨fun W hW _ => by go_simp; exact ⟨Ext.refl _, rfl⟩, ?_⟩
  refine ⟨fun W hW _ => by go_simp; exact ⟨Ext.refl _, rfl⟩, ?_⟩
  refine ⟨fun W hW _ => ?g5, ?_⟩
  case g5 =>
    go_simp
    refine (kB.out W).mono ?_
    rintro e w' ⟨rfl, h1⟩
    exact ⟨rfl, h1⟩
  refine ⟨fun W hW _ => by go_simp; exact ⟨Ext.refl _, by rw [IntKind.wrap_i64]; omega⟩, ?_⟩
  intro W hW _
  clear c0 c1 c2 c3 c4 c5 c6 c7
  replace hE := mkHid (hE.out.trans hW)
  clear hW
  go_simp
  go_wp2_with fail
  go_ret
  exact ⟨by trivial, hE.out⟩

/-- What Beyond answers: 'false' only of what is small enough. -/
def ByV (s : Int) (v : Value) : Prop := ∃ r, v = .bool r ∧ (r = false → s ≤ 1048576)
set_option maxHeartbeats 1600000 in
theorem beyond1_c (g cap : Nat) (x : Int) (w : World) (h0 : 0 ≤ x) (h1 : x ≤ 4503599627370496) (hc : w.cell? ⟨g, 0, none⟩ = some (.int .i64 x)) :
    Calls Try.prog 7 #[.slice (some ⟨g, 0, none⟩) 1 cap] w fun e w' => ∃ v, e = .returned v ∧ Ext w w' ∧ ByV x v := by
  have FE := mkHid (Ext.refl w)
  by_cases hx : 1048576 < x
  · have hb : ByV x (.bool true) := ⟨true, rfl, fun h => by cases h⟩
    replace hb := mkHid hb
    go_enter Try.func7, Try.ntmps7
    go_wp2_with fail
    refine wp_loop_rounds 2 ?_
    rw [rounds_succ]
    go_wp2_with fail
    go_ret
    exact ⟨_, rfl, FE.out, hb.out⟩
  · have hb : ByV x (.bool false) := ⟨false, rfl, fun _ => by omega⟩
    replace hb := mkHid hb
    go_enter Try.func7, Try.ntmps7
    go_wp2_with fail
    refine wp_loop_rounds 2 ?_
    rw [rounds_succ]
    go_wp2_with fail
    rw [rounds_succ]
    go_wp2_with fail
    go_ret
    exact ⟨_, rfl, FE.out, hb.out⟩
set_option maxHeartbeats 1600000 in
theorem beyond2_c (g cap : Nat) (x y : Int) (w : World) (h0 : 0 ≤ x) (h1 : x ≤ 4503599627370496) (h2 : 0 ≤ y) (h3 : y ≤ 4503599627370496) (hc : w.cell? ⟨g, 0, none⟩ = some (.int .i64 x)) (hd : w.cell? ⟨g, 1, none⟩ = some (.int .i64 y)) :
    Calls Try.prog 7 #[.slice (some ⟨g, 0, none⟩) 2 cap] w fun e w' => ∃ v, e = .returned v ∧ Ext w w' ∧ ByV (x + y) v := by
  have FE := mkHid (Ext.refl w)
  by_cases hx : 1048576 < x
  · have hb : ByV (x + y) (.bool true) := ⟨true, rfl, fun h => by cases h⟩
    replace hb := mkHid hb
    go_enter Try.func7, Try.ntmps7
    go_wp2_with fail
    refine wp_loop_rounds 3 ?_
    rw [rounds_succ]
    go_wp2_with fail
    go_ret
    exact ⟨_, rfl, FE.out, hb.out⟩
  · by_cases hy : 1048576 < x + y
    · have hb : ByV (x + y) (.bool true) := ⟨true, rfl, fun h => by cases h⟩
      replace hb := mkHid hb
      go_enter Try.func7, Try.ntmps7
      go_wp2_with fail
      refine wp_loop_rounds 3 ?_
      rw [rounds_succ]
      go_wp2_with fail
      rw [rounds_succ]
      go_wp2_with fail
      go_ret
      exact ⟨_, rfl, FE.out, hb.out⟩
    · have hb : ByV (x + y) (.bool false) := ⟨false, rfl, fun _ => by omega⟩
      replace hb := mkHid hb
      go_enter Try.func7, Try.ntmps7
      go_wp2_with fail
      refine wp_loop_rounds 3 ?_
      rw [rounds_succ]
      go_wp2_with fail
      rw [rounds_succ]
      go_wp2_with fail
      rw [rounds_succ]
      go_wp2_with fail
      go_ret
      exact ⟨_, rfl, FE.out, hb.out⟩
/-- Some answer. -/
def BoolV (v : Value) : Prop := ∃ r, v = .bool r
set_option maxHeartbeats 1600000 in
theorem whole_c (v : Value) (o : Option Rat) (w : World) (h : AnyF w v o) :
    Calls Try.prog 29 #[v] w fun e w' => ∃ v, e = .returned v ∧ Ext w w' ∧ BoolV v := by
  obtain ⟨b1, l1, b2, l2, ⟨a1, c1, a2, c2, rfl, h2, h3, -, ⟨x2, y2, e2, ok2, g2, r2⟩⟩, -⟩ := h
  simp only [Value.agg.injEq, Array.mk.injEq, List.cons.injEq, and_true, Value.slice.injEq, true_and] at e2
  obtain ⟨rfl, rfl⟩ := e2
  have FE := (Ext.refl w).al (.cells #[.bool b1, .slice a1 l1.length c1, .bool b2, .slice a2 l2.length c2] 26)
  have hF := mkHid FE
  have ht : BoolV (.bool true) := ⟨_, rfl⟩
  have hf : BoolV (.bool false) := ⟨_, rfl⟩
  replace ht := mkHid ht
  replace hf := mkHid hf
  by_cases u1 : (l1.length : Int) ≤ 1
  · by_cases u2 : l2.length = 1
    · obtain ⟨g, off, ha, hc⟩ := r2
      have hc0 := FE.cell (hc 0 (by rw [limV_length]; omega))
      obtain ⟨x, hx⟩ : ∃ x : Nat, x = l2.getD 0 0 := ⟨_, rfl⟩
      rw [limV_getD _ _ (by omega), ← hx, Nat.add_zero] at hc0
      have ha2 := ha (limV_ne (show 0 < l2.length by omega))
      subst ha2
      rw [u2] at hc0 hF ⊢
      generalize l1.length = n1 at *
      clear hc ha hx u2 ok2 FE
      replace h2 := mkHid h2
      by_cases u3 : x = 1
      · subst u3
        go_enter Try.func29, Try.ntmps29
        go_wp2_with fail
        go_ret
        exact ⟨_, rfl, hF.out, ht.out⟩
      · have u4 : ((x : Int) == 1) = false := by rw [beq_eq_false_iff_ne]; omega
        replace u3 := mkHid u3
        go_enter Try.func29, Try.ntmps29
        go_wp2_with fail
        go_ret
        exact ⟨_, rfl, hF.out, hf.out⟩
    · have u3 : ((l2.length : Int) == 1) = false := by rw [beq_eq_false_iff_ne]; omega
      generalize l1.length = n1 at *
      generalize l2.length = n2 at *
      replace u2 := mkHid u2
      go_enter Try.func29, Try.ntmps29
      go_wp2_with fail
      go_ret
      exact ⟨_, rfl, hF.out, hf.out⟩
  · generalize l1.length = n1 at *
    generalize l2.length = n2 at *
    go_enter Try.func29, Try.ntmps29
    go_wp2_with fail
    go_ret
    exact ⟨_, rfl, hF.out, hf.out⟩
theorem AnyF.lens {w : World} {b1 b2 : Bool} {a1 a2 : Option Addr} {n1 c1 n2 c2 : Nat} {o : Option Rat} (h : AnyF w (.agg #[.bool b1, .slice a1 n1 c1, .bool b2, .slice a2 n2 c2]) o) : n1 ≤ 4294967296 ∧ n2 ≤ 4294967296 := by
  obtain ⟨x1, l1, x2, l2, ⟨y1, z1, y2, z2, e, h2, h3, -, -⟩, -⟩ := h
  simp only [Value.agg.injEq, Array.mk.injEq, List.cons.injEq, and_true, Value.slice.injEq] at e
  omega
set_option maxHeartbeats 1600000 in
theorem trips_c (n : Int) (g cap : Nat) (o : Option Rat) (w : World) (hl : LF w g [o]) :
    Calls Try.prog 9 #[.int .i64 n, .int .i64 200, .slice (some ⟨g, 0, none⟩) 1 cap] w fun e w' => ∃ v, e = .returned v ∧ Ext w w' ∧ BoolV v := by
  obtain ⟨b1, a1, n1, c1, b2, a2, n2, c2, h1, h2, h3, h4, h5⟩ := hl 0 (by simp)
  simp only [Nat.zero_mul, Nat.zero_add] at h1 h2 h3 h4
  obtain ⟨s1, s2⟩ := h5.lens
  have kw := mkHid (whole_c _ _ w h5)
  clear hl h5
  go_enter Try.func9, Try.ntmps9
  go_wp2_with fail
  refine wp_loop_rounds 2 ?_
  rw [rounds_succ]
  go_wp2_with fail
  refine kw.out.mono ?_
  rintro e w1 ⟨v, rfl, hE1, r, rfl⟩
  replace h1 := hE1.cell h1
  replace h2 := hE1.cell h2
  replace h3 := hE1.cell h3
  replace h4 := hE1.cell h4
  have hF := mkHid hE1
  clear hE1 kw
  cases r with
  | true =>
    go_wp2_with fail
    rw [rounds_succ]
    go_wp2_with fail
    go_ret
    exact ⟨_, rfl, hF.out, ⟨_, rfl⟩⟩
  | false =>
    obtain ⟨L, hm⟩ : ∃ L : Int, min ((n1 : Int) + (n2 : Int)) 1048576 = L := ⟨_, rfl⟩
    have hL : 0 ≤ L ∧ L ≤ 1048576 := by omega
    have w1' : IntKind.i64.wrap ((n1 : Int) + (n2 : Int)) = (n1 : Int) + (n2 : Int) := by rw [IntKind.wrap_i64]; omega
    have w2' : IntKind.i64.wrap (0 + L) = L := by rw [IntKind.wrap_i64]; omega
    obtain ⟨hL1, hL2⟩ := hL
    go_wp2_with fail
    go_quiet (fail)
    go_wp2_with fail
    rw [rounds_succ]
    clear h1 h2 h3 h4 hm w1' w2'
    by_cases u1 : 0 < L
    · have u0 : ¬ L = 0 := by omega
      obtain ⟨q, hq⟩ : ∃ q : Int, Int.tdiv 200 L = q := ⟨_, rfl⟩
      have q1 : 0 ≤ q ∧ q ≤ 200 := by
        rw [← hq, Int.tdiv_eq_ediv_of_nonneg (by omega)]
        exact ⟨Int.ediv_nonneg (by omega) (by omega), Int.ediv_le_self _ (by omega)⟩
      obtain ⟨q1, q2⟩ := q1
      have w3' : IntKind.i64.wrap q = q := by rw [IntKind.wrap_i64]; omega
      by_cases u2 : q < n
      · by_cases u3 : n ≤ 4096
        · go_wp2_with fail
          go_ret
          exact ⟨_, rfl, hF.out.drN _, ⟨_, rfl⟩⟩
        · go_wp2_with fail
          go_ret
          exact ⟨_, rfl, hF.out.drN _, ⟨_, rfl⟩⟩
      · go_wp2_with fail
        go_ret
        exact ⟨_, rfl, hF.out.drN _, ⟨_, rfl⟩⟩
    · go_wp2_with fail
      go_ret
      exact ⟨_, rfl, hF.out.drN _, ⟨_, rfl⟩⟩
end Go.Proofs.Ytpmfohhpaoagfaa
