/-
  PeriodReturns, walked: where nothing is reckoned: printed by tools/gen_returns.py. PeriodReturns, walked: where orders are above nought: printed by tools/gen_returns.py. PeriodReturns, walked: where orders are nought: printed by tools/gen_returns.py. PeriodReturns, walked: for whatever comes in: printed by tools/gen_returns.py.
-/
import Derived.Test.YtpmfohhpaoagfaaMS
namespace Go.Proofs.Ytpmfohhpaoagfaa
open Go Go.RowKit Go.Proofs
set_option maxRecDepth 100000 in
set_option maxHeartbeats 25600000 in
theorem returns_big (n : Int) (v r : Value) (w : World) (h : RawM w v) (hr : RawY w r) (hno : ∀ oa ob oc od oy ou, ¬ (AnyM w v oa ob oc od ∧ AnyY w r oy ou)) :
    Calls Try.prog 6 #[v, r, .int .i64 n] w fun e w' => e = .returned (.bool true) ∧ Ext w w' := by
  obtain ⟨v1, v2, v3, v4, v5, v6, v7, v8, v9, v10, v11, v12, v13, v14, v15, v16, rfl, h1, h2, h3, h4⟩ := h
  obtain ⟨u1, u2, u3, u4, u5, u6, u7, u8, rfl, h5, h6⟩ := hr
  obtain ⟨A1, A2, A3, A4, A5, A6, A7, A8, e1, pA, qA, gA⟩ := h1.opened
  simp only [Value.agg.injEq, Array.mk.injEq, List.cons.injEq, and_true] at e1
  obtain ⟨rfl, rfl, rfl, rfl⟩ := e1
  obtain ⟨B1, B2, B3, B4, B5, B6, B7, B8, e1, pB, qB, gB⟩ := h2.opened
  simp only [Value.agg.injEq, Array.mk.injEq, List.cons.injEq, and_true] at e1
  obtain ⟨rfl, rfl, rfl, rfl⟩ := e1
  obtain ⟨C1, C2, C3, C4, C5, C6, C7, C8, e1, pC, qC, gC⟩ := h3.opened
  simp only [Value.agg.injEq, Array.mk.injEq, List.cons.injEq, and_true] at e1
  obtain ⟨rfl, rfl, rfl, rfl⟩ := e1
  obtain ⟨D1, D2, D3, D4, D5, D6, D7, D8, e1, pD, qD, gD⟩ := h4.opened
  simp only [Value.agg.injEq, Array.mk.injEq, List.cons.injEq, and_true] at e1
  obtain ⟨rfl, rfl, rfl, rfl⟩ := e1
  obtain ⟨Y1, Y2, Y3, Y4, Y5, Y6, Y7, Y8, e1, pY, qY, gY⟩ := h5.opened
  simp only [Value.agg.injEq, Array.mk.injEq, List.cons.injEq, and_true] at e1
  obtain ⟨rfl, rfl, rfl, rfl⟩ := e1
  obtain ⟨U1, U2, U3, U4, U5, U6, U7, U8, e1, pU, qU, gU⟩ := h6.opened
  simp only [Value.agg.injEq, Array.mk.injEq, List.cons.injEq, and_true] at e1
  obtain ⟨rfl, rfl, rfl, rfl⟩ := e1
  clear h1 h2 h3 h4 h5 h6
  have kl := mkHid lives_c
  have km := mkHid (fun w => matrixCost_c A1 A2 A3 A4 A5 A6 A7 A8 B1 B2 B3 B4 B5 B6 B7 B8 C1 C2 C3 C4 C5 C6 C7 C8 D1 D2 D3 D4 D5 D6 D7 D8 w pA qA pB qB pC qC pD qD)
  have kr := mkHid (fun w => rayCost_c Y1 Y2 Y3 Y4 Y5 Y6 Y7 Y8 U1 U2 U3 U4 U5 U6 U7 U8 w pY qY pU qU)
  obtain ⟨cA1, cA2, cA3, cA4⟩ := costV_b A3 A7 pA qA
  obtain ⟨cB1, cB2, cB3, cB4⟩ := costV_b B3 B7 pB qB
  obtain ⟨cC1, cC2, cC3, cC4⟩ := costV_b C3 C7 pC qC
  obtain ⟨cD1, cD2, cD3, cD4⟩ := costV_b D3 D7 pD qD
  obtain ⟨cY1, cY2, cY3, cY4⟩ := costV_b Y3 Y7 pY qY
  obtain ⟨cU1, cU2, cU3, cU4⟩ := costV_b U3 U7 pU qU
  generalize costV A3 A7 = CA at *
  generalize costV B3 B7 = CB at *
  generalize costV C3 C7 = CC at *
  generalize costV D3 D7 = CD at *
  generalize costV Y3 Y7 = CY at *
  generalize costV U3 U7 = CU at *
  obtain ⟨CM, hCM⟩ : ∃ C : Int, C = CA + CB + CC + CD := ⟨_, rfl⟩
  obtain ⟨CR, hCR⟩ : ∃ C : Int, C = CY + CU := ⟨_, rfl⟩
  rw [← hCM] at km
  rw [← hCR] at kr
  have kb := mkHid (fun g w h h' => beyond2_c g 2 CM CR w (by omega) (by omega) (by omega) (by omega) h h')
  have small : ¬ CM + CR ≤ 1048576 := fun hs => by
    have l : A3 ≤ 4294967296 ∧ A7 ≤ 4294967296 ∧ B3 ≤ 4294967296 ∧ B7 ≤ 4294967296 ∧ C3 ≤ 4294967296 ∧ C7 ≤ 4294967296 ∧ D3 ≤ 4294967296 ∧ D7 ≤ 4294967296 ∧ Y3 ≤ 4294967296 ∧ Y7 ≤ 4294967296 ∧ U3 ≤ 4294967296 ∧ U7 ≤ 4294967296 := by omega
    obtain ⟨lA1, lA2, lB1, lB2, lC1, lC2, lD1, lD2, lY1, lY2, lU1, lU2⟩ := l
    obtain ⟨oa, fA⟩ := gA lA1 lA2
    obtain ⟨ob, fB⟩ := gB lB1 lB2
    obtain ⟨oc, fC⟩ := gC lC1 lC2
    obtain ⟨od, fD⟩ := gD lD1 lD2
    obtain ⟨oy, fY⟩ := gY lY1 lY2
    obtain ⟨ou, fU⟩ := gU lU1 lU2
    exact hno _ _ _ _ _ _ ⟨⟨_, _, _, _, _, _, _, _, _, _, _, _, _, _, _, _, _, _, _, _, _, _, _, _, _, _, _, _, _, _, _, _, rfl, fA, fB, fC, fD⟩, ⟨_, _, _, _, _, _, _, _, _, _, _, _, _, _, _, _, rfl, fY, fU⟩⟩
  replace small := mkHid small
  clear hCM hCR cA1 cA2 cA3 cA4 pA qA cB1 cB2 cB3 cB4 pB qB cC1 cC2 cC3 cC4 pC qC cD1 cD2 cD3 cD4 pD qD cY1 cY2 cY3 cY4 pY qY cU1 cU2 cU3 cU4 pU qU hno gA gB gC gD gY gU
  have hE := mkHid (Ext.refl w)
  go_enter Try.func6, Try.ntmps6
  obtain ⟨w1, hw1⟩ : ∃ w1, w1 = (w.alloc (.cells #[.bool A1, .slice A2 A3 A4, .bool A5, .slice A6 A7 A8, .bool B1, .slice B2 B3 B4, .bool B5, .slice B6 B7 B8, .bool C1, .slice C2 C3 C4, .bool C5, .slice C6 C7 C8, .bool D1, .slice D2 D3 D4, .bool D5, .slice D6 D7 D8] 40)).alloc (.cells #[.bool Y1, .slice Y2 Y3 Y4, .bool Y5, .slice Y6 Y7 Y8, .bool U1, .slice U2 U3 U4, .bool U5, .slice U6 U7 U8] 48) := ⟨_, rfl⟩
  have hx : Ext w w1 := by rw [hw1]; exact (((Ext.refl w).al _).al _)
  have zM : w1.heap[w.heap.size]? = some (.cells #[.bool A1, .slice A2 A3 A4, .bool A5, .slice A6 A7 A8, .bool B1, .slice B2 B3 B4, .bool B5, .slice B6 B7 B8, .bool C1, .slice C2 C3 C4, .bool C5, .slice C6 C7 C8, .bool D1, .slice D2 D3 D4, .bool D5, .slice D6 D7 D8] 40 (0, 0)) := by rw [hw1]; exact (heap_alloc_old _ _ (by simp <;> omega)).trans (heap_at _ _ _ (by simp))
  have zR : w1.heap[w.heap.size + 1]? = some (.cells #[.bool Y1, .slice Y2 Y3 Y4, .bool Y5, .slice Y6 Y7 Y8, .bool U1, .slice U2 U3 U4, .bool U5, .slice U6 U7 U8] 48 (0, 0)) := by rw [hw1]; exact heap_at _ _ _ (by simp)
  obtain ⟨g2, hg2⟩ : ∃ g2, g2 = w.heap.size := ⟨_, rfl⟩
  rw [← hg2] at zM zR
  go_wp2_with (first
    | (refine wpList_load_row rfl 40 (.tmp 3) rfl (w.heap.size) rfl 40 #[.bool A1, .slice A2 A3 A4, .bool A5, .slice A6 A7 A8, .bool B1, .slice B2 B3 B4, .bool B5, .slice B6 B7 B8, .bool C1, .slice C2 C3 C4, .bool C5, .slice C6 C7 C8, .bool D1, .slice D2 D3 D4, .bool D5, .slice D6 D7 D8] (0, 0) _ ((heap_alloc_old _ _ (by simp <;> omega)).trans (heap_at _ _ _ (by simp))) Try.underlying40 rfl (by kernel_rfl) ?_)
    | (refine wpList_load_row rfl 48 (.tmp 4) rfl (w.heap.size + 1) rfl 48 #[.bool Y1, .slice Y2 Y3 Y4, .bool Y5, .slice Y6 Y7 Y8, .bool U1, .slice U2 U3 U4, .bool U5, .slice U6 U7 U8] (0, 0) _ (heap_at _ _ _ (by simp)) Try.underlying48 rfl (by kernel_rfl) ?_))
  rw [← hg2, ← hw1]
  clear hg2 hw1
  replace hE := mkHid (hE.out.trans hx)
  clear hx
  replace zM := mkHid zM
  replace zR := mkHid zR
  apply region_ext [.val (.agg #[.bool A1, .slice A2 A3 A4, .bool A5, .slice A6 A7 A8, .bool B1, .slice B2 B3 B4, .bool B5, .slice B6 B7 B8, .bool C1, .slice C2 C3 C4, .bool C5, .slice C6 C7 C8, .bool D1, .slice D2 D3 D4, .bool D5, .slice D6 D7 D8]), .val (.int .i64 CM), .val (.agg #[.bool Y1, .slice Y2 Y3 Y4, .bool Y5, .slice Y6 Y7 Y8, .bool U1, .slice U2 U3 U4, .bool U5, .slice U6 U7 U8]), .val (.int .i64 CR), .pred (SlI CM CR), .pred (fun _ v => ByV (CM + CR) v)] (by kernel_rfl) (stable_vals _ (stable_vals _ (stable_vals _ (stable_vals _ (st_slI _ _ (st_byV _ trivial))))))
  refine ⟨fun W hW _ => fr_load rfl 40 (.tmp 3) rfl (g2) rfl 40 #[.bool A1, .slice A2 A3 A4, .bool A5, .slice A6 A7 A8, .bool B1, .slice B2 B3 B4, .bool B5, .slice B6 B7 B8, .bool C1, .slice C2 C3 C4, .bool C5, .slice C6 C7 C8, .bool D1, .slice D2 D3 D4, .bool D5, .slice D6 D7 D8] (0, 0) _ (hW.blk zM.out) Try.underlying40 rfl (by kernel_rfl) ⟨Ext.refl _, rfl⟩, ⟨fun W hW _ => ?b1, ⟨fun W hW _ => fr_load rfl 48 (.tmp 4) rfl (g2 + 1) rfl 48 #[.bool Y1, .slice Y2 Y3 Y4, .bool Y5, .slice Y6 Y7 Y8, .bool U1, .slice U2 U3 U4, .bool U5, .slice U6 U7 U8] (0, 0) _ (hW.blk zR.out) Try.underlying48 rfl (by kernel_rfl) ⟨Ext.refl _, rfl⟩, ⟨fun W hW _ => ?b3,  ⟨fun W hW _ => ?b4, fun x4 => ⟨fun W hW hF => ?b5, fun x5 => ?_⟩⟩⟩⟩⟩⟩
  case b1 =>
    go_simp
    refine (km.out W).mono ?_
    rintro e w' ⟨rfl, h1⟩
    exact ⟨rfl, h1⟩
  case b3 =>
    go_simp
    refine (kr.out W).mono ?_
    rintro e w' ⟨rfl, h1⟩
    exact ⟨rfl, h1⟩
  case b4 =>
    have hs := mkHid ((Ext.refl W).al (.cells #[.int .i64 CM, .int .i64 CR] 3))
    have hsl := mkHid (show SlI CM CR (W.alloc (.cells #[.int .i64 CM, .int .i64 CR] 3)) (.slice (some ⟨W.heap.size, 0, none⟩) 2 2) from ⟨_, rfl, heap_alloc_new _ _⟩)
    go_simp
    exact ⟨hs.out, hsl.out⟩
  case b5 =>
    have dd : SlI CM CR W x4 := hF.1 (by kernel_rfl)
    obtain ⟨g, rfl, hg⟩ := dd
    clear hF
    go_simp
    refine (kb.out g W (by simp [World.cell?, hg]) (by simp [World.cell?, hg])).mono ?_
    rintro e w' ⟨v, rfl, e1, e2⟩
    exact ⟨v, rfl, e1, e2⟩
  intro W1 hW hF
  have hB : ByV (CM + CR) x5 := hF.1 rfl
  obtain ⟨rb, rfl, hB⟩ := hB
  clear hF
  replace hE := mkHid (hE.out.trans hW)
  replace zM := mkHid (hW.blk zM.out)
  replace zR := mkHid (hW.blk zR.out)
  clear hW km kr kb
  go_simp
  cases rb with
  | true =>
    clear hB
    go_wp2_with fail
    go_ret
    exact ⟨rfl, hE.out⟩
  | false =>
    exact absurd (hB rfl) (by have := small.out; omega)
set_option maxRecDepth 100000 in
set_option maxHeartbeats 25600000 in
theorem returns_no (n : Int) (v r : Value) (oa ob oc od oy ou : Option Rat) (w : World) (h : AnyM w v oa ob oc od) (hr : AnyY w r oy ou) (hm : okM oa ob oc od = false) :
    Calls Try.prog 6 #[v, r, .int .i64 n] w fun e w' => e = .returned (.bool true) ∧ Ext w w' := by
  have hM := mkHid h
  have hY := mkHid hr
  obtain ⟨A1, A2, A3, A4, A5, A6, A7, A8, B1, B2, B3, B4, B5, B6, B7, B8, C1, C2, C3, C4, C5, C6, C7, C8, D1, D2, D3, D4, D5, D6, D7, D8, rfl, h1, h2, h3, h4⟩ := h
  obtain ⟨Y1, Y2, Y3, Y4, Y5, Y6, Y7, Y8, U1, U2, U3, U4, U5, U6, U7, U8, rfl, h5, h6⟩ := hr
  have pA : A3 ≤ 140737488355328 := Nat.le_trans h1.lens.1 (by decide)
  have qA : A7 ≤ 140737488355328 := Nat.le_trans h1.lens.2 (by decide)
  have pB : B3 ≤ 140737488355328 := Nat.le_trans h2.lens.1 (by decide)
  have qB : B7 ≤ 140737488355328 := Nat.le_trans h2.lens.2 (by decide)
  have pC : C3 ≤ 140737488355328 := Nat.le_trans h3.lens.1 (by decide)
  have qC : C7 ≤ 140737488355328 := Nat.le_trans h3.lens.2 (by decide)
  have pD : D3 ≤ 140737488355328 := Nat.le_trans h4.lens.1 (by decide)
  have qD : D7 ≤ 140737488355328 := Nat.le_trans h4.lens.2 (by decide)
  have pY : Y3 ≤ 140737488355328 := Nat.le_trans h5.lens.1 (by decide)
  have qY : Y7 ≤ 140737488355328 := Nat.le_trans h5.lens.2 (by decide)
  have pU : U3 ≤ 140737488355328 := Nat.le_trans h6.lens.1 (by decide)
  have qU : U7 ≤ 140737488355328 := Nat.le_trans h6.lens.2 (by decide)
  clear h1 h2 h3 h4 h5 h6
  have kl := mkHid lives_c
  have km := mkHid (fun w => matrixCost_c A1 A2 A3 A4 A5 A6 A7 A8 B1 B2 B3 B4 B5 B6 B7 B8 C1 C2 C3 C4 C5 C6 C7 C8 D1 D2 D3 D4 D5 D6 D7 D8 w pA qA pB qB pC qC pD qD)
  have kr := mkHid (fun w => rayCost_c Y1 Y2 Y3 Y4 Y5 Y6 Y7 Y8 U1 U2 U3 U4 U5 U6 U7 U8 w pY qY pU qU)
  obtain ⟨cA1, cA2, cA3, cA4⟩ := costV_b A3 A7 pA qA
  obtain ⟨cB1, cB2, cB3, cB4⟩ := costV_b B3 B7 pB qB
  obtain ⟨cC1, cC2, cC3, cC4⟩ := costV_b C3 C7 pC qC
  obtain ⟨cD1, cD2, cD3, cD4⟩ := costV_b D3 D7 pD qD
  obtain ⟨cY1, cY2, cY3, cY4⟩ := costV_b Y3 Y7 pY qY
  obtain ⟨cU1, cU2, cU3, cU4⟩ := costV_b U3 U7 pU qU
  generalize costV A3 A7 = CA at *
  generalize costV B3 B7 = CB at *
  generalize costV C3 C7 = CC at *
  generalize costV D3 D7 = CD at *
  generalize costV Y3 Y7 = CY at *
  generalize costV U3 U7 = CU at *
  obtain ⟨CM, hCM⟩ : ∃ C : Int, C = CA + CB + CC + CD := ⟨_, rfl⟩
  obtain ⟨CR, hCR⟩ : ∃ C : Int, C = CY + CU := ⟨_, rfl⟩
  rw [← hCM] at km
  rw [← hCR] at kr
  have kb := mkHid (fun g w h h' => beyond2_c g 2 CM CR w (by omega) (by omega) (by omega) (by omega) h h')
  clear hCM hCR cA1 cA2 cA3 cA4 pA qA cB1 cB2 cB3 cB4 pB qB cC1 cC2 cC3 cC4 pC qC cD1 cD2 cD3 cD4 pD qD cY1 cY2 cY3 cY4 pY qY cU1 cU2 cU3 cU4 pU qU 
  replace hm := mkHid hm
  have hE := mkHid (Ext.refl w)
  go_enter Try.func6, Try.ntmps6
  obtain ⟨w1, hw1⟩ : ∃ w1, w1 = (w.alloc (.cells #[.bool A1, .slice A2 A3 A4, .bool A5, .slice A6 A7 A8, .bool B1, .slice B2 B3 B4, .bool B5, .slice B6 B7 B8, .bool C1, .slice C2 C3 C4, .bool C5, .slice C6 C7 C8, .bool D1, .slice D2 D3 D4, .bool D5, .slice D6 D7 D8] 40)).alloc (.cells #[.bool Y1, .slice Y2 Y3 Y4, .bool Y5, .slice Y6 Y7 Y8, .bool U1, .slice U2 U3 U4, .bool U5, .slice U6 U7 U8] 48) := ⟨_, rfl⟩
  have hx : Ext w w1 := by rw [hw1]; exact (((Ext.refl w).al _).al _)
  have zM : w1.heap[w.heap.size]? = some (.cells #[.bool A1, .slice A2 A3 A4, .bool A5, .slice A6 A7 A8, .bool B1, .slice B2 B3 B4, .bool B5, .slice B6 B7 B8, .bool C1, .slice C2 C3 C4, .bool C5, .slice C6 C7 C8, .bool D1, .slice D2 D3 D4, .bool D5, .slice D6 D7 D8] 40 (0, 0)) := by rw [hw1]; exact (heap_alloc_old _ _ (by simp <;> omega)).trans (heap_at _ _ _ (by simp))
  have zR : w1.heap[w.heap.size + 1]? = some (.cells #[.bool Y1, .slice Y2 Y3 Y4, .bool Y5, .slice Y6 Y7 Y8, .bool U1, .slice U2 U3 U4, .bool U5, .slice U6 U7 U8] 48 (0, 0)) := by rw [hw1]; exact heap_at _ _ _ (by simp)
  obtain ⟨g2, hg2⟩ : ∃ g2, g2 = w.heap.size := ⟨_, rfl⟩
  rw [← hg2] at zM zR
  go_wp2_with (first
    | (refine wpList_load_row rfl 40 (.tmp 3) rfl (w.heap.size) rfl 40 #[.bool A1, .slice A2 A3 A4, .bool A5, .slice A6 A7 A8, .bool B1, .slice B2 B3 B4, .bool B5, .slice B6 B7 B8, .bool C1, .slice C2 C3 C4, .bool C5, .slice C6 C7 C8, .bool D1, .slice D2 D3 D4, .bool D5, .slice D6 D7 D8] (0, 0) _ ((heap_alloc_old _ _ (by simp <;> omega)).trans (heap_at _ _ _ (by simp))) Try.underlying40 rfl (by kernel_rfl) ?_)
    | (refine wpList_load_row rfl 48 (.tmp 4) rfl (w.heap.size + 1) rfl 48 #[.bool Y1, .slice Y2 Y3 Y4, .bool Y5, .slice Y6 Y7 Y8, .bool U1, .slice U2 U3 U4, .bool U5, .slice U6 U7 U8] (0, 0) _ (heap_at _ _ _ (by simp)) Try.underlying48 rfl (by kernel_rfl) ?_))
  rw [← hg2, ← hw1]
  clear hg2 hw1
  replace hE := mkHid (hE.out.trans hx)
  replace hM := mkHid (hM.out.ext hx)
  replace hY := mkHid (hY.out.ext hx)
  clear hx
  replace zM := mkHid zM
  replace zR := mkHid zR
  apply region_ext [.val (.agg #[.bool A1, .slice A2 A3 A4, .bool A5, .slice A6 A7 A8, .bool B1, .slice B2 B3 B4, .bool B5, .slice B6 B7 B8, .bool C1, .slice C2 C3 C4, .bool C5, .slice C6 C7 C8, .bool D1, .slice D2 D3 D4, .bool D5, .slice D6 D7 D8]), .val (.int .i64 CM), .val (.agg #[.bool Y1, .slice Y2 Y3 Y4, .bool Y5, .slice Y6 Y7 Y8, .bool U1, .slice U2 U3 U4, .bool U5, .slice U6 U7 U8]), .val (.int .i64 CR), .pred (SlI CM CR), .pred (fun _ v => ByV (CM + CR) v)] (by kernel_rfl) (stable_vals _ (stable_vals _ (stable_vals _ (stable_vals _ (st_slI _ _ (st_byV _ trivial))))))
  refine ⟨fun W hW _ => fr_load rfl 40 (.tmp 3) rfl (g2) rfl 40 #[.bool A1, .slice A2 A3 A4, .bool A5, .slice A6 A7 A8, .bool B1, .slice B2 B3 B4, .bool B5, .slice B6 B7 B8, .bool C1, .slice C2 C3 C4, .bool C5, .slice C6 C7 C8, .bool D1, .slice D2 D3 D4, .bool D5, .slice D6 D7 D8] (0, 0) _ (hW.blk zM.out) Try.underlying40 rfl (by kernel_rfl) ⟨Ext.refl _, rfl⟩, ⟨fun W hW _ => ?b1, ⟨fun W hW _ => fr_load rfl 48 (.tmp 4) rfl (g2 + 1) rfl 48 #[.bool Y1, .slice Y2 Y3 Y4, .bool Y5, .slice Y6 Y7 Y8, .bool U1, .slice U2 U3 U4, .bool U5, .slice U6 U7 U8] (0, 0) _ (hW.blk zR.out) Try.underlying48 rfl (by kernel_rfl) ⟨Ext.refl _, rfl⟩, ⟨fun W hW _ => ?b3,  ⟨fun W hW _ => ?b4, fun x4 => ⟨fun W hW hF => ?b5, fun x5 => ?_⟩⟩⟩⟩⟩⟩
  case b1 =>
    go_simp
    refine (km.out W).mono ?_
    rintro e w' ⟨rfl, h1⟩
    exact ⟨rfl, h1⟩
  case b3 =>
    go_simp
    refine (kr.out W).mono ?_
    rintro e w' ⟨rfl, h1⟩
    exact ⟨rfl, h1⟩
  case b4 =>
    have hs := mkHid ((Ext.refl W).al (.cells #[.int .i64 CM, .int .i64 CR] 3))
    have hsl := mkHid (show SlI CM CR (W.alloc (.cells #[.int .i64 CM, .int .i64 CR] 3)) (.slice (some ⟨W.heap.size, 0, none⟩) 2 2) from ⟨_, rfl, heap_alloc_new _ _⟩)
    go_simp
    exact ⟨hs.out, hsl.out⟩
  case b5 =>
    have dd : SlI CM CR W x4 := hF.1 (by kernel_rfl)
    obtain ⟨g, rfl, hg⟩ := dd
    clear hF
    go_simp
    refine (kb.out g W (by simp [World.cell?, hg]) (by simp [World.cell?, hg])).mono ?_
    rintro e w' ⟨v, rfl, e1, e2⟩
    exact ⟨v, rfl, e1, e2⟩
  intro W1 hW hF
  have hB : ByV (CM + CR) x5 := hF.1 rfl
  obtain ⟨rb, rfl, hB⟩ := hB
  clear hF
  replace hE := mkHid (hE.out.trans hW)
  replace hM := mkHid (hM.out.ext hW)
  replace hY := mkHid (hY.out.ext hW)
  replace zM := mkHid (hW.blk zM.out)
  replace zR := mkHid (hW.blk zR.out)
  clear hW km kr kb
  go_simp
  cases rb with
  | true =>
    clear hB
    go_wp2_with fail
    go_ret
    exact ⟨rfl, hE.out⟩
  | false =>
    clear hB
    go_wp2_with (first
      | (refine wpList_load_row rfl 40 (.tmp 3) rfl (g2) rfl 40 #[.bool A1, .slice A2 A3 A4, .bool A5, .slice A6 A7 A8, .bool B1, .slice B2 B3 B4, .bool B5, .slice B6 B7 B8, .bool C1, .slice C2 C3 C4, .bool C5, .slice C6 C7 C8, .bool D1, .slice D2 D3 D4, .bool D5, .slice D6 D7 D8] (0, 0) _ (zM.out) Try.underlying40 rfl (by kernel_rfl) ?_))
    refine (order_no _ oa ob oc od _ hM.out hm.out).mono ?_
    rintro e w3 ⟨rfl, hx⟩
    replace hE := mkHid (hE.out.trans hx)
    replace hM := mkHid (hM.out.ext hx)
    replace hY := mkHid (hY.out.ext hx)
    replace zM := mkHid (hx.blk zM.out)
    replace zR := mkHid (hx.blk zR.out)
    clear hx
    go_wp2_with (first
      | (refine wpList_load_row rfl 40 (.tmp 3) rfl (g2) rfl 40 #[.bool A1, .slice A2 A3 A4, .bool A5, .slice A6 A7 A8, .bool B1, .slice B2 B3 B4, .bool B5, .slice B6 B7 B8, .bool C1, .slice C2 C3 C4, .bool C5, .slice C6 C7 C8, .bool D1, .slice D2 D3 D4, .bool D5, .slice D6 D7 D8] (0, 0) _ (zM.out) Try.underlying40 rfl (by kernel_rfl) ?_)
      | (refine wpList_load_row rfl 48 (.tmp 4) rfl (g2 + 1) rfl 48 #[.bool Y1, .slice Y2 Y3 Y4, .bool Y5, .slice Y6 Y7 Y8, .bool U1, .slice U2 U3 U4, .bool U5, .slice U6 U7 U8] (0, 0) _ (zR.out) Try.underlying48 rfl (by kernel_rfl) ?_))
    refine (again_no _ _ oa ob oc od oy ou _ hM.out hY.out (.inl hm.out)).mono ?_
    rintro e w4 ⟨rfl, hx⟩
    replace hE := mkHid (hE.out.trans hx)
    replace hM := mkHid (hM.out.ext hx)
    replace hY := mkHid (hY.out.ext hx)
    replace zM := mkHid (hx.blk zM.out)
    replace zR := mkHid (hx.blk zR.out)
    clear hx
    go_wp2_with fail
    refine (kl.out _).mono ?_
    rintro e wl ⟨rfl, hl⟩
    go_wp2_with fail
    go_ret
    exact ⟨rfl, hE.out.trans hl⟩
set_option maxRecDepth 100000 in
set_option maxHeartbeats 25600000 in
theorem returns_no2 (n : Int) (v r : Value) (a b c d : Rat) (oy ou : Option Rat) (w : World) (h : AnyM w v (some a) (some b) (some c) (some d)) (hr : AnyY w r oy ou) (hdet : a * d - b * c = 1) (hy : okY oy ou = false) :
    Calls Try.prog 6 #[v, r, .int .i64 n] w fun e w' => e = .returned (.bool true) ∧ Ext w w' := by
  have hM := mkHid h
  have hY := mkHid hr
  obtain ⟨A1, A2, A3, A4, A5, A6, A7, A8, B1, B2, B3, B4, B5, B6, B7, B8, C1, C2, C3, C4, C5, C6, C7, C8, D1, D2, D3, D4, D5, D6, D7, D8, rfl, h1, h2, h3, h4⟩ := h
  obtain ⟨Y1, Y2, Y3, Y4, Y5, Y6, Y7, Y8, U1, U2, U3, U4, U5, U6, U7, U8, rfl, h5, h6⟩ := hr
  have pA : A3 ≤ 140737488355328 := Nat.le_trans h1.lens.1 (by decide)
  have qA : A7 ≤ 140737488355328 := Nat.le_trans h1.lens.2 (by decide)
  have pB : B3 ≤ 140737488355328 := Nat.le_trans h2.lens.1 (by decide)
  have qB : B7 ≤ 140737488355328 := Nat.le_trans h2.lens.2 (by decide)
  have pC : C3 ≤ 140737488355328 := Nat.le_trans h3.lens.1 (by decide)
  have qC : C7 ≤ 140737488355328 := Nat.le_trans h3.lens.2 (by decide)
  have pD : D3 ≤ 140737488355328 := Nat.le_trans h4.lens.1 (by decide)
  have qD : D7 ≤ 140737488355328 := Nat.le_trans h4.lens.2 (by decide)
  have pY : Y3 ≤ 140737488355328 := Nat.le_trans h5.lens.1 (by decide)
  have qY : Y7 ≤ 140737488355328 := Nat.le_trans h5.lens.2 (by decide)
  have pU : U3 ≤ 140737488355328 := Nat.le_trans h6.lens.1 (by decide)
  have qU : U7 ≤ 140737488355328 := Nat.le_trans h6.lens.2 (by decide)
  clear h1 h2 h3 h4 h5 h6
  have kl := mkHid lives_c
  have km := mkHid (fun w => matrixCost_c A1 A2 A3 A4 A5 A6 A7 A8 B1 B2 B3 B4 B5 B6 B7 B8 C1 C2 C3 C4 C5 C6 C7 C8 D1 D2 D3 D4 D5 D6 D7 D8 w pA qA pB qB pC qC pD qD)
  have kr := mkHid (fun w => rayCost_c Y1 Y2 Y3 Y4 Y5 Y6 Y7 Y8 U1 U2 U3 U4 U5 U6 U7 U8 w pY qY pU qU)
  obtain ⟨cA1, cA2, cA3, cA4⟩ := costV_b A3 A7 pA qA
  obtain ⟨cB1, cB2, cB3, cB4⟩ := costV_b B3 B7 pB qB
  obtain ⟨cC1, cC2, cC3, cC4⟩ := costV_b C3 C7 pC qC
  obtain ⟨cD1, cD2, cD3, cD4⟩ := costV_b D3 D7 pD qD
  obtain ⟨cY1, cY2, cY3, cY4⟩ := costV_b Y3 Y7 pY qY
  obtain ⟨cU1, cU2, cU3, cU4⟩ := costV_b U3 U7 pU qU
  generalize costV A3 A7 = CA at *
  generalize costV B3 B7 = CB at *
  generalize costV C3 C7 = CC at *
  generalize costV D3 D7 = CD at *
  generalize costV Y3 Y7 = CY at *
  generalize costV U3 U7 = CU at *
  obtain ⟨CM, hCM⟩ : ∃ C : Int, C = CA + CB + CC + CD := ⟨_, rfl⟩
  obtain ⟨CR, hCR⟩ : ∃ C : Int, C = CY + CU := ⟨_, rfl⟩
  rw [← hCM] at km
  rw [← hCR] at kr
  have kb := mkHid (fun g w h h' => beyond2_c g 2 CM CR w (by omega) (by omega) (by omega) (by omega) h h')
  clear hCM hCR cA1 cA2 cA3 cA4 pA qA cB1 cB2 cB3 cB4 pB qB cC1 cC2 cC3 cC4 pC qC cD1 cD2 cD3 cD4 pD qD cY1 cY2 cY3 cY4 pY qY cU1 cU2 cU3 cU4 pU qU 
  have ko := mkHid (fun W h => order_yes (.agg #[.bool A1, .slice A2 A3 A4, .bool A5, .slice A6 A7 A8, .bool B1, .slice B2 B3 B4, .bool B5, .slice B6 B7 B8, .bool C1, .slice C2 C3 C4, .bool C5, .slice C6 C7 C8, .bool D1, .slice D2 D3 D4, .bool D5, .slice D6 D7 D8]) a b c d W h hdet)
  replace hdet := mkHid hdet
  replace hy := mkHid hy
  generalize ordM a b c d = O at *
  have hE := mkHid (Ext.refl w)
  go_enter Try.func6, Try.ntmps6
  obtain ⟨w1, hw1⟩ : ∃ w1, w1 = (w.alloc (.cells #[.bool A1, .slice A2 A3 A4, .bool A5, .slice A6 A7 A8, .bool B1, .slice B2 B3 B4, .bool B5, .slice B6 B7 B8, .bool C1, .slice C2 C3 C4, .bool C5, .slice C6 C7 C8, .bool D1, .slice D2 D3 D4, .bool D5, .slice D6 D7 D8] 40)).alloc (.cells #[.bool Y1, .slice Y2 Y3 Y4, .bool Y5, .slice Y6 Y7 Y8, .bool U1, .slice U2 U3 U4, .bool U5, .slice U6 U7 U8] 48) := ⟨_, rfl⟩
  have hx : Ext w w1 := by rw [hw1]; exact (((Ext.refl w).al _).al _)
  have zM : w1.heap[w.heap.size]? = some (.cells #[.bool A1, .slice A2 A3 A4, .bool A5, .slice A6 A7 A8, .bool B1, .slice B2 B3 B4, .bool B5, .slice B6 B7 B8, .bool C1, .slice C2 C3 C4, .bool C5, .slice C6 C7 C8, .bool D1, .slice D2 D3 D4, .bool D5, .slice D6 D7 D8] 40 (0, 0)) := by rw [hw1]; exact (heap_alloc_old _ _ (by simp <;> omega)).trans (heap_at _ _ _ (by simp))
  have zR : w1.heap[w.heap.size + 1]? = some (.cells #[.bool Y1, .slice Y2 Y3 Y4, .bool Y5, .slice Y6 Y7 Y8, .bool U1, .slice U2 U3 U4, .bool U5, .slice U6 U7 U8] 48 (0, 0)) := by rw [hw1]; exact heap_at _ _ _ (by simp)
  obtain ⟨g2, hg2⟩ : ∃ g2, g2 = w.heap.size := ⟨_, rfl⟩
  rw [← hg2] at zM zR
  go_wp2_with (first
    | (refine wpList_load_row rfl 40 (.tmp 3) rfl (w.heap.size) rfl 40 #[.bool A1, .slice A2 A3 A4, .bool A5, .slice A6 A7 A8, .bool B1, .slice B2 B3 B4, .bool B5, .slice B6 B7 B8, .bool C1, .slice C2 C3 C4, .bool C5, .slice C6 C7 C8, .bool D1, .slice D2 D3 D4, .bool D5, .slice D6 D7 D8] (0, 0) _ ((heap_alloc_old _ _ (by simp <;> omega)).trans (heap_at _ _ _ (by simp))) Try.underlying40 rfl (by kernel_rfl) ?_)
    | (refine wpList_load_row rfl 48 (.tmp 4) rfl (w.heap.size + 1) rfl 48 #[.bool Y1, .slice Y2 Y3 Y4, .bool Y5, .slice Y6 Y7 Y8, .bool U1, .slice U2 U3 U4, .bool U5, .slice U6 U7 U8] (0, 0) _ (heap_at _ _ _ (by simp)) Try.underlying48 rfl (by kernel_rfl) ?_))
  rw [← hg2, ← hw1]
  clear hg2 hw1
  replace hE := mkHid (hE.out.trans hx)
  replace hM := mkHid (hM.out.ext hx)
  replace hY := mkHid (hY.out.ext hx)
  clear hx
  replace zM := mkHid zM
  replace zR := mkHid zR
  apply region_ext [.val (.agg #[.bool A1, .slice A2 A3 A4, .bool A5, .slice A6 A7 A8, .bool B1, .slice B2 B3 B4, .bool B5, .slice B6 B7 B8, .bool C1, .slice C2 C3 C4, .bool C5, .slice C6 C7 C8, .bool D1, .slice D2 D3 D4, .bool D5, .slice D6 D7 D8]), .val (.int .i64 CM), .val (.agg #[.bool Y1, .slice Y2 Y3 Y4, .bool Y5, .slice Y6 Y7 Y8, .bool U1, .slice U2 U3 U4, .bool U5, .slice U6 U7 U8]), .val (.int .i64 CR), .pred (SlI CM CR), .pred (fun _ v => ByV (CM + CR) v)] (by kernel_rfl) (stable_vals _ (stable_vals _ (stable_vals _ (stable_vals _ (st_slI _ _ (st_byV _ trivial))))))
  refine ⟨fun W hW _ => fr_load rfl 40 (.tmp 3) rfl (g2) rfl 40 #[.bool A1, .slice A2 A3 A4, .bool A5, .slice A6 A7 A8, .bool B1, .slice B2 B3 B4, .bool B5, .slice B6 B7 B8, .bool C1, .slice C2 C3 C4, .bool C5, .slice C6 C7 C8, .bool D1, .slice D2 D3 D4, .bool D5, .slice D6 D7 D8] (0, 0) _ (hW.blk zM.out) Try.underlying40 rfl (by kernel_rfl) ⟨Ext.refl _, rfl⟩, ⟨fun W hW _ => ?b1, ⟨fun W hW _ => fr_load rfl 48 (.tmp 4) rfl (g2 + 1) rfl 48 #[.bool Y1, .slice Y2 Y3 Y4, .bool Y5, .slice Y6 Y7 Y8, .bool U1, .slice U2 U3 U4, .bool U5, .slice U6 U7 U8] (0, 0) _ (hW.blk zR.out) Try.underlying48 rfl (by kernel_rfl) ⟨Ext.refl _, rfl⟩, ⟨fun W hW _ => ?b3,  ⟨fun W hW _ => ?b4, fun x4 => ⟨fun W hW hF => ?b5, fun x5 => ?_⟩⟩⟩⟩⟩⟩
  case b1 =>
    go_simp
    refine (km.out W).mono ?_
    rintro e w' ⟨rfl, h1⟩
    exact ⟨rfl, h1⟩
  case b3 =>
    go_simp
    refine (kr.out W).mono ?_
    rintro e w' ⟨rfl, h1⟩
    exact ⟨rfl, h1⟩
  case b4 =>
    have hs := mkHid ((Ext.refl W).al (.cells #[.int .i64 CM, .int .i64 CR] 3))
    have hsl := mkHid (show SlI CM CR (W.alloc (.cells #[.int .i64 CM, .int .i64 CR] 3)) (.slice (some ⟨W.heap.size, 0, none⟩) 2 2) from ⟨_, rfl, heap_alloc_new _ _⟩)
    go_simp
    exact ⟨hs.out, hsl.out⟩
  case b5 =>
    have dd : SlI CM CR W x4 := hF.1 (by kernel_rfl)
    obtain ⟨g, rfl, hg⟩ := dd
    clear hF
    go_simp
    refine (kb.out g W (by simp [World.cell?, hg]) (by simp [World.cell?, hg])).mono ?_
    rintro e w' ⟨v, rfl, e1, e2⟩
    exact ⟨v, rfl, e1, e2⟩
  intro W1 hW hF
  have hB : ByV (CM + CR) x5 := hF.1 rfl
  obtain ⟨rb, rfl, hB⟩ := hB
  clear hF
  replace hE := mkHid (hE.out.trans hW)
  replace hM := mkHid (hM.out.ext hW)
  replace hY := mkHid (hY.out.ext hW)
  replace zM := mkHid (hW.blk zM.out)
  replace zR := mkHid (hW.blk zR.out)
  clear hW km kr kb
  go_simp
  cases rb with
  | true =>
    clear hB
    go_wp2_with fail
    go_ret
    exact ⟨rfl, hE.out⟩
  | false =>
    clear hB
    go_wp2_with (first
      | (refine wpList_load_row rfl 40 (.tmp 3) rfl (g2) rfl 40 #[.bool A1, .slice A2 A3 A4, .bool A5, .slice A6 A7 A8, .bool B1, .slice B2 B3 B4, .bool B5, .slice B6 B7 B8, .bool C1, .slice C2 C3 C4, .bool C5, .slice C6 C7 C8, .bool D1, .slice D2 D3 D4, .bool D5, .slice D6 D7 D8] (0, 0) _ (zM.out) Try.underlying40 rfl (by kernel_rfl) ?_))
    refine (ko.out _ hM.out).mono ?_
    rintro e w3 ⟨rfl, hx⟩
    replace hE := mkHid (hE.out.trans hx)
    replace hM := mkHid (hM.out.ext hx)
    replace hY := mkHid (hY.out.ext hx)
    replace zM := mkHid (hx.blk zM.out)
    replace zR := mkHid (hx.blk zR.out)
    clear hx
    go_wp2_with (first
      | (refine wpList_load_row rfl 40 (.tmp 3) rfl (g2) rfl 40 #[.bool A1, .slice A2 A3 A4, .bool A5, .slice A6 A7 A8, .bool B1, .slice B2 B3 B4, .bool B5, .slice B6 B7 B8, .bool C1, .slice C2 C3 C4, .bool C5, .slice C6 C7 C8, .bool D1, .slice D2 D3 D4, .bool D5, .slice D6 D7 D8] (0, 0) _ (zM.out) Try.underlying40 rfl (by kernel_rfl) ?_)
      | (refine wpList_load_row rfl 48 (.tmp 4) rfl (g2 + 1) rfl 48 #[.bool Y1, .slice Y2 Y3 Y4, .bool Y5, .slice Y6 Y7 Y8, .bool U1, .slice U2 U3 U4, .bool U5, .slice U6 U7 U8] (0, 0) _ (zR.out) Try.underlying48 rfl (by kernel_rfl) ?_))
    refine (again_no _ _ _ _ _ _ oy ou _ hM.out hY.out (.inr hy.out)).mono ?_
    rintro e w4 ⟨rfl, hx⟩
    replace hE := mkHid (hE.out.trans hx)
    replace hM := mkHid (hM.out.ext hx)
    replace hY := mkHid (hY.out.ext hx)
    replace zM := mkHid (hx.blk zM.out)
    replace zR := mkHid (hx.blk zR.out)
    clear hx
    go_wp2_with fail
    refine (kl.out _).mono ?_
    rintro e wl ⟨rfl, hl⟩
    go_wp2_with fail
    go_ret
    exact ⟨rfl, hE.out.trans hl⟩
end Go.Proofs.Ytpmfohhpaoagfaa
namespace Go.Proofs.Ytpmfohhpaoagfaa
open Go Go.RowKit Go.Proofs
set_option maxRecDepth 100000 in
set_option maxHeartbeats 25600000 in
theorem returns_pp (n : Int) (v r : Value) (a b c d y u : Rat) (w : World) (h : AnyM w v (some a) (some b) (some c) (some d)) (hr : AnyY w r (some y) (some u)) (hdet : a * d - b * c = 1) (hO : 0 < ordM a b c d) :
    Calls Try.prog 6 #[v, r, .int .i64 n] w fun e w' => e = .returned (.bool true) ∧ Ext w w' := by
  have hM := mkHid h
  have hY := mkHid hr
  obtain ⟨A1, A2, A3, A4, A5, A6, A7, A8, B1, B2, B3, B4, B5, B6, B7, B8, C1, C2, C3, C4, C5, C6, C7, C8, D1, D2, D3, D4, D5, D6, D7, D8, rfl, h1, h2, h3, h4⟩ := h
  obtain ⟨Y1, Y2, Y3, Y4, Y5, Y6, Y7, Y8, U1, U2, U3, U4, U5, U6, U7, U8, rfl, h5, h6⟩ := hr
  have pA : A3 ≤ 140737488355328 := Nat.le_trans h1.lens.1 (by decide)
  have qA : A7 ≤ 140737488355328 := Nat.le_trans h1.lens.2 (by decide)
  have pB : B3 ≤ 140737488355328 := Nat.le_trans h2.lens.1 (by decide)
  have qB : B7 ≤ 140737488355328 := Nat.le_trans h2.lens.2 (by decide)
  have pC : C3 ≤ 140737488355328 := Nat.le_trans h3.lens.1 (by decide)
  have qC : C7 ≤ 140737488355328 := Nat.le_trans h3.lens.2 (by decide)
  have pD : D3 ≤ 140737488355328 := Nat.le_trans h4.lens.1 (by decide)
  have qD : D7 ≤ 140737488355328 := Nat.le_trans h4.lens.2 (by decide)
  have pY : Y3 ≤ 140737488355328 := Nat.le_trans h5.lens.1 (by decide)
  have qY : Y7 ≤ 140737488355328 := Nat.le_trans h5.lens.2 (by decide)
  have pU : U3 ≤ 140737488355328 := Nat.le_trans h6.lens.1 (by decide)
  have qU : U7 ≤ 140737488355328 := Nat.le_trans h6.lens.2 (by decide)
  clear h1 h2 h3 h4 h5 h6
  have kl := mkHid lives_c
  have km := mkHid (fun w => matrixCost_c A1 A2 A3 A4 A5 A6 A7 A8 B1 B2 B3 B4 B5 B6 B7 B8 C1 C2 C3 C4 C5 C6 C7 C8 D1 D2 D3 D4 D5 D6 D7 D8 w pA qA pB qB pC qC pD qD)
  have kr := mkHid (fun w => rayCost_c Y1 Y2 Y3 Y4 Y5 Y6 Y7 Y8 U1 U2 U3 U4 U5 U6 U7 U8 w pY qY pU qU)
  obtain ⟨cA1, cA2, cA3, cA4⟩ := costV_b A3 A7 pA qA
  obtain ⟨cB1, cB2, cB3, cB4⟩ := costV_b B3 B7 pB qB
  obtain ⟨cC1, cC2, cC3, cC4⟩ := costV_b C3 C7 pC qC
  obtain ⟨cD1, cD2, cD3, cD4⟩ := costV_b D3 D7 pD qD
  obtain ⟨cY1, cY2, cY3, cY4⟩ := costV_b Y3 Y7 pY qY
  obtain ⟨cU1, cU2, cU3, cU4⟩ := costV_b U3 U7 pU qU
  generalize costV A3 A7 = CA at *
  generalize costV B3 B7 = CB at *
  generalize costV C3 C7 = CC at *
  generalize costV D3 D7 = CD at *
  generalize costV Y3 Y7 = CY at *
  generalize costV U3 U7 = CU at *
  obtain ⟨CM, hCM⟩ : ∃ C : Int, C = CA + CB + CC + CD := ⟨_, rfl⟩
  obtain ⟨CR, hCR⟩ : ∃ C : Int, C = CY + CU := ⟨_, rfl⟩
  rw [← hCM] at km
  rw [← hCR] at kr
  have kb := mkHid (fun g w h h' => beyond2_c g 2 CM CR w (by omega) (by omega) (by omega) (by omega) h h')
  clear hCM hCR cA1 cA2 cA3 cA4 pA qA cB1 cB2 cB3 cB4 pB qB cC1 cC2 cC3 cC4 pC qC cD1 cD2 cD3 cD4 pD qD cY1 cY2 cY3 cY4 pY qY cU1 cU2 cU3 cU4 pU qU 
  have hm := mkHid (show okM (some a) (some b) (some c) (some d) = true by simpa [okM] using hdet)
  have on := ordM_nonneg a b c d
  have ko := mkHid (fun W h => order_yes (.agg #[.bool A1, .slice A2 A3 A4, .bool A5, .slice A6 A7 A8, .bool B1, .slice B2 B3 B4, .bool B5, .slice B6 B7 B8, .bool C1, .slice C2 C3 C4, .bool C5, .slice C6 C7 C8, .bool D1, .slice D2 D3 D4, .bool D5, .slice D6 D7 D8]) a b c d W h hdet)
  have ag := agM_facts a b c d y u
  have ka := mkHid (fun W h h' => again_fine (.agg #[.bool A1, .slice A2 A3 A4, .bool A5, .slice A6 A7 A8, .bool B1, .slice B2 B3 B4, .bool B5, .slice B6 B7 B8, .bool C1, .slice C2 C3 C4, .bool C5, .slice C6 C7 C8, .bool D1, .slice D2 D3 D4, .bool D5, .slice D6 D7 D8]) (.agg #[.bool Y1, .slice Y2 Y3 Y4, .bool Y5, .slice Y6 Y7 Y8, .bool U1, .slice U2 U3 U4, .bool U5, .slice U6 U7 U8]) a b c d y u W h h' hm.out)
  have d1 := fun (k : Nat) (hk : 1 ≤ k) => one_dec hdet hk
  have d2 := fun (k : Nat) (hk : 1 ≤ k) => back_dec (y := y) (w := u) hdet hk
  have kpw := mkHid (fun (k : Nat) W (hk : k ≤ 4096) h => power_fine k (.agg #[.bool A1, .slice A2 A3 A4, .bool A5, .slice A6 A7 A8, .bool B1, .slice B2 B3 B4, .bool B5, .slice B6 B7 B8, .bool C1, .slice C2 C3 C4, .bool C5, .slice C6 C7 C8, .bool D1, .slice D2 D3 D4, .bool D5, .slice D6 D7 D8]) a b c d W h hm.out hk)
  generalize ordM a b c d = O at *
  generalize agM a b c d y u = G at *
  obtain ⟨on1, on2⟩ := on
  obtain ⟨ag1, ag2, ag3⟩ := ag
  replace d1 := mkHid d1
  replace d2 := mkHid d2
  replace hdet := mkHid hdet
  replace ag3 := mkHid ag3
  have hE := mkHid (Ext.refl w)
  go_enter Try.func6, Try.ntmps6
  obtain ⟨w1, hw1⟩ : ∃ w1, w1 = (w.alloc (.cells #[.bool A1, .slice A2 A3 A4, .bool A5, .slice A6 A7 A8, .bool B1, .slice B2 B3 B4, .bool B5, .slice B6 B7 B8, .bool C1, .slice C2 C3 C4, .bool C5, .slice C6 C7 C8, .bool D1, .slice D2 D3 D4, .bool D5, .slice D6 D7 D8] 40)).alloc (.cells #[.bool Y1, .slice Y2 Y3 Y4, .bool Y5, .slice Y6 Y7 Y8, .bool U1, .slice U2 U3 U4, .bool U5, .slice U6 U7 U8] 48) := ⟨_, rfl⟩
  have hx : Ext w w1 := by rw [hw1]; exact (((Ext.refl w).al _).al _)
  have zM : w1.heap[w.heap.size]? = some (.cells #[.bool A1, .slice A2 A3 A4, .bool A5, .slice A6 A7 A8, .bool B1, .slice B2 B3 B4, .bool B5, .slice B6 B7 B8, .bool C1, .slice C2 C3 C4, .bool C5, .slice C6 C7 C8, .bool D1, .slice D2 D3 D4, .bool D5, .slice D6 D7 D8] 40 (0, 0)) := by rw [hw1]; exact (heap_alloc_old _ _ (by simp <;> omega)).trans (heap_at _ _ _ (by simp))
  have zR : w1.heap[w.heap.size + 1]? = some (.cells #[.bool Y1, .slice Y2 Y3 Y4, .bool Y5, .slice Y6 Y7 Y8, .bool U1, .slice U2 U3 U4, .bool U5, .slice U6 U7 U8] 48 (0, 0)) := by rw [hw1]; exact heap_at _ _ _ (by simp)
  obtain ⟨g2, hg2⟩ : ∃ g2, g2 = w.heap.size := ⟨_, rfl⟩
  rw [← hg2] at zM zR
  go_wp2_with (first
    | (refine wpList_load_row rfl 40 (.tmp 3) rfl (w.heap.size) rfl 40 #[.bool A1, .slice A2 A3 A4, .bool A5, .slice A6 A7 A8, .bool B1, .slice B2 B3 B4, .bool B5, .slice B6 B7 B8, .bool C1, .slice C2 C3 C4, .bool C5, .slice C6 C7 C8, .bool D1, .slice D2 D3 D4, .bool D5, .slice D6 D7 D8] (0, 0) _ ((heap_alloc_old _ _ (by simp <;> omega)).trans (heap_at _ _ _ (by simp))) Try.underlying40 rfl (by kernel_rfl) ?_)
    | (refine wpList_load_row rfl 48 (.tmp 4) rfl (w.heap.size + 1) rfl 48 #[.bool Y1, .slice Y2 Y3 Y4, .bool Y5, .slice Y6 Y7 Y8, .bool U1, .slice U2 U3 U4, .bool U5, .slice U6 U7 U8] (0, 0) _ (heap_at _ _ _ (by simp)) Try.underlying48 rfl (by kernel_rfl) ?_))
  rw [← hg2, ← hw1]
  clear hg2 hw1
  replace hE := mkHid (hE.out.trans hx)
  replace hM := mkHid (hM.out.ext hx)
  replace hY := mkHid (hY.out.ext hx)
  clear hx
  replace zM := mkHid zM
  replace zR := mkHid zR
  apply region_ext [.val (.agg #[.bool A1, .slice A2 A3 A4, .bool A5, .slice A6 A7 A8, .bool B1, .slice B2 B3 B4, .bool B5, .slice B6 B7 B8, .bool C1, .slice C2 C3 C4, .bool C5, .slice C6 C7 C8, .bool D1, .slice D2 D3 D4, .bool D5, .slice D6 D7 D8]), .val (.int .i64 CM), .val (.agg #[.bool Y1, .slice Y2 Y3 Y4, .bool Y5, .slice Y6 Y7 Y8, .bool U1, .slice U2 U3 U4, .bool U5, .slice U6 U7 U8]), .val (.int .i64 CR), .pred (SlI CM CR), .pred (fun _ v => ByV (CM + CR) v)] (by kernel_rfl) (stable_vals _ (stable_vals _ (stable_vals _ (stable_vals _ (st_slI _ _ (st_byV _ trivial))))))
  refine ⟨fun W hW _ => fr_load rfl 40 (.tmp 3) rfl (g2) rfl 40 #[.bool A1, .slice A2 A3 A4, .bool A5, .slice A6 A7 A8, .bool B1, .slice B2 B3 B4, .bool B5, .slice B6 B7 B8, .bool C1, .slice C2 C3 C4, .bool C5, .slice C6 C7 C8, .bool D1, .slice D2 D3 D4, .bool D5, .slice D6 D7 D8] (0, 0) _ (hW.blk zM.out) Try.underlying40 rfl (by kernel_rfl) ⟨Ext.refl _, rfl⟩, ⟨fun W hW _ => ?b1, ⟨fun W hW _ => fr_load rfl 48 (.tmp 4) rfl (g2 + 1) rfl 48 #[.bool Y1, .slice Y2 Y3 Y4, .bool Y5, .slice Y6 Y7 Y8, .bool U1, .slice U2 U3 U4, .bool U5, .slice U6 U7 U8] (0, 0) _ (hW.blk zR.out) Try.underlying48 rfl (by kernel_rfl) ⟨Ext.refl _, rfl⟩, ⟨fun W hW _ => ?b3,  ⟨fun W hW _ => ?b4, fun x4 => ⟨fun W hW hF => ?b5, fun x5 => ?_⟩⟩⟩⟩⟩⟩
  case b1 =>
    go_simp
    refine (km.out W).mono ?_
    rintro e w' ⟨rfl, h1⟩
    exact ⟨rfl, h1⟩
  case b3 =>
    go_simp
    refine (kr.out W).mono ?_
    rintro e w' ⟨rfl, h1⟩
    exact ⟨rfl, h1⟩
  case b4 =>
    have hs := mkHid ((Ext.refl W).al (.cells #[.int .i64 CM, .int .i64 CR] 3))
    have hsl := mkHid (show SlI CM CR (W.alloc (.cells #[.int .i64 CM, .int .i64 CR] 3)) (.slice (some ⟨W.heap.size, 0, none⟩) 2 2) from ⟨_, rfl, heap_alloc_new _ _⟩)
    go_simp
    exact ⟨hs.out, hsl.out⟩
  case b5 =>
    have dd : SlI CM CR W x4 := hF.1 (by kernel_rfl)
    obtain ⟨g, rfl, hg⟩ := dd
    clear hF
    go_simp
    refine (kb.out g W (by simp [World.cell?, hg]) (by simp [World.cell?, hg])).mono ?_
    rintro e w' ⟨v, rfl, e1, e2⟩
    exact ⟨v, rfl, e1, e2⟩
  intro W1 hW hF
  have hB : ByV (CM + CR) x5 := hF.1 rfl
  obtain ⟨rb, rfl, hB⟩ := hB
  clear hF
  replace hE := mkHid (hE.out.trans hW)
  replace hM := mkHid (hM.out.ext hW)
  replace hY := mkHid (hY.out.ext hW)
  replace zM := mkHid (hW.blk zM.out)
  replace zR := mkHid (hW.blk zR.out)
  clear hW km kr kb
  go_simp
  cases rb with
  | true =>
    clear hB
    go_wp2_with fail
    go_ret
    exact ⟨rfl, hE.out⟩
  | false =>
    clear hB
    go_wp2_with (first
      | (refine wpList_load_row rfl 40 (.tmp 3) rfl (g2) rfl 40 #[.bool A1, .slice A2 A3 A4, .bool A5, .slice A6 A7 A8, .bool B1, .slice B2 B3 B4, .bool B5, .slice B6 B7 B8, .bool C1, .slice C2 C3 C4, .bool C5, .slice C6 C7 C8, .bool D1, .slice D2 D3 D4, .bool D5, .slice D6 D7 D8] (0, 0) _ (zM.out) Try.underlying40 rfl (by kernel_rfl) ?_))
    refine (ko.out _ hM.out).mono ?_
    rintro e w3 ⟨rfl, hx⟩
    replace hE := mkHid (hE.out.trans hx)
    replace hM := mkHid (hM.out.ext hx)
    replace hY := mkHid (hY.out.ext hx)
    replace zM := mkHid (hx.blk zM.out)
    replace zR := mkHid (hx.blk zR.out)
    clear hx
    go_wp2_with (first
      | (refine wpList_load_row rfl 40 (.tmp 3) rfl (g2) rfl 40 #[.bool A1, .slice A2 A3 A4, .bool A5, .slice A6 A7 A8, .bool B1, .slice B2 B3 B4, .bool B5, .slice B6 B7 B8, .bool C1, .slice C2 C3 C4, .bool C5, .slice C6 C7 C8, .bool D1, .slice D2 D3 D4, .bool D5, .slice D6 D7 D8] (0, 0) _ (zM.out) Try.underlying40 rfl (by kernel_rfl) ?_)
      | (refine wpList_load_row rfl 48 (.tmp 4) rfl (g2 + 1) rfl 48 #[.bool Y1, .slice Y2 Y3 Y4, .bool Y5, .slice Y6 Y7 Y8, .bool U1, .slice U2 U3 U4, .bool U5, .slice U6 U7 U8] (0, 0) _ (zR.out) Try.underlying48 rfl (by kernel_rfl) ?_))
    refine (ka.out _ hM.out hY.out).mono ?_
    rintro e w4 ⟨rfl, hx⟩
    replace hE := mkHid (hE.out.trans hx)
    replace hM := mkHid (hM.out.ext hx)
    replace hY := mkHid (hY.out.ext hx)
    replace zM := mkHid (hx.blk zM.out)
    replace zR := mkHid (hx.blk zR.out)
    clear hx
    clear ko ka
    have hO0 : ¬ O = 0 := by omega
    obtain ⟨hGp, hOG⟩ := ag3.out hO
    have hG0 : ¬ G = 0 := by omega
    have hGb : (G == 0) = false := by rw [beq_eq_false_iff_ne]; exact hG0
    have hrem : Int.tmod O G = 0 := by rw [Int.tmod_eq_emod_of_nonneg (by omega)]; exact hOG
    replace hOG := mkHid hOG
    clear ag3
    go_wp2_with fail
    clear hrem
    go_loopw [11] (fun i wr => ∃ k : Nat, i = .int .i64 (k : Nat) ∧ 1 ≤ k ∧ k ≤ 61 ∧ Ext w4 wr) (fun i _ => 61 - (intOf i).toNat)
    case atStart => exact ⟨1, rfl, by omega, by omega, Ext.refl _⟩
    case round =>
      obtain ⟨k, rfl, hk1, hk2, hX⟩ := hrel
      replace hE := mkHid (hE.out.trans hX)
      replace hM := mkHid (hM.out.ext hX)
      replace hY := mkHid (hY.out.ext hX)
      replace zM := mkHid (hX.blk zM.out)
      replace zR := mkHid (hX.blk zR.out)
      replace hX := mkHid hX
      by_cases hn : (k : Int) ≤ n
      case neg =>
        go_wp2_with fail
        refine (kl.out _).mono ?_
        rintro e wl ⟨rfl, hl⟩
        go_wp2_with fail
        go_ret
        exact ⟨rfl, hE.out.trans hl⟩
      by_cases h60 : k ≤ 60
      case neg =>
        obtain rfl : k = 61 := by omega
        go_wp2_with fail
        refine (kl.out _).mono ?_
        rintro e wl ⟨rfl, hl⟩
        go_wp2_with fail
        go_ret
        exact ⟨rfl, hE.out.trans hl⟩
      have kp := mkHid (fun W h => kpw.out k W (by omega) h)
      have b1 := d1.out k hk1
      have b2 := d2.out k hk1
      have ep := @powE_ok k a b c d
      have hdp := hdet.out
      clear kpw d1 d2
      obtain ⟨RM, hRM⟩ : ∃ R : Int, Int.tmod (k : Int) O = R := ⟨_, rfl⟩
      have eRM : RM = (k : Int) % O := by rw [← hRM, Int.tmod_eq_emod_of_nonneg (by omega)]
      have wRM : IntKind.i64.wrap RM = RM := by
        rw [IntKind.wrap_i64]
        have := Int.emod_nonneg (k : Int) hO0
        have := Int.emod_lt_of_pos (k : Int) (show 0 < O by omega)
        omega
      rw [show decide (0 < O ∧ (k : Int) % O = 0) = decide (RM = 0) from decide_eq_decide.2 ⟨fun h => by rw [eRM]; exact h.2, fun h => ⟨by omega, by rw [← eRM]; exact h⟩⟩] at b1
      clear eRM
      obtain ⟨RG, hRG⟩ : ∃ R : Int, Int.tmod (k : Int) G = R := ⟨_, rfl⟩
      have eRG : RG = (k : Int) % G := by rw [← hRG, Int.tmod_eq_emod_of_nonneg (by omega)]
      have wRG : IntKind.i64.wrap RG = RG := by
        rw [IntKind.wrap_i64]
        have := Int.emod_nonneg (k : Int) hG0
        have := Int.emod_lt_of_pos (k : Int) (show 0 < G by omega)
        omega
      rw [show decide (0 < G ∧ (k : Int) % G = 0) = decide (RG = 0) from decide_eq_decide.2 ⟨fun h => by rw [eRG]; exact h.2, fun h => ⟨by omega, by rw [← eRG]; exact h⟩⟩] at b2
      clear eRG
      replace b1 := mkHid b1
      replace b2 := mkHid b2
      replace hdp := mkHid hdp
      obtain ⟨E1, hE1⟩ : ∃ E, E = powE k a b c d := ⟨_, rfl⟩
      rw [← hE1] at kp ep
      clear hE1
      generalize powOA k a b c d = OA at *
      generalize powOB k a b c d = OB at *
      generalize powOC k a b c d = OC at *
      generalize powOD k a b c d = OD at *
      replace ep := mkHid ep
      go_wp2_with (first
        | (refine wpList_load_row rfl 40 (.tmp 3) rfl (g2) rfl 40 #[.bool A1, .slice A2 A3 A4, .bool A5, .slice A6 A7 A8, .bool B1, .slice B2 B3 B4, .bool B5, .slice B6 B7 B8, .bool C1, .slice C2 C3 C4, .bool C5, .slice C6 C7 C8, .bool D1, .slice D2 D3 D4, .bool D5, .slice D6 D7 D8] (0, 0) _ (zM.out) Try.underlying40 rfl (by kernel_rfl) ?_))
      refine (kp.out _ hM.out).mono ?_
      rintro e w5 ⟨vp, rfl, hx, hp⟩
      replace hE := mkHid (hE.out.trans hx)
      replace hM := mkHid (hM.out.ext hx)
      replace hY := mkHid (hY.out.ext hx)
      replace zM := mkHid (hx.blk zM.out)
      replace zR := mkHid (hx.blk zR.out)
      replace hX := mkHid (hX.out.trans hx)
      clear hx
      replace hp := mkHid hp
      clear kp
      have hp' := hp.out
      obtain ⟨P1, P2, P3, P4, P5, P6, P7, P8, Q1, Q2, Q3, Q4, Q5, Q6, Q7, Q8, S1, S2, S3, S4, S5, S6, S7, S8, T1, T2, T3, T4, T5, T6, T7, T8, rfl, -⟩ := hp'
      by_cases u1 : E1 = 0
      case neg =>
        have u2 : (E1 == 0) = false := by rw [beq_eq_false_iff_ne]; exact u1
        replace u1 := mkHid u1
        go_wp2_with fail
        refine (kl.out _).mono ?_
        rintro e wl ⟨rfl, hl⟩
        go_wp2_with fail
        go_ret
        exact ⟨rfl, hE.out.trans (((Ext.refl _).al _).trans hl)⟩
      obtain ⟨rfl, rfl, rfl, rfl⟩ := ep.out u1
      subst u1
      clear ep
      generalize pwA k a d = PA at *
      generalize pwX k a d b = PB at *
      generalize pwX k a d c = PC at *
      generalize pwA k d a = PD at *
      have ki := mkHid (fun w => matrix_f 1 0 0 1 w (by omega) (by omega) (by omega) (by omega) (by omega) (by omega) (by omega) (by omega))
      rw [show Rat.divInt 1 1 = 1 by kernel_rfl, show Rat.divInt 0 1 = 0 by kernel_rfl] at ki
      have ks := mkHid (fun W v v' h h' => sameMatrix_f v v' PA PB PC PD 1 0 0 1 W h h')
      rw [b1.out] at ks
      obtain ⟨BM, hBM⟩ : ∃ B : Bool, (RM == 0) = B := ⟨_, rfl⟩
      rw [← sign_beq (Iff.rfl : RM = 0 ↔ RM = 0), hBM] at ks
      obtain ⟨w6, hw6⟩ : ∃ w6, w6 = w5.alloc (.cells #[.bool P1, .slice P2 P3 P4, .bool P5, .slice P6 P7 P8, .bool Q1, .slice Q2 Q3 Q4, .bool Q5, .slice Q6 Q7 Q8, .bool S1, .slice S2 S3 S4, .bool S5, .slice S6 S7 S8, .bool T1, .slice T2 T3 T4, .bool T5, .slice T6 T7 T8] 40) := ⟨_, rfl⟩
      have hx : Ext w5 w6 := by rw [hw6]; exact ((Ext.refl w5).al _)
      have zP : w6.heap[w5.heap.size]? = some (.cells #[.bool P1, .slice P2 P3 P4, .bool P5, .slice P6 P7 P8, .bool Q1, .slice Q2 Q3 Q4, .bool Q5, .slice Q6 Q7 Q8, .bool S1, .slice S2 S3 S4, .bool S5, .slice S6 S7 S8, .bool T1, .slice T2 T3 T4, .bool T5, .slice T6 T7 T8] 40 (0, 0)) := by rw [hw6]; exact heap_at _ _ _ (by simp)
      obtain ⟨g7, hg7⟩ : ∃ g7, g7 = w5.heap.size := ⟨_, rfl⟩
      rw [← hg7] at zP
      go_wp2_with (first
        | (refine wpList_load_row rfl 40 (.tmp 12) rfl (w5.heap.size) rfl 40 #[.bool P1, .slice P2 P3 P4, .bool P5, .slice P6 P7 P8, .bool Q1, .slice Q2 Q3 Q4, .bool Q5, .slice Q6 Q7 Q8, .bool S1, .slice S2 S3 S4, .bool S5, .slice S6 S7 S8, .bool T1, .slice T2 T3 T4, .bool T5, .slice T6 T7 T8] (0, 0) _ (heap_at _ _ _ (by simp)) Try.underlying40 rfl (by kernel_rfl) ?_))
      rw [← hg7, ← hw6]
      clear hg7 hw6
      replace hE := mkHid (hE.out.trans hx)
      replace hM := mkHid (hM.out.ext hx)
      replace hY := mkHid (hY.out.ext hx)
      replace zM := mkHid (hx.blk zM.out)
      replace zR := mkHid (hx.blk zR.out)
      replace hX := mkHid (hX.out.trans hx)
      replace hp := mkHid (hp.out.ext hx)
      clear hx
      replace zP := mkHid zP
      apply region_ext [.val (.agg #[.bool P1, .slice P2 P3 P4, .bool P5, .slice P6 P7 P8, .bool Q1, .slice Q2 Q3 Q4, .bool Q5, .slice Q6 Q7 Q8, .bool S1, .slice S2 S3 S4, .bool S5, .slice S6 S7 S8, .bool T1, .slice T2 T3 T4, .bool T5, .slice T6 T7 T8]), .pred (fun W v => AnyM W v (some 1) (some 0) (some 0) (some 1)), .val (.bool BM), .val _] (by kernel_rfl) (stable_vals _ (st_anyM _ _ _ _ (stable_vals _ (stable_vals _ trivial))))
      refine ⟨fun W hW _ => fr_load rfl 40 (.tmp 12) rfl (g7) rfl 40 #[.bool P1, .slice P2 P3 P4, .bool P5, .slice P6 P7 P8, .bool Q1, .slice Q2 Q3 Q4, .bool Q5, .slice Q6 Q7 Q8, .bool S1, .slice S2 S3 S4, .bool S5, .slice S6 S7 S8, .bool T1, .slice T2 T3 T4, .bool T5, .slice T6 T7 T8] (0, 0) _ (hW.blk zP.out) Try.underlying40 rfl (by kernel_rfl) ⟨Ext.refl _, rfl⟩, ⟨fun W hW _ => ?b1, fun x1 => ⟨fun W hW hF => ?b2, ⟨fun W hW _ => by go_simp; first | exact ⟨Ext.refl _, rfl⟩ | exact Ext.refl _, fun W2 hW _ => ?fin⟩⟩⟩⟩
      case b1 =>
        go_simp
        refine (ki.out W).mono ?_
        rintro e w' ⟨v, rfl, e1, e2⟩
        exact ⟨v, rfl, e1, e2⟩
      case b2 =>
        have dd : AnyM W x1 (some 1) (some 0) (some 0) (some 1) := hF.1 (by kernel_rfl)
        replace dd := mkHid dd
        clear hF
        go_simp
        refine (ks.out W _ _ (hp.out.ext hW) dd.out).mono ?_
        rintro e w' ⟨rfl, e1⟩
        exact ⟨rfl, e1⟩
      case fin =>
        replace hE := mkHid (hE.out.trans hW)
        replace hM := mkHid (hM.out.ext hW)
        replace hY := mkHid (hY.out.ext hW)
        replace zM := mkHid (hW.blk zM.out)
        replace zR := mkHid (hW.blk zR.out)
        replace hX := mkHid (hX.out.trans hW)
        replace hp := mkHid (hp.out.ext hW)
        replace zP := mkHid (hW.blk zP.out)
        clear hW ki ks
        have kt := mkHid (fun W h h' => through_c (.agg #[.bool P1, .slice P2 P3 P4, .bool P5, .slice P6 P7 P8, .bool Q1, .slice Q2 Q3 Q4, .bool Q5, .slice Q6 Q7 Q8, .bool S1, .slice S2 S3 S4, .bool S5, .slice S6 S7 S8, .bool T1, .slice T2 T3 T4, .bool T5, .slice T6 T7 T8]) (.agg #[.bool Y1, .slice Y2 Y3 Y4, .bool Y5, .slice Y6 Y7 Y8, .bool U1, .slice U2 U3 U4, .bool U5, .slice U6 U7 U8]) (some PA) (some PB) (some PC) (some PD) (some y) (some u) W h h')
        have et := @thE_ok PA PB PC PD y u
        generalize thE (some PA) (some PB) (some PC) (some PD) (some y) (some u) = E2 at *
        generalize thY (some PA) (some PB) (some PC) (some PD) (some y) (some u) = OY at *
        generalize thU (some PA) (some PB) (some PC) (some PD) (some y) (some u) = OU at *
        replace et := mkHid et
        go_simp
        go_wp2_with (first
          | (refine wpList_load_row rfl 40 (.tmp 12) rfl (g7) rfl 40 #[.bool P1, .slice P2 P3 P4, .bool P5, .slice P6 P7 P8, .bool Q1, .slice Q2 Q3 Q4, .bool Q5, .slice Q6 Q7 Q8, .bool S1, .slice S2 S3 S4, .bool S5, .slice S6 S7 S8, .bool T1, .slice T2 T3 T4, .bool T5, .slice T6 T7 T8] (0, 0) _ (zP.out) Try.underlying40 rfl (by kernel_rfl) ?_)
          | (refine wpList_load_row rfl 48 (.tmp 4) rfl (g2 + 1) rfl 48 #[.bool Y1, .slice Y2 Y3 Y4, .bool Y5, .slice Y6 Y7 Y8, .bool U1, .slice U2 U3 U4, .bool U5, .slice U6 U7 U8] (0, 0) _ (zR.out) Try.underlying48 rfl (by kernel_rfl) ?_))
        refine (kt.out _ hp.out hY.out).mono ?_
        rintro e w8 ⟨vt, rfl, hx, ht⟩
        replace hE := mkHid (hE.out.trans hx)
        replace hM := mkHid (hM.out.ext hx)
        replace hY := mkHid (hY.out.ext hx)
        replace zM := mkHid (hx.blk zM.out)
        replace zR := mkHid (hx.blk zR.out)
        replace hX := mkHid (hX.out.trans hx)
        replace hp := mkHid (hp.out.ext hx)
        replace zP := mkHid (hx.blk zP.out)
        clear hx
        replace ht := mkHid ht
        clear kt
        clear hp zP
        have ht' := ht.out
        obtain ⟨K1, K2, K3, K4, K5, K6, K7, K8, N1, N2, N3, N4, N5, N6, N7, N8, rfl, -⟩ := ht'
        by_cases u1 : E2 = 0
        case neg =>
          have u2 : (E2 == 0) = false := by rw [beq_eq_false_iff_ne]; exact u1
          replace u1 := mkHid u1
          go_wp2_with fail
          refine (kl.out _).mono ?_
          rintro e wl ⟨rfl, hl⟩
          go_wp2_with fail
          go_ret
          exact ⟨rfl, hE.out.trans (((Ext.refl _).al _).trans hl)⟩
        obtain ⟨rfl, rfl, _⟩ := et.out u1
        subst u1
        clear et
        have ks := mkHid (fun W v v' h h' => sameRay_f v v' (PA * y + PB * u) (PC * y + PD * u) y u W h h')
        rw [b2.out] at ks
        obtain ⟨BG, hBG⟩ : ∃ B : Bool, (RG == 0) = B := ⟨_, rfl⟩
        rw [← sign_beq (Iff.rfl : RG = 0 ↔ RG = 0), hBG] at ks
        obtain ⟨w9, hw9⟩ : ∃ w9, w9 = w8.alloc (.cells #[.bool K1, .slice K2 K3 K4, .bool K5, .slice K6 K7 K8, .bool N1, .slice N2 N3 N4, .bool N5, .slice N6 N7 N8] 48) := ⟨_, rfl⟩
        have hx : Ext w8 w9 := by rw [hw9]; exact ((Ext.refl w8).al _)
        have zT : w9.heap[w8.heap.size]? = some (.cells #[.bool K1, .slice K2 K3 K4, .bool K5, .slice K6 K7 K8, .bool N1, .slice N2 N3 N4, .bool N5, .slice N6 N7 N8] 48 (0, 0)) := by rw [hw9]; exact heap_at _ _ _ (by simp)
        obtain ⟨g10, hg10⟩ : ∃ g10, g10 = w8.heap.size := ⟨_, rfl⟩
        rw [← hg10] at zT
        have ltR : g2 + 1 < w8.heap.size := (Array.getElem?_eq_some_iff.1 zR.out).1
        go_wp2_with (first
          | (refine wpList_load_row rfl 48 (.tmp 4) rfl (g2 + 1) rfl 48 #[.bool Y1, .slice Y2 Y3 Y4, .bool Y5, .slice Y6 Y7 Y8, .bool U1, .slice U2 U3 U4, .bool U5, .slice U6 U7 U8] (0, 0) _ ((heap_alloc_old _ _ (by first | omega | (simp <;> omega))).trans (zR.out)) Try.underlying48 rfl (by kernel_rfl) ?_)
          | (refine wpList_load_row rfl 48 (.tmp 15) rfl (w8.heap.size) rfl 48 #[.bool K1, .slice K2 K3 K4, .bool K5, .slice K6 K7 K8, .bool N1, .slice N2 N3 N4, .bool N5, .slice N6 N7 N8] (0, 0) _ (heap_at _ _ _ (by simp)) Try.underlying48 rfl (by kernel_rfl) ?_))
        rw [← hg10, ← hw9]
        clear ltR
        clear hg10 hw9
        replace hE := mkHid (hE.out.trans hx)
        replace hM := mkHid (hM.out.ext hx)
        replace hY := mkHid (hY.out.ext hx)
        replace zM := mkHid (hx.blk zM.out)
        replace zR := mkHid (hx.blk zR.out)
        replace hX := mkHid (hX.out.trans hx)
        replace ht := mkHid (ht.out.ext hx)
        clear hx
        replace zT := mkHid zT
        refine (ks.out _ _ _ ht.out hY.out).mono ?_
        rintro e w11 ⟨rfl, hx⟩
        replace hE := mkHid (hE.out.trans hx)
        replace hM := mkHid (hM.out.ext hx)
        replace hY := mkHid (hY.out.ext hx)
        replace zM := mkHid (hx.blk zM.out)
        replace zR := mkHid (hx.blk zR.out)
        replace hX := mkHid (hX.out.trans hx)
        replace ht := mkHid (ht.out.ext hx)
        replace zT := mkHid (hx.blk zT.out)
        clear hx
        clear ks
        go_wp2_with fail
        go_roundw
        case rel => exact ⟨k + 1, by go_num, by omega, by omega, hX.out⟩
        case measure => simp [intOf] <;> omega
end Go.Proofs.Ytpmfohhpaoagfaa
namespace Go.Proofs.Ytpmfohhpaoagfaa
open Go Go.RowKit Go.Proofs
set_option maxRecDepth 100000 in
set_option maxHeartbeats 25600000 in
theorem returns_zp (n : Int) (v r : Value) (a b c d y u : Rat) (w : World) (h : AnyM w v (some a) (some b) (some c) (some d)) (hr : AnyY w r (some y) (some u)) (hdet : a * d - b * c = 1) (hO : ¬ 0 < ordM a b c d) (hG : 0 < agM a b c d y u) :
    Calls Try.prog 6 #[v, r, .int .i64 n] w fun e w' => e = .returned (.bool true) ∧ Ext w w' := by
  have hM := mkHid h
  have hY := mkHid hr
  obtain ⟨A1, A2, A3, A4, A5, A6, A7, A8, B1, B2, B3, B4, B5, B6, B7, B8, C1, C2, C3, C4, C5, C6, C7, C8, D1, D2, D3, D4, D5, D6, D7, D8, rfl, h1, h2, h3, h4⟩ := h
  obtain ⟨Y1, Y2, Y3, Y4, Y5, Y6, Y7, Y8, U1, U2, U3, U4, U5, U6, U7, U8, rfl, h5, h6⟩ := hr
  have pA : A3 ≤ 140737488355328 := Nat.le_trans h1.lens.1 (by decide)
  have qA : A7 ≤ 140737488355328 := Nat.le_trans h1.lens.2 (by decide)
  have pB : B3 ≤ 140737488355328 := Nat.le_trans h2.lens.1 (by decide)
  have qB : B7 ≤ 140737488355328 := Nat.le_trans h2.lens.2 (by decide)
  have pC : C3 ≤ 140737488355328 := Nat.le_trans h3.lens.1 (by decide)
  have qC : C7 ≤ 140737488355328 := Nat.le_trans h3.lens.2 (by decide)
  have pD : D3 ≤ 140737488355328 := Nat.le_trans h4.lens.1 (by decide)
  have qD : D7 ≤ 140737488355328 := Nat.le_trans h4.lens.2 (by decide)
  have pY : Y3 ≤ 140737488355328 := Nat.le_trans h5.lens.1 (by decide)
  have qY : Y7 ≤ 140737488355328 := Nat.le_trans h5.lens.2 (by decide)
  have pU : U3 ≤ 140737488355328 := Nat.le_trans h6.lens.1 (by decide)
  have qU : U7 ≤ 140737488355328 := Nat.le_trans h6.lens.2 (by decide)
  clear h1 h2 h3 h4 h5 h6
  have kl := mkHid lives_c
  have km := mkHid (fun w => matrixCost_c A1 A2 A3 A4 A5 A6 A7 A8 B1 B2 B3 B4 B5 B6 B7 B8 C1 C2 C3 C4 C5 C6 C7 C8 D1 D2 D3 D4 D5 D6 D7 D8 w pA qA pB qB pC qC pD qD)
  have kr := mkHid (fun w => rayCost_c Y1 Y2 Y3 Y4 Y5 Y6 Y7 Y8 U1 U2 U3 U4 U5 U6 U7 U8 w pY qY pU qU)
  obtain ⟨cA1, cA2, cA3, cA4⟩ := costV_b A3 A7 pA qA
  obtain ⟨cB1, cB2, cB3, cB4⟩ := costV_b B3 B7 pB qB
  obtain ⟨cC1, cC2, cC3, cC4⟩ := costV_b C3 C7 pC qC
  obtain ⟨cD1, cD2, cD3, cD4⟩ := costV_b D3 D7 pD qD
  obtain ⟨cY1, cY2, cY3, cY4⟩ := costV_b Y3 Y7 pY qY
  obtain ⟨cU1, cU2, cU3, cU4⟩ := costV_b U3 U7 pU qU
  generalize costV A3 A7 = CA at *
  generalize costV B3 B7 = CB at *
  generalize costV C3 C7 = CC at *
  generalize costV D3 D7 = CD at *
  generalize costV Y3 Y7 = CY at *
  generalize costV U3 U7 = CU at *
  obtain ⟨CM, hCM⟩ : ∃ C : Int, C = CA + CB + CC + CD := ⟨_, rfl⟩
  obtain ⟨CR, hCR⟩ : ∃ C : Int, C = CY + CU := ⟨_, rfl⟩
  rw [← hCM] at km
  rw [← hCR] at kr
  have kb := mkHid (fun g w h h' => beyond2_c g 2 CM CR w (by omega) (by omega) (by omega) (by omega) h h')
  clear hCM hCR cA1 cA2 cA3 cA4 pA qA cB1 cB2 cB3 cB4 pB qB cC1 cC2 cC3 cC4 pC qC cD1 cD2 cD3 cD4 pD qD cY1 cY2 cY3 cY4 pY qY cU1 cU2 cU3 cU4 pU qU 
  have hm := mkHid (show okM (some a) (some b) (some c) (some d) = true by simpa [okM] using hdet)
  have on := ordM_nonneg a b c d
  have ko := mkHid (fun W h => order_yes (.agg #[.bool A1, .slice A2 A3 A4, .bool A5, .slice A6 A7 A8, .bool B1, .slice B2 B3 B4, .bool B5, .slice B6 B7 B8, .bool C1, .slice C2 C3 C4, .bool C5, .slice C6 C7 C8, .bool D1, .slice D2 D3 D4, .bool D5, .slice D6 D7 D8]) a b c d W h hdet)
  have ag := agM_facts a b c d y u
  have ka := mkHid (fun W h h' => again_fine (.agg #[.bool A1, .slice A2 A3 A4, .bool A5, .slice A6 A7 A8, .bool B1, .slice B2 B3 B4, .bool B5, .slice B6 B7 B8, .bool C1, .slice C2 C3 C4, .bool C5, .slice C6 C7 C8, .bool D1, .slice D2 D3 D4, .bool D5, .slice D6 D7 D8]) (.agg #[.bool Y1, .slice Y2 Y3 Y4, .bool Y5, .slice Y6 Y7 Y8, .bool U1, .slice U2 U3 U4, .bool U5, .slice U6 U7 U8]) a b c d y u W h h' hm.out)
  have d1 := fun (k : Nat) (hk : 1 ≤ k) => one_dec hdet hk
  have d2 := fun (k : Nat) (hk : 1 ≤ k) => back_dec (y := y) (w := u) hdet hk
  have kpw := mkHid (fun (k : Nat) W (hk : k ≤ 4096) h => power_fine k (.agg #[.bool A1, .slice A2 A3 A4, .bool A5, .slice A6 A7 A8, .bool B1, .slice B2 B3 B4, .bool B5, .slice B6 B7 B8, .bool C1, .slice C2 C3 C4, .bool C5, .slice C6 C7 C8, .bool D1, .slice D2 D3 D4, .bool D5, .slice D6 D7 D8]) a b c d W h hm.out hk)
  generalize ordM a b c d = O at *
  generalize agM a b c d y u = G at *
  obtain ⟨on1, on2⟩ := on
  obtain ⟨ag1, ag2, ag3⟩ := ag
  replace d1 := mkHid d1
  replace d2 := mkHid d2
  replace hdet := mkHid hdet
  replace ag3 := mkHid ag3
  have hE := mkHid (Ext.refl w)
  go_enter Try.func6, Try.ntmps6
  obtain ⟨w1, hw1⟩ : ∃ w1, w1 = (w.alloc (.cells #[.bool A1, .slice A2 A3 A4, .bool A5, .slice A6 A7 A8, .bool B1, .slice B2 B3 B4, .bool B5, .slice B6 B7 B8, .bool C1, .slice C2 C3 C4, .bool C5, .slice C6 C7 C8, .bool D1, .slice D2 D3 D4, .bool D5, .slice D6 D7 D8] 40)).alloc (.cells #[.bool Y1, .slice Y2 Y3 Y4, .bool Y5, .slice Y6 Y7 Y8, .bool U1, .slice U2 U3 U4, .bool U5, .slice U6 U7 U8] 48) := ⟨_, rfl⟩
  have hx : Ext w w1 := by rw [hw1]; exact (((Ext.refl w).al _).al _)
  have zM : w1.heap[w.heap.size]? = some (.cells #[.bool A1, .slice A2 A3 A4, .bool A5, .slice A6 A7 A8, .bool B1, .slice B2 B3 B4, .bool B5, .slice B6 B7 B8, .bool C1, .slice C2 C3 C4, .bool C5, .slice C6 C7 C8, .bool D1, .slice D2 D3 D4, .bool D5, .slice D6 D7 D8] 40 (0, 0)) := by rw [hw1]; exact (heap_alloc_old _ _ (by simp <;> omega)).trans (heap_at _ _ _ (by simp))
  have zR : w1.heap[w.heap.size + 1]? = some (.cells #[.bool Y1, .slice Y2 Y3 Y4, .bool Y5, .slice Y6 Y7 Y8, .bool U1, .slice U2 U3 U4, .bool U5, .slice U6 U7 U8] 48 (0, 0)) := by rw [hw1]; exact heap_at _ _ _ (by simp)
  obtain ⟨g2, hg2⟩ : ∃ g2, g2 = w.heap.size := ⟨_, rfl⟩
  rw [← hg2] at zM zR
  go_wp2_with (first
    | (refine wpList_load_row rfl 40 (.tmp 3) rfl (w.heap.size) rfl 40 #[.bool A1, .slice A2 A3 A4, .bool A5, .slice A6 A7 A8, .bool B1, .slice B2 B3 B4, .bool B5, .slice B6 B7 B8, .bool C1, .slice C2 C3 C4, .bool C5, .slice C6 C7 C8, .bool D1, .slice D2 D3 D4, .bool D5, .slice D6 D7 D8] (0, 0) _ ((heap_alloc_old _ _ (by simp <;> omega)).trans (heap_at _ _ _ (by simp))) Try.underlying40 rfl (by kernel_rfl) ?_)
    | (refine wpList_load_row rfl 48 (.tmp 4) rfl (w.heap.size + 1) rfl 48 #[.bool Y1, .slice Y2 Y3 Y4, .bool Y5, .slice Y6 Y7 Y8, .bool U1, .slice U2 U3 U4, .bool U5, .slice U6 U7 U8] (0, 0) _ (heap_at _ _ _ (by simp)) Try.underlying48 rfl (by kernel_rfl) ?_))
  rw [← hg2, ← hw1]
  clear hg2 hw1
  replace hE := mkHid (hE.out.trans hx)
  replace hM := mkHid (hM.out.ext hx)
  replace hY := mkHid (hY.out.ext hx)
  clear hx
  replace zM := mkHid zM
  replace zR := mkHid zR
  apply region_ext [.val (.agg #[.bool A1, .slice A2 A3 A4, .bool A5, .slice A6 A7 A8, .bool B1, .slice B2 B3 B4, .bool B5, .slice B6 B7 B8, .bool C1, .slice C2 C3 C4, .bool C5, .slice C6 C7 C8, .bool D1, .slice D2 D3 D4, .bool D5, .slice D6 D7 D8]), .val (.int .i64 CM), .val (.agg #[.bool Y1, .slice Y2 Y3 Y4, .bool Y5, .slice Y6 Y7 Y8, .bool U1, .slice U2 U3 U4, .bool U5, .slice U6 U7 U8]), .val (.int .i64 CR), .pred (SlI CM CR), .pred (fun _ v => ByV (CM + CR) v)] (by kernel_rfl) (stable_vals _ (stable_vals _ (stable_vals _ (stable_vals _ (st_slI _ _ (st_byV _ trivial))))))
  refine ⟨fun W hW _ => fr_load rfl 40 (.tmp 3) rfl (g2) rfl 40 #[.bool A1, .slice A2 A3 A4, .bool A5, .slice A6 A7 A8, .bool B1, .slice B2 B3 B4, .bool B5, .slice B6 B7 B8, .bool C1, .slice C2 C3 C4, .bool C5, .slice C6 C7 C8, .bool D1, .slice D2 D3 D4, .bool D5, .slice D6 D7 D8] (0, 0) _ (hW.blk zM.out) Try.underlying40 rfl (by kernel_rfl) ⟨Ext.refl _, rfl⟩, ⟨fun W hW _ => ?b1, ⟨fun W hW _ => fr_load rfl 48 (.tmp 4) rfl (g2 + 1) rfl 48 #[.bool Y1, .slice Y2 Y3 Y4, .bool Y5, .slice Y6 Y7 Y8, .bool U1, .slice U2 U3 U4, .bool U5, .slice U6 U7 U8] (0, 0) _ (hW.blk zR.out) Try.underlying48 rfl (by kernel_rfl) ⟨Ext.refl _, rfl⟩, ⟨fun W hW _ => ?b3,  ⟨fun W hW _ => ?b4, fun x4 => ⟨fun W hW hF => ?b5, fun x5 => ?_⟩⟩⟩⟩⟩⟩
  case b1 =>
    go_simp
    refine (km.out W).mono ?_
    rintro e w' ⟨rfl, h1⟩
    exact ⟨rfl, h1⟩
  case b3 =>
    go_simp
    refine (kr.out W).mono ?_
    rintro e w' ⟨rfl, h1⟩
    exact ⟨rfl, h1⟩
  case b4 =>
    have hs := mkHid ((Ext.refl W).al (.cells #[.int .i64 CM, .int .i64 CR] 3))
    have hsl := mkHid (show SlI CM CR (W.alloc (.cells #[.int .i64 CM, .int .i64 CR] 3)) (.slice (some ⟨W.heap.size, 0, none⟩) 2 2) from ⟨_, rfl, heap_alloc_new _ _⟩)
    go_simp
    exact ⟨hs.out, hsl.out⟩
  case b5 =>
    have dd : SlI CM CR W x4 := hF.1 (by kernel_rfl)
    obtain ⟨g, rfl, hg⟩ := dd
    clear hF
    go_simp
    refine (kb.out g W (by simp [World.cell?, hg]) (by simp [World.cell?, hg])).mono ?_
    rintro e w' ⟨v, rfl, e1, e2⟩
    exact ⟨v, rfl, e1, e2⟩
  intro W1 hW hF
  have hB : ByV (CM + CR) x5 := hF.1 rfl
  obtain ⟨rb, rfl, hB⟩ := hB
  clear hF
  replace hE := mkHid (hE.out.trans hW)
  replace hM := mkHid (hM.out.ext hW)
  replace hY := mkHid (hY.out.ext hW)
  replace zM := mkHid (hW.blk zM.out)
  replace zR := mkHid (hW.blk zR.out)
  clear hW km kr kb
  go_simp
  cases rb with
  | true =>
    clear hB
    go_wp2_with fail
    go_ret
    exact ⟨rfl, hE.out⟩
  | false =>
    clear hB
    go_wp2_with (first
      | (refine wpList_load_row rfl 40 (.tmp 3) rfl (g2) rfl 40 #[.bool A1, .slice A2 A3 A4, .bool A5, .slice A6 A7 A8, .bool B1, .slice B2 B3 B4, .bool B5, .slice B6 B7 B8, .bool C1, .slice C2 C3 C4, .bool C5, .slice C6 C7 C8, .bool D1, .slice D2 D3 D4, .bool D5, .slice D6 D7 D8] (0, 0) _ (zM.out) Try.underlying40 rfl (by kernel_rfl) ?_))
    refine (ko.out _ hM.out).mono ?_
    rintro e w3 ⟨rfl, hx⟩
    replace hE := mkHid (hE.out.trans hx)
    replace hM := mkHid (hM.out.ext hx)
    replace hY := mkHid (hY.out.ext hx)
    replace zM := mkHid (hx.blk zM.out)
    replace zR := mkHid (hx.blk zR.out)
    clear hx
    go_wp2_with (first
      | (refine wpList_load_row rfl 40 (.tmp 3) rfl (g2) rfl 40 #[.bool A1, .slice A2 A3 A4, .bool A5, .slice A6 A7 A8, .bool B1, .slice B2 B3 B4, .bool B5, .slice B6 B7 B8, .bool C1, .slice C2 C3 C4, .bool C5, .slice C6 C7 C8, .bool D1, .slice D2 D3 D4, .bool D5, .slice D6 D7 D8] (0, 0) _ (zM.out) Try.underlying40 rfl (by kernel_rfl) ?_)
      | (refine wpList_load_row rfl 48 (.tmp 4) rfl (g2 + 1) rfl 48 #[.bool Y1, .slice Y2 Y3 Y4, .bool Y5, .slice Y6 Y7 Y8, .bool U1, .slice U2 U3 U4, .bool U5, .slice U6 U7 U8] (0, 0) _ (zR.out) Try.underlying48 rfl (by kernel_rfl) ?_))
    refine (ka.out _ hM.out hY.out).mono ?_
    rintro e w4 ⟨rfl, hx⟩
    replace hE := mkHid (hE.out.trans hx)
    replace hM := mkHid (hM.out.ext hx)
    replace hY := mkHid (hY.out.ext hx)
    replace zM := mkHid (hx.blk zM.out)
    replace zR := mkHid (hx.blk zR.out)
    clear hx
    clear ko ka
    obtain rfl : O = 0 := by omega
    have hG0 : ¬ G = 0 := by omega
    have hGb : (G == 0) = false := by rw [beq_eq_false_iff_ne]; exact hG0
    clear ag3
    go_wp2_with fail
    go_loopw [11] (fun i wr => ∃ k : Nat, i = .int .i64 (k : Nat) ∧ 1 ≤ k ∧ k ≤ 61 ∧ Ext w4 wr) (fun i _ => 61 - (intOf i).toNat)
    case atStart => exact ⟨1, rfl, by omega, by omega, Ext.refl _⟩
    case round =>
      obtain ⟨k, rfl, hk1, hk2, hX⟩ := hrel
      replace hE := mkHid (hE.out.trans hX)
      replace hM := mkHid (hM.out.ext hX)
      replace hY := mkHid (hY.out.ext hX)
      replace zM := mkHid (hX.blk zM.out)
      replace zR := mkHid (hX.blk zR.out)
      replace hX := mkHid hX
      by_cases hn : (k : Int) ≤ n
      case neg =>
        go_wp2_with fail
        refine (kl.out _).mono ?_
        rintro e wl ⟨rfl, hl⟩
        go_wp2_with fail
        go_ret
        exact ⟨rfl, hE.out.trans hl⟩
      by_cases h60 : k ≤ 60
      case neg =>
        obtain rfl : k = 61 := by omega
        go_wp2_with fail
        refine (kl.out _).mono ?_
        rintro e wl ⟨rfl, hl⟩
        go_wp2_with fail
        go_ret
        exact ⟨rfl, hE.out.trans hl⟩
      have kp := mkHid (fun W h => kpw.out k W (by omega) h)
      have b1 := d1.out k hk1
      have b2 := d2.out k hk1
      have ep := @powE_ok k a b c d
      have hdp := hdet.out
      clear kpw d1 d2
      rw [decide_eq_false (show ¬ ((0 : Int) < 0 ∧ (k : Int) % 0 = 0) from fun h => absurd h.1 (by omega))] at b1
      obtain ⟨RG, hRG⟩ : ∃ R : Int, Int.tmod (k : Int) G = R := ⟨_, rfl⟩
      have eRG : RG = (k : Int) % G := by rw [← hRG, Int.tmod_eq_emod_of_nonneg (by omega)]
      have wRG : IntKind.i64.wrap RG = RG := by
        rw [IntKind.wrap_i64]
        have := Int.emod_nonneg (k : Int) hG0
        have := Int.emod_lt_of_pos (k : Int) (show 0 < G by omega)
        omega
      rw [show decide (0 < G ∧ (k : Int) % G = 0) = decide (RG = 0) from decide_eq_decide.2 ⟨fun h => by rw [eRG]; exact h.2, fun h => ⟨by omega, by rw [← eRG]; exact h⟩⟩] at b2
      clear eRG
      replace b1 := mkHid b1
      replace b2 := mkHid b2
      replace hdp := mkHid hdp
      obtain ⟨E1, hE1⟩ : ∃ E, E = powE k a b c d := ⟨_, rfl⟩
      rw [← hE1] at kp ep
      clear hE1
      generalize powOA k a b c d = OA at *
      generalize powOB k a b c d = OB at *
      generalize powOC k a b c d = OC at *
      generalize powOD k a b c d = OD at *
      replace ep := mkHid ep
      go_wp2_with (first
        | (refine wpList_load_row rfl 40 (.tmp 3) rfl (g2) rfl 40 #[.bool A1, .slice A2 A3 A4, .bool A5, .slice A6 A7 A8, .bool B1, .slice B2 B3 B4, .bool B5, .slice B6 B7 B8, .bool C1, .slice C2 C3 C4, .bool C5, .slice C6 C7 C8, .bool D1, .slice D2 D3 D4, .bool D5, .slice D6 D7 D8] (0, 0) _ (zM.out) Try.underlying40 rfl (by kernel_rfl) ?_))
      refine (kp.out _ hM.out).mono ?_
      rintro e w5 ⟨vp, rfl, hx, hp⟩
      replace hE := mkHid (hE.out.trans hx)
      replace hM := mkHid (hM.out.ext hx)
      replace hY := mkHid (hY.out.ext hx)
      replace zM := mkHid (hx.blk zM.out)
      replace zR := mkHid (hx.blk zR.out)
      replace hX := mkHid (hX.out.trans hx)
      clear hx
      replace hp := mkHid hp
      clear kp
      have hp' := hp.out
      obtain ⟨P1, P2, P3, P4, P5, P6, P7, P8, Q1, Q2, Q3, Q4, Q5, Q6, Q7, Q8, S1, S2, S3, S4, S5, S6, S7, S8, T1, T2, T3, T4, T5, T6, T7, T8, rfl, -⟩ := hp'
      by_cases u1 : E1 = 0
      case neg =>
        have u2 : (E1 == 0) = false := by rw [beq_eq_false_iff_ne]; exact u1
        replace u1 := mkHid u1
        go_wp2_with fail
        refine (kl.out _).mono ?_
        rintro e wl ⟨rfl, hl⟩
        go_wp2_with fail
        go_ret
        exact ⟨rfl, hE.out.trans (((Ext.refl _).al _).trans hl)⟩
      obtain ⟨rfl, rfl, rfl, rfl⟩ := ep.out u1
      subst u1
      clear ep
      generalize pwA k a d = PA at *
      generalize pwX k a d b = PB at *
      generalize pwX k a d c = PC at *
      generalize pwA k d a = PD at *
      have ki := mkHid (fun w => matrix_f 1 0 0 1 w (by omega) (by omega) (by omega) (by omega) (by omega) (by omega) (by omega) (by omega))
      rw [show Rat.divInt 1 1 = 1 by kernel_rfl, show Rat.divInt 0 1 = 0 by kernel_rfl] at ki
      have ks := mkHid (fun W v v' h h' => sameMatrix_f v v' PA PB PC PD 1 0 0 1 W h h')
      rw [b1.out] at ks
      obtain ⟨w6, hw6⟩ : ∃ w6, w6 = w5.alloc (.cells #[.bool P1, .slice P2 P3 P4, .bool P5, .slice P6 P7 P8, .bool Q1, .slice Q2 Q3 Q4, .bool Q5, .slice Q6 Q7 Q8, .bool S1, .slice S2 S3 S4, .bool S5, .slice S6 S7 S8, .bool T1, .slice T2 T3 T4, .bool T5, .slice T6 T7 T8] 40) := ⟨_, rfl⟩
      have hx : Ext w5 w6 := by rw [hw6]; exact ((Ext.refl w5).al _)
      have zP : w6.heap[w5.heap.size]? = some (.cells #[.bool P1, .slice P2 P3 P4, .bool P5, .slice P6 P7 P8, .bool Q1, .slice Q2 Q3 Q4, .bool Q5, .slice Q6 Q7 Q8, .bool S1, .slice S2 S3 S4, .bool S5, .slice S6 S7 S8, .bool T1, .slice T2 T3 T4, .bool T5, .slice T6 T7 T8] 40 (0, 0)) := by rw [hw6]; exact heap_at _ _ _ (by simp)
      obtain ⟨g7, hg7⟩ : ∃ g7, g7 = w5.heap.size := ⟨_, rfl⟩
      rw [← hg7] at zP
      go_wp2_with (first
        | (refine wpList_load_row rfl 40 (.tmp 12) rfl (w5.heap.size) rfl 40 #[.bool P1, .slice P2 P3 P4, .bool P5, .slice P6 P7 P8, .bool Q1, .slice Q2 Q3 Q4, .bool Q5, .slice Q6 Q7 Q8, .bool S1, .slice S2 S3 S4, .bool S5, .slice S6 S7 S8, .bool T1, .slice T2 T3 T4, .bool T5, .slice T6 T7 T8] (0, 0) _ (heap_at _ _ _ (by simp)) Try.underlying40 rfl (by kernel_rfl) ?_))
      rw [← hg7, ← hw6]
      clear hg7 hw6
      replace hE := mkHid (hE.out.trans hx)
      replace hM := mkHid (hM.out.ext hx)
      replace hY := mkHid (hY.out.ext hx)
      replace zM := mkHid (hx.blk zM.out)
      replace zR := mkHid (hx.blk zR.out)
      replace hX := mkHid (hX.out.trans hx)
      replace hp := mkHid (hp.out.ext hx)
      clear hx
      replace zP := mkHid zP
      apply region_ext [.val (.agg #[.bool P1, .slice P2 P3 P4, .bool P5, .slice P6 P7 P8, .bool Q1, .slice Q2 Q3 Q4, .bool Q5, .slice Q6 Q7 Q8, .bool S1, .slice S2 S3 S4, .bool S5, .slice S6 S7 S8, .bool T1, .slice T2 T3 T4, .bool T5, .slice T6 T7 T8]), .pred (fun W v => AnyM W v (some 1) (some 0) (some 0) (some 1)), .val (.bool false), .val _] (by kernel_rfl) (stable_vals _ (st_anyM _ _ _ _ (stable_vals _ (stable_vals _ trivial))))
      refine ⟨fun W hW _ => fr_load rfl 40 (.tmp 12) rfl (g7) rfl 40 #[.bool P1, .slice P2 P3 P4, .bool P5, .slice P6 P7 P8, .bool Q1, .slice Q2 Q3 Q4, .bool Q5, .slice Q6 Q7 Q8, .bool S1, .slice S2 S3 S4, .bool S5, .slice S6 S7 S8, .bool T1, .slice T2 T3 T4, .bool T5, .slice T6 T7 T8] (0, 0) _ (hW.blk zP.out) Try.underlying40 rfl (by kernel_rfl) ⟨Ext.refl _, rfl⟩, ⟨fun W hW _ => ?b1, fun x1 => ⟨fun W hW hF => ?b2, ⟨fun W hW _ => by go_simp; first | exact ⟨Ext.refl _, rfl⟩ | exact Ext.refl _, fun W2 hW _ => ?fin⟩⟩⟩⟩
      case b1 =>
        go_simp
        refine (ki.out W).mono ?_
        rintro e w' ⟨v, rfl, e1, e2⟩
        exact ⟨v, rfl, e1, e2⟩
      case b2 =>
        have dd : AnyM W x1 (some 1) (some 0) (some 0) (some 1) := hF.1 (by kernel_rfl)
        replace dd := mkHid dd
        clear hF
        go_simp
        refine (ks.out W _ _ (hp.out.ext hW) dd.out).mono ?_
        rintro e w' ⟨rfl, e1⟩
        exact ⟨rfl, e1⟩
      case fin =>
        replace hE := mkHid (hE.out.trans hW)
        replace hM := mkHid (hM.out.ext hW)
        replace hY := mkHid (hY.out.ext hW)
        replace zM := mkHid (hW.blk zM.out)
        replace zR := mkHid (hW.blk zR.out)
        replace hX := mkHid (hX.out.trans hW)
        replace hp := mkHid (hp.out.ext hW)
        replace zP := mkHid (hW.blk zP.out)
        clear hW ki ks
        have kt := mkHid (fun W h h' => through_c (.agg #[.bool P1, .slice P2 P3 P4, .bool P5, .slice P6 P7 P8, .bool Q1, .slice Q2 Q3 Q4, .bool Q5, .slice Q6 Q7 Q8, .bool S1, .slice S2 S3 S4, .bool S5, .slice S6 S7 S8, .bool T1, .slice T2 T3 T4, .bool T5, .slice T6 T7 T8]) (.agg #[.bool Y1, .slice Y2 Y3 Y4, .bool Y5, .slice Y6 Y7 Y8, .bool U1, .slice U2 U3 U4, .bool U5, .slice U6 U7 U8]) (some PA) (some PB) (some PC) (some PD) (some y) (some u) W h h')
        have et := @thE_ok PA PB PC PD y u
        generalize thE (some PA) (some PB) (some PC) (some PD) (some y) (some u) = E2 at *
        generalize thY (some PA) (some PB) (some PC) (some PD) (some y) (some u) = OY at *
        generalize thU (some PA) (some PB) (some PC) (some PD) (some y) (some u) = OU at *
        replace et := mkHid et
        go_simp
        go_wp2_with (first
          | (refine wpList_load_row rfl 40 (.tmp 12) rfl (g7) rfl 40 #[.bool P1, .slice P2 P3 P4, .bool P5, .slice P6 P7 P8, .bool Q1, .slice Q2 Q3 Q4, .bool Q5, .slice Q6 Q7 Q8, .bool S1, .slice S2 S3 S4, .bool S5, .slice S6 S7 S8, .bool T1, .slice T2 T3 T4, .bool T5, .slice T6 T7 T8] (0, 0) _ (zP.out) Try.underlying40 rfl (by kernel_rfl) ?_)
          | (refine wpList_load_row rfl 48 (.tmp 4) rfl (g2 + 1) rfl 48 #[.bool Y1, .slice Y2 Y3 Y4, .bool Y5, .slice Y6 Y7 Y8, .bool U1, .slice U2 U3 U4, .bool U5, .slice U6 U7 U8] (0, 0) _ (zR.out) Try.underlying48 rfl (by kernel_rfl) ?_))
        refine (kt.out _ hp.out hY.out).mono ?_
        rintro e w8 ⟨vt, rfl, hx, ht⟩
        replace hE := mkHid (hE.out.trans hx)
        replace hM := mkHid (hM.out.ext hx)
        replace hY := mkHid (hY.out.ext hx)
        replace zM := mkHid (hx.blk zM.out)
        replace zR := mkHid (hx.blk zR.out)
        replace hX := mkHid (hX.out.trans hx)
        replace hp := mkHid (hp.out.ext hx)
        replace zP := mkHid (hx.blk zP.out)
        clear hx
        replace ht := mkHid ht
        clear kt
        clear hp zP
        have ht' := ht.out
        obtain ⟨K1, K2, K3, K4, K5, K6, K7, K8, N1, N2, N3, N4, N5, N6, N7, N8, rfl, -⟩ := ht'
        by_cases u1 : E2 = 0
        case neg =>
          have u2 : (E2 == 0) = false := by rw [beq_eq_false_iff_ne]; exact u1
          replace u1 := mkHid u1
          go_wp2_with fail
          refine (kl.out _).mono ?_
          rintro e wl ⟨rfl, hl⟩
          go_wp2_with fail
          go_ret
          exact ⟨rfl, hE.out.trans (((Ext.refl _).al _).trans hl)⟩
        obtain ⟨rfl, rfl, _⟩ := et.out u1
        subst u1
        clear et
        have ks := mkHid (fun W v v' h h' => sameRay_f v v' (PA * y + PB * u) (PC * y + PD * u) y u W h h')
        rw [b2.out] at ks
        obtain ⟨BG, hBG⟩ : ∃ B : Bool, (RG == 0) = B := ⟨_, rfl⟩
        rw [← sign_beq (Iff.rfl : RG = 0 ↔ RG = 0), hBG] at ks
        obtain ⟨w9, hw9⟩ : ∃ w9, w9 = w8.alloc (.cells #[.bool K1, .slice K2 K3 K4, .bool K5, .slice K6 K7 K8, .bool N1, .slice N2 N3 N4, .bool N5, .slice N6 N7 N8] 48) := ⟨_, rfl⟩
        have hx : Ext w8 w9 := by rw [hw9]; exact ((Ext.refl w8).al _)
        have zT : w9.heap[w8.heap.size]? = some (.cells #[.bool K1, .slice K2 K3 K4, .bool K5, .slice K6 K7 K8, .bool N1, .slice N2 N3 N4, .bool N5, .slice N6 N7 N8] 48 (0, 0)) := by rw [hw9]; exact heap_at _ _ _ (by simp)
        obtain ⟨g10, hg10⟩ : ∃ g10, g10 = w8.heap.size := ⟨_, rfl⟩
        rw [← hg10] at zT
        have ltR : g2 + 1 < w8.heap.size := (Array.getElem?_eq_some_iff.1 zR.out).1
        go_wp2_with (first
          | (refine wpList_load_row rfl 48 (.tmp 4) rfl (g2 + 1) rfl 48 #[.bool Y1, .slice Y2 Y3 Y4, .bool Y5, .slice Y6 Y7 Y8, .bool U1, .slice U2 U3 U4, .bool U5, .slice U6 U7 U8] (0, 0) _ ((heap_alloc_old _ _ (by first | omega | (simp <;> omega))).trans (zR.out)) Try.underlying48 rfl (by kernel_rfl) ?_)
          | (refine wpList_load_row rfl 48 (.tmp 15) rfl (w8.heap.size) rfl 48 #[.bool K1, .slice K2 K3 K4, .bool K5, .slice K6 K7 K8, .bool N1, .slice N2 N3 N4, .bool N5, .slice N6 N7 N8] (0, 0) _ (heap_at _ _ _ (by simp)) Try.underlying48 rfl (by kernel_rfl) ?_))
        rw [← hg10, ← hw9]
        clear ltR
        clear hg10 hw9
        replace hE := mkHid (hE.out.trans hx)
        replace hM := mkHid (hM.out.ext hx)
        replace hY := mkHid (hY.out.ext hx)
        replace zM := mkHid (hx.blk zM.out)
        replace zR := mkHid (hx.blk zR.out)
        replace hX := mkHid (hX.out.trans hx)
        replace ht := mkHid (ht.out.ext hx)
        clear hx
        replace zT := mkHid zT
        refine (ks.out _ _ _ ht.out hY.out).mono ?_
        rintro e w11 ⟨rfl, hx⟩
        replace hE := mkHid (hE.out.trans hx)
        replace hM := mkHid (hM.out.ext hx)
        replace hY := mkHid (hY.out.ext hx)
        replace zM := mkHid (hx.blk zM.out)
        replace zR := mkHid (hx.blk zR.out)
        replace hX := mkHid (hX.out.trans hx)
        replace ht := mkHid (ht.out.ext hx)
        replace zT := mkHid (hx.blk zT.out)
        clear hx
        clear ks
        go_wp2_with fail
        go_roundw
        case rel => exact ⟨k + 1, by go_num, by omega, by omega, hX.out⟩
        case measure => simp [intOf] <;> omega
set_option maxRecDepth 100000 in
set_option maxHeartbeats 25600000 in
theorem returns_zz (n : Int) (v r : Value) (a b c d y u : Rat) (w : World) (h : AnyM w v (some a) (some b) (some c) (some d)) (hr : AnyY w r (some y) (some u)) (hdet : a * d - b * c = 1) (hO : ¬ 0 < ordM a b c d) (hG : ¬ 0 < agM a b c d y u) :
    Calls Try.prog 6 #[v, r, .int .i64 n] w fun e w' => e = .returned (.bool true) ∧ Ext w w' := by
  have hM := mkHid h
  have hY := mkHid hr
  obtain ⟨A1, A2, A3, A4, A5, A6, A7, A8, B1, B2, B3, B4, B5, B6, B7, B8, C1, C2, C3, C4, C5, C6, C7, C8, D1, D2, D3, D4, D5, D6, D7, D8, rfl, h1, h2, h3, h4⟩ := h
  obtain ⟨Y1, Y2, Y3, Y4, Y5, Y6, Y7, Y8, U1, U2, U3, U4, U5, U6, U7, U8, rfl, h5, h6⟩ := hr
  have pA : A3 ≤ 140737488355328 := Nat.le_trans h1.lens.1 (by decide)
  have qA : A7 ≤ 140737488355328 := Nat.le_trans h1.lens.2 (by decide)
  have pB : B3 ≤ 140737488355328 := Nat.le_trans h2.lens.1 (by decide)
  have qB : B7 ≤ 140737488355328 := Nat.le_trans h2.lens.2 (by decide)
  have pC : C3 ≤ 140737488355328 := Nat.le_trans h3.lens.1 (by decide)
  have qC : C7 ≤ 140737488355328 := Nat.le_trans h3.lens.2 (by decide)
  have pD : D3 ≤ 140737488355328 := Nat.le_trans h4.lens.1 (by decide)
  have qD : D7 ≤ 140737488355328 := Nat.le_trans h4.lens.2 (by decide)
  have pY : Y3 ≤ 140737488355328 := Nat.le_trans h5.lens.1 (by decide)
  have qY : Y7 ≤ 140737488355328 := Nat.le_trans h5.lens.2 (by decide)
  have pU : U3 ≤ 140737488355328 := Nat.le_trans h6.lens.1 (by decide)
  have qU : U7 ≤ 140737488355328 := Nat.le_trans h6.lens.2 (by decide)
  clear h1 h2 h3 h4 h5 h6
  have kl := mkHid lives_c
  have km := mkHid (fun w => matrixCost_c A1 A2 A3 A4 A5 A6 A7 A8 B1 B2 B3 B4 B5 B6 B7 B8 C1 C2 C3 C4 C5 C6 C7 C8 D1 D2 D3 D4 D5 D6 D7 D8 w pA qA pB qB pC qC pD qD)
  have kr := mkHid (fun w => rayCost_c Y1 Y2 Y3 Y4 Y5 Y6 Y7 Y8 U1 U2 U3 U4 U5 U6 U7 U8 w pY qY pU qU)
  obtain ⟨cA1, cA2, cA3, cA4⟩ := costV_b A3 A7 pA qA
  obtain ⟨cB1, cB2, cB3, cB4⟩ := costV_b B3 B7 pB qB
  obtain ⟨cC1, cC2, cC3, cC4⟩ := costV_b C3 C7 pC qC
  obtain ⟨cD1, cD2, cD3, cD4⟩ := costV_b D3 D7 pD qD
  obtain ⟨cY1, cY2, cY3, cY4⟩ := costV_b Y3 Y7 pY qY
  obtain ⟨cU1, cU2, cU3, cU4⟩ := costV_b U3 U7 pU qU
  generalize costV A3 A7 = CA at *
  generalize costV B3 B7 = CB at *
  generalize costV C3 C7 = CC at *
  generalize costV D3 D7 = CD at *
  generalize costV Y3 Y7 = CY at *
  generalize costV U3 U7 = CU at *
  obtain ⟨CM, hCM⟩ : ∃ C : Int, C = CA + CB + CC + CD := ⟨_, rfl⟩
  obtain ⟨CR, hCR⟩ : ∃ C : Int, C = CY + CU := ⟨_, rfl⟩
  rw [← hCM] at km
  rw [← hCR] at kr
  have kb := mkHid (fun g w h h' => beyond2_c g 2 CM CR w (by omega) (by omega) (by omega) (by omega) h h')
  clear hCM hCR cA1 cA2 cA3 cA4 pA qA cB1 cB2 cB3 cB4 pB qB cC1 cC2 cC3 cC4 pC qC cD1 cD2 cD3 cD4 pD qD cY1 cY2 cY3 cY4 pY qY cU1 cU2 cU3 cU4 pU qU 
  have hm := mkHid (show okM (some a) (some b) (some c) (some d) = true by simpa [okM] using hdet)
  have on := ordM_nonneg a b c d
  have ko := mkHid (fun W h => order_yes (.agg #[.bool A1, .slice A2 A3 A4, .bool A5, .slice A6 A7 A8, .bool B1, .slice B2 B3 B4, .bool B5, .slice B6 B7 B8, .bool C1, .slice C2 C3 C4, .bool C5, .slice C6 C7 C8, .bool D1, .slice D2 D3 D4, .bool D5, .slice D6 D7 D8]) a b c d W h hdet)
  have ag := agM_facts a b c d y u
  have ka := mkHid (fun W h h' => again_fine (.agg #[.bool A1, .slice A2 A3 A4, .bool A5, .slice A6 A7 A8, .bool B1, .slice B2 B3 B4, .bool B5, .slice B6 B7 B8, .bool C1, .slice C2 C3 C4, .bool C5, .slice C6 C7 C8, .bool D1, .slice D2 D3 D4, .bool D5, .slice D6 D7 D8]) (.agg #[.bool Y1, .slice Y2 Y3 Y4, .bool Y5, .slice Y6 Y7 Y8, .bool U1, .slice U2 U3 U4, .bool U5, .slice U6 U7 U8]) a b c d y u W h h' hm.out)
  have d1 := fun (k : Nat) (hk : 1 ≤ k) => one_dec hdet hk
  have d2 := fun (k : Nat) (hk : 1 ≤ k) => back_dec (y := y) (w := u) hdet hk
  have kpw := mkHid (fun (k : Nat) W (hk : k ≤ 4096) h => power_fine k (.agg #[.bool A1, .slice A2 A3 A4, .bool A5, .slice A6 A7 A8, .bool B1, .slice B2 B3 B4, .bool B5, .slice B6 B7 B8, .bool C1, .slice C2 C3 C4, .bool C5, .slice C6 C7 C8, .bool D1, .slice D2 D3 D4, .bool D5, .slice D6 D7 D8]) a b c d W h hm.out hk)
  generalize ordM a b c d = O at *
  generalize agM a b c d y u = G at *
  obtain ⟨on1, on2⟩ := on
  obtain ⟨ag1, ag2, ag3⟩ := ag
  replace d1 := mkHid d1
  replace d2 := mkHid d2
  replace hdet := mkHid hdet
  replace ag3 := mkHid ag3
  have hE := mkHid (Ext.refl w)
  go_enter Try.func6, Try.ntmps6
  obtain ⟨w1, hw1⟩ : ∃ w1, w1 = (w.alloc (.cells #[.bool A1, .slice A2 A3 A4, .bool A5, .slice A6 A7 A8, .bool B1, .slice B2 B3 B4, .bool B5, .slice B6 B7 B8, .bool C1, .slice C2 C3 C4, .bool C5, .slice C6 C7 C8, .bool D1, .slice D2 D3 D4, .bool D5, .slice D6 D7 D8] 40)).alloc (.cells #[.bool Y1, .slice Y2 Y3 Y4, .bool Y5, .slice Y6 Y7 Y8, .bool U1, .slice U2 U3 U4, .bool U5, .slice U6 U7 U8] 48) := ⟨_, rfl⟩
  have hx : Ext w w1 := by rw [hw1]; exact (((Ext.refl w).al _).al _)
  have zM : w1.heap[w.heap.size]? = some (.cells #[.bool A1, .slice A2 A3 A4, .bool A5, .slice A6 A7 A8, .bool B1, .slice B2 B3 B4, .bool B5, .slice B6 B7 B8, .bool C1, .slice C2 C3 C4, .bool C5, .slice C6 C7 C8, .bool D1, .slice D2 D3 D4, .bool D5, .slice D6 D7 D8] 40 (0, 0)) := by rw [hw1]; exact (heap_alloc_old _ _ (by simp <;> omega)).trans (heap_at _ _ _ (by simp))
  have zR : w1.heap[w.heap.size + 1]? = some (.cells #[.bool Y1, .slice Y2 Y3 Y4, .bool Y5, .slice Y6 Y7 Y8, .bool U1, .slice U2 U3 U4, .bool U5, .slice U6 U7 U8] 48 (0, 0)) := by rw [hw1]; exact heap_at _ _ _ (by simp)
  obtain ⟨g2, hg2⟩ : ∃ g2, g2 = w.heap.size := ⟨_, rfl⟩
  rw [← hg2] at zM zR
  go_wp2_with (first
    | (refine wpList_load_row rfl 40 (.tmp 3) rfl (w.heap.size) rfl 40 #[.bool A1, .slice A2 A3 A4, .bool A5, .slice A6 A7 A8, .bool B1, .slice B2 B3 B4, .bool B5, .slice B6 B7 B8, .bool C1, .slice C2 C3 C4, .bool C5, .slice C6 C7 C8, .bool D1, .slice D2 D3 D4, .bool D5, .slice D6 D7 D8] (0, 0) _ ((heap_alloc_old _ _ (by simp <;> omega)).trans (heap_at _ _ _ (by simp))) Try.underlying40 rfl (by kernel_rfl) ?_)
    | (refine wpList_load_row rfl 48 (.tmp 4) rfl (w.heap.size + 1) rfl 48 #[.bool Y1, .slice Y2 Y3 Y4, .bool Y5, .slice Y6 Y7 Y8, .bool U1, .slice U2 U3 U4, .bool U5, .slice U6 U7 U8] (0, 0) _ (heap_at _ _ _ (by simp)) Try.underlying48 rfl (by kernel_rfl) ?_))
  rw [← hg2, ← hw1]
  clear hg2 hw1
  replace hE := mkHid (hE.out.trans hx)
  replace hM := mkHid (hM.out.ext hx)
  replace hY := mkHid (hY.out.ext hx)
  clear hx
  replace zM := mkHid zM
  replace zR := mkHid zR
  apply region_ext [.val (.agg #[.bool A1, .slice A2 A3 A4, .bool A5, .slice A6 A7 A8, .bool B1, .slice B2 B3 B4, .bool B5, .slice B6 B7 B8, .bool C1, .slice C2 C3 C4, .bool C5, .slice C6 C7 C8, .bool D1, .slice D2 D3 D4, .bool D5, .slice D6 D7 D8]), .val (.int .i64 CM), .val (.agg #[.bool Y1, .slice Y2 Y3 Y4, .bool Y5, .slice Y6 Y7 Y8, .bool U1, .slice U2 U3 U4, .bool U5, .slice U6 U7 U8]), .val (.int .i64 CR), .pred (SlI CM CR), .pred (fun _ v => ByV (CM + CR) v)] (by kernel_rfl) (stable_vals _ (stable_vals _ (stable_vals _ (stable_vals _ (st_slI _ _ (st_byV _ trivial))))))
  refine ⟨fun W hW _ => fr_load rfl 40 (.tmp 3) rfl (g2) rfl 40 #[.bool A1, .slice A2 A3 A4, .bool A5, .slice A6 A7 A8, .bool B1, .slice B2 B3 B4, .bool B5, .slice B6 B7 B8, .bool C1, .slice C2 C3 C4, .bool C5, .slice C6 C7 C8, .bool D1, .slice D2 D3 D4, .bool D5, .slice D6 D7 D8] (0, 0) _ (hW.blk zM.out) Try.underlying40 rfl (by kernel_rfl) ⟨Ext.refl _, rfl⟩, ⟨fun W hW _ => ?b1, ⟨fun W hW _ => fr_load rfl 48 (.tmp 4) rfl (g2 + 1) rfl 48 #[.bool Y1, .slice Y2 Y3 Y4, .bool Y5, .slice Y6 Y7 Y8, .bool U1, .slice U2 U3 U4, .bool U5, .slice U6 U7 U8] (0, 0) _ (hW.blk zR.out) Try.underlying48 rfl (by kernel_rfl) ⟨Ext.refl _, rfl⟩, ⟨fun W hW _ => ?b3,  ⟨fun W hW _ => ?b4, fun x4 => ⟨fun W hW hF => ?b5, fun x5 => ?_⟩⟩⟩⟩⟩⟩
  case b1 =>
    go_simp
    refine (km.out W).mono ?_
    rintro e w' ⟨rfl, h1⟩
    exact ⟨rfl, h1⟩
  case b3 =>
    go_simp
    refine (kr.out W).mono ?_
    rintro e w' ⟨rfl, h1⟩
    exact ⟨rfl, h1⟩
  case b4 =>
    have hs := mkHid ((Ext.refl W).al (.cells #[.int .i64 CM, .int .i64 CR] 3))
    have hsl := mkHid (show SlI CM CR (W.alloc (.cells #[.int .i64 CM, .int .i64 CR] 3)) (.slice (some ⟨W.heap.size, 0, none⟩) 2 2) from ⟨_, rfl, heap_alloc_new _ _⟩)
    go_simp
    exact ⟨hs.out, hsl.out⟩
  case b5 =>
    have dd : SlI CM CR W x4 := hF.1 (by kernel_rfl)
    obtain ⟨g, rfl, hg⟩ := dd
    clear hF
    go_simp
    refine (kb.out g W (by simp [World.cell?, hg]) (by simp [World.cell?, hg])).mono ?_
    rintro e w' ⟨v, rfl, e1, e2⟩
    exact ⟨v, rfl, e1, e2⟩
  intro W1 hW hF
  have hB : ByV (CM + CR) x5 := hF.1 rfl
  obtain ⟨rb, rfl, hB⟩ := hB
  clear hF
  replace hE := mkHid (hE.out.trans hW)
  replace hM := mkHid (hM.out.ext hW)
  replace hY := mkHid (hY.out.ext hW)
  replace zM := mkHid (hW.blk zM.out)
  replace zR := mkHid (hW.blk zR.out)
  clear hW km kr kb
  go_simp
  cases rb with
  | true =>
    clear hB
    go_wp2_with fail
    go_ret
    exact ⟨rfl, hE.out⟩
  | false =>
    clear hB
    go_wp2_with (first
      | (refine wpList_load_row rfl 40 (.tmp 3) rfl (g2) rfl 40 #[.bool A1, .slice A2 A3 A4, .bool A5, .slice A6 A7 A8, .bool B1, .slice B2 B3 B4, .bool B5, .slice B6 B7 B8, .bool C1, .slice C2 C3 C4, .bool C5, .slice C6 C7 C8, .bool D1, .slice D2 D3 D4, .bool D5, .slice D6 D7 D8] (0, 0) _ (zM.out) Try.underlying40 rfl (by kernel_rfl) ?_))
    refine (ko.out _ hM.out).mono ?_
    rintro e w3 ⟨rfl, hx⟩
    replace hE := mkHid (hE.out.trans hx)
    replace hM := mkHid (hM.out.ext hx)
    replace hY := mkHid (hY.out.ext hx)
    replace zM := mkHid (hx.blk zM.out)
    replace zR := mkHid (hx.blk zR.out)
    clear hx
    go_wp2_with (first
      | (refine wpList_load_row rfl 40 (.tmp 3) rfl (g2) rfl 40 #[.bool A1, .slice A2 A3 A4, .bool A5, .slice A6 A7 A8, .bool B1, .slice B2 B3 B4, .bool B5, .slice B6 B7 B8, .bool C1, .slice C2 C3 C4, .bool C5, .slice C6 C7 C8, .bool D1, .slice D2 D3 D4, .bool D5, .slice D6 D7 D8] (0, 0) _ (zM.out) Try.underlying40 rfl (by kernel_rfl) ?_)
      | (refine wpList_load_row rfl 48 (.tmp 4) rfl (g2 + 1) rfl 48 #[.bool Y1, .slice Y2 Y3 Y4, .bool Y5, .slice Y6 Y7 Y8, .bool U1, .slice U2 U3 U4, .bool U5, .slice U6 U7 U8] (0, 0) _ (zR.out) Try.underlying48 rfl (by kernel_rfl) ?_))
    refine (ka.out _ hM.out hY.out).mono ?_
    rintro e w4 ⟨rfl, hx⟩
    replace hE := mkHid (hE.out.trans hx)
    replace hM := mkHid (hM.out.ext hx)
    replace hY := mkHid (hY.out.ext hx)
    replace zM := mkHid (hx.blk zM.out)
    replace zR := mkHid (hx.blk zR.out)
    clear hx
    clear ko ka
    obtain rfl : O = 0 := by omega
    obtain rfl : G = 0 := by omega
    clear ag3
    go_wp2_with fail
    go_loopw [11] (fun i wr => ∃ k : Nat, i = .int .i64 (k : Nat) ∧ 1 ≤ k ∧ k ≤ 61 ∧ Ext w4 wr) (fun i _ => 61 - (intOf i).toNat)
    case atStart => exact ⟨1, rfl, by omega, by omega, Ext.refl _⟩
    case round =>
      obtain ⟨k, rfl, hk1, hk2, hX⟩ := hrel
      replace hE := mkHid (hE.out.trans hX)
      replace hM := mkHid (hM.out.ext hX)
      replace hY := mkHid (hY.out.ext hX)
      replace zM := mkHid (hX.blk zM.out)
      replace zR := mkHid (hX.blk zR.out)
      replace hX := mkHid hX
      by_cases hn : (k : Int) ≤ n
      case neg =>
        go_wp2_with fail
        refine (kl.out _).mono ?_
        rintro e wl ⟨rfl, hl⟩
        go_wp2_with fail
        go_ret
        exact ⟨rfl, hE.out.trans hl⟩
      by_cases h60 : k ≤ 60
      case neg =>
        obtain rfl : k = 61 := by omega
        go_wp2_with fail
        refine (kl.out _).mono ?_
        rintro e wl ⟨rfl, hl⟩
        go_wp2_with fail
        go_ret
        exact ⟨rfl, hE.out.trans hl⟩
      have kp := mkHid (fun W h => kpw.out k W (by omega) h)
      have b1 := d1.out k hk1
      have b2 := d2.out k hk1
      have ep := @powE_ok k a b c d
      have hdp := hdet.out
      clear kpw d1 d2
      rw [decide_eq_false (show ¬ ((0 : Int) < 0 ∧ (k : Int) % 0 = 0) from fun h => absurd h.1 (by omega))] at b1
      rw [decide_eq_false (show ¬ ((0 : Int) < 0 ∧ (k : Int) % 0 = 0) from fun h => absurd h.1 (by omega))] at b2
      replace b1 := mkHid b1
      replace b2 := mkHid b2
      replace hdp := mkHid hdp
      obtain ⟨E1, hE1⟩ : ∃ E, E = powE k a b c d := ⟨_, rfl⟩
      rw [← hE1] at kp ep
      clear hE1
      generalize powOA k a b c d = OA at *
      generalize powOB k a b c d = OB at *
      generalize powOC k a b c d = OC at *
      generalize powOD k a b c d = OD at *
      replace ep := mkHid ep
      go_wp2_with (first
        | (refine wpList_load_row rfl 40 (.tmp 3) rfl (g2) rfl 40 #[.bool A1, .slice A2 A3 A4, .bool A5, .slice A6 A7 A8, .bool B1, .slice B2 B3 B4, .bool B5, .slice B6 B7 B8, .bool C1, .slice C2 C3 C4, .bool C5, .slice C6 C7 C8, .bool D1, .slice D2 D3 D4, .bool D5, .slice D6 D7 D8] (0, 0) _ (zM.out) Try.underlying40 rfl (by kernel_rfl) ?_))
      refine (kp.out _ hM.out).mono ?_
      rintro e w5 ⟨vp, rfl, hx, hp⟩
      replace hE := mkHid (hE.out.trans hx)
      replace hM := mkHid (hM.out.ext hx)
      replace hY := mkHid (hY.out.ext hx)
      replace zM := mkHid (hx.blk zM.out)
      replace zR := mkHid (hx.blk zR.out)
      replace hX := mkHid (hX.out.trans hx)
      clear hx
      replace hp := mkHid hp
      clear kp
      have hp' := hp.out
      obtain ⟨P1, P2, P3, P4, P5, P6, P7, P8, Q1, Q2, Q3, Q4, Q5, Q6, Q7, Q8, S1, S2, S3, S4, S5, S6, S7, S8, T1, T2, T3, T4, T5, T6, T7, T8, rfl, -⟩ := hp'
      by_cases u1 : E1 = 0
      case neg =>
        have u2 : (E1 == 0) = false := by rw [beq_eq_false_iff_ne]; exact u1
        replace u1 := mkHid u1
        go_wp2_with fail
        refine (kl.out _).mono ?_
        rintro e wl ⟨rfl, hl⟩
        go_wp2_with fail
        go_ret
        exact ⟨rfl, hE.out.trans (((Ext.refl _).al _).trans hl)⟩
      obtain ⟨rfl, rfl, rfl, rfl⟩ := ep.out u1
      subst u1
      clear ep
      generalize pwA k a d = PA at *
      generalize pwX k a d b = PB at *
      generalize pwX k a d c = PC at *
      generalize pwA k d a = PD at *
      have ki := mkHid (fun w => matrix_f 1 0 0 1 w (by omega) (by omega) (by omega) (by omega) (by omega) (by omega) (by omega) (by omega))
      rw [show Rat.divInt 1 1 = 1 by kernel_rfl, show Rat.divInt 0 1 = 0 by kernel_rfl] at ki
      have ks := mkHid (fun W v v' h h' => sameMatrix_f v v' PA PB PC PD 1 0 0 1 W h h')
      rw [b1.out] at ks
      obtain ⟨w6, hw6⟩ : ∃ w6, w6 = w5.alloc (.cells #[.bool P1, .slice P2 P3 P4, .bool P5, .slice P6 P7 P8, .bool Q1, .slice Q2 Q3 Q4, .bool Q5, .slice Q6 Q7 Q8, .bool S1, .slice S2 S3 S4, .bool S5, .slice S6 S7 S8, .bool T1, .slice T2 T3 T4, .bool T5, .slice T6 T7 T8] 40) := ⟨_, rfl⟩
      have hx : Ext w5 w6 := by rw [hw6]; exact ((Ext.refl w5).al _)
      have zP : w6.heap[w5.heap.size]? = some (.cells #[.bool P1, .slice P2 P3 P4, .bool P5, .slice P6 P7 P8, .bool Q1, .slice Q2 Q3 Q4, .bool Q5, .slice Q6 Q7 Q8, .bool S1, .slice S2 S3 S4, .bool S5, .slice S6 S7 S8, .bool T1, .slice T2 T3 T4, .bool T5, .slice T6 T7 T8] 40 (0, 0)) := by rw [hw6]; exact heap_at _ _ _ (by simp)
      obtain ⟨g7, hg7⟩ : ∃ g7, g7 = w5.heap.size := ⟨_, rfl⟩
      rw [← hg7] at zP
      go_wp2_with (first
        | (refine wpList_load_row rfl 40 (.tmp 12) rfl (w5.heap.size) rfl 40 #[.bool P1, .slice P2 P3 P4, .bool P5, .slice P6 P7 P8, .bool Q1, .slice Q2 Q3 Q4, .bool Q5, .slice Q6 Q7 Q8, .bool S1, .slice S2 S3 S4, .bool S5, .slice S6 S7 S8, .bool T1, .slice T2 T3 T4, .bool T5, .slice T6 T7 T8] (0, 0) _ (heap_at _ _ _ (by simp)) Try.underlying40 rfl (by kernel_rfl) ?_))
      rw [← hg7, ← hw6]
      clear hg7 hw6
      replace hE := mkHid (hE.out.trans hx)
      replace hM := mkHid (hM.out.ext hx)
      replace hY := mkHid (hY.out.ext hx)
      replace zM := mkHid (hx.blk zM.out)
      replace zR := mkHid (hx.blk zR.out)
      replace hX := mkHid (hX.out.trans hx)
      replace hp := mkHid (hp.out.ext hx)
      clear hx
      replace zP := mkHid zP
      apply region_ext [.val (.agg #[.bool P1, .slice P2 P3 P4, .bool P5, .slice P6 P7 P8, .bool Q1, .slice Q2 Q3 Q4, .bool Q5, .slice Q6 Q7 Q8, .bool S1, .slice S2 S3 S4, .bool S5, .slice S6 S7 S8, .bool T1, .slice T2 T3 T4, .bool T5, .slice T6 T7 T8]), .pred (fun W v => AnyM W v (some 1) (some 0) (some 0) (some 1)), .val (.bool false), .val _] (by kernel_rfl) (stable_vals _ (st_anyM _ _ _ _ (stable_vals _ (stable_vals _ trivial))))
      refine ⟨fun W hW _ => fr_load rfl 40 (.tmp 12) rfl (g7) rfl 40 #[.bool P1, .slice P2 P3 P4, .bool P5, .slice P6 P7 P8, .bool Q1, .slice Q2 Q3 Q4, .bool Q5, .slice Q6 Q7 Q8, .bool S1, .slice S2 S3 S4, .bool S5, .slice S6 S7 S8, .bool T1, .slice T2 T3 T4, .bool T5, .slice T6 T7 T8] (0, 0) _ (hW.blk zP.out) Try.underlying40 rfl (by kernel_rfl) ⟨Ext.refl _, rfl⟩, ⟨fun W hW _ => ?b1, fun x1 => ⟨fun W hW hF => ?b2, ⟨fun W hW _ => by go_simp; first | exact ⟨Ext.refl _, rfl⟩ | exact Ext.refl _, fun W2 hW _ => ?fin⟩⟩⟩⟩
      case b1 =>
        go_simp
        refine (ki.out W).mono ?_
        rintro e w' ⟨v, rfl, e1, e2⟩
        exact ⟨v, rfl, e1, e2⟩
      case b2 =>
        have dd : AnyM W x1 (some 1) (some 0) (some 0) (some 1) := hF.1 (by kernel_rfl)
        replace dd := mkHid dd
        clear hF
        go_simp
        refine (ks.out W _ _ (hp.out.ext hW) dd.out).mono ?_
        rintro e w' ⟨rfl, e1⟩
        exact ⟨rfl, e1⟩
      case fin =>
        replace hE := mkHid (hE.out.trans hW)
        replace hM := mkHid (hM.out.ext hW)
        replace hY := mkHid (hY.out.ext hW)
        replace zM := mkHid (hW.blk zM.out)
        replace zR := mkHid (hW.blk zR.out)
        replace hX := mkHid (hX.out.trans hW)
        replace hp := mkHid (hp.out.ext hW)
        replace zP := mkHid (hW.blk zP.out)
        clear hW ki ks
        have kt := mkHid (fun W h h' => through_c (.agg #[.bool P1, .slice P2 P3 P4, .bool P5, .slice P6 P7 P8, .bool Q1, .slice Q2 Q3 Q4, .bool Q5, .slice Q6 Q7 Q8, .bool S1, .slice S2 S3 S4, .bool S5, .slice S6 S7 S8, .bool T1, .slice T2 T3 T4, .bool T5, .slice T6 T7 T8]) (.agg #[.bool Y1, .slice Y2 Y3 Y4, .bool Y5, .slice Y6 Y7 Y8, .bool U1, .slice U2 U3 U4, .bool U5, .slice U6 U7 U8]) (some PA) (some PB) (some PC) (some PD) (some y) (some u) W h h')
        have et := @thE_ok PA PB PC PD y u
        generalize thE (some PA) (some PB) (some PC) (some PD) (some y) (some u) = E2 at *
        generalize thY (some PA) (some PB) (some PC) (some PD) (some y) (some u) = OY at *
        generalize thU (some PA) (some PB) (some PC) (some PD) (some y) (some u) = OU at *
        replace et := mkHid et
        go_simp
        go_wp2_with (first
          | (refine wpList_load_row rfl 40 (.tmp 12) rfl (g7) rfl 40 #[.bool P1, .slice P2 P3 P4, .bool P5, .slice P6 P7 P8, .bool Q1, .slice Q2 Q3 Q4, .bool Q5, .slice Q6 Q7 Q8, .bool S1, .slice S2 S3 S4, .bool S5, .slice S6 S7 S8, .bool T1, .slice T2 T3 T4, .bool T5, .slice T6 T7 T8] (0, 0) _ (zP.out) Try.underlying40 rfl (by kernel_rfl) ?_)
          | (refine wpList_load_row rfl 48 (.tmp 4) rfl (g2 + 1) rfl 48 #[.bool Y1, .slice Y2 Y3 Y4, .bool Y5, .slice Y6 Y7 Y8, .bool U1, .slice U2 U3 U4, .bool U5, .slice U6 U7 U8] (0, 0) _ (zR.out) Try.underlying48 rfl (by kernel_rfl) ?_))
        refine (kt.out _ hp.out hY.out).mono ?_
        rintro e w8 ⟨vt, rfl, hx, ht⟩
        replace hE := mkHid (hE.out.trans hx)
        replace hM := mkHid (hM.out.ext hx)
        replace hY := mkHid (hY.out.ext hx)
        replace zM := mkHid (hx.blk zM.out)
        replace zR := mkHid (hx.blk zR.out)
        replace hX := mkHid (hX.out.trans hx)
        replace hp := mkHid (hp.out.ext hx)
        replace zP := mkHid (hx.blk zP.out)
        clear hx
        replace ht := mkHid ht
        clear kt
        clear hp zP
        have ht' := ht.out
        obtain ⟨K1, K2, K3, K4, K5, K6, K7, K8, N1, N2, N3, N4, N5, N6, N7, N8, rfl, -⟩ := ht'
        by_cases u1 : E2 = 0
        case neg =>
          have u2 : (E2 == 0) = false := by rw [beq_eq_false_iff_ne]; exact u1
          replace u1 := mkHid u1
          go_wp2_with fail
          refine (kl.out _).mono ?_
          rintro e wl ⟨rfl, hl⟩
          go_wp2_with fail
          go_ret
          exact ⟨rfl, hE.out.trans (((Ext.refl _).al _).trans hl)⟩
        obtain ⟨rfl, rfl, _⟩ := et.out u1
        subst u1
        clear et
        have ks := mkHid (fun W v v' h h' => sameRay_f v v' (PA * y + PB * u) (PC * y + PD * u) y u W h h')
        rw [b2.out] at ks
        obtain ⟨w9, hw9⟩ : ∃ w9, w9 = w8.alloc (.cells #[.bool K1, .slice K2 K3 K4, .bool K5, .slice K6 K7 K8, .bool N1, .slice N2 N3 N4, .bool N5, .slice N6 N7 N8] 48) := ⟨_, rfl⟩
        have hx : Ext w8 w9 := by rw [hw9]; exact ((Ext.refl w8).al _)
        have zT : w9.heap[w8.heap.size]? = some (.cells #[.bool K1, .slice K2 K3 K4, .bool K5, .slice K6 K7 K8, .bool N1, .slice N2 N3 N4, .bool N5, .slice N6 N7 N8] 48 (0, 0)) := by rw [hw9]; exact heap_at _ _ _ (by simp)
        obtain ⟨g10, hg10⟩ : ∃ g10, g10 = w8.heap.size := ⟨_, rfl⟩
        rw [← hg10] at zT
        have ltR : g2 + 1 < w8.heap.size := (Array.getElem?_eq_some_iff.1 zR.out).1
        go_wp2_with (first
          | (refine wpList_load_row rfl 48 (.tmp 4) rfl (g2 + 1) rfl 48 #[.bool Y1, .slice Y2 Y3 Y4, .bool Y5, .slice Y6 Y7 Y8, .bool U1, .slice U2 U3 U4, .bool U5, .slice U6 U7 U8] (0, 0) _ ((heap_alloc_old _ _ (by first | omega | (simp <;> omega))).trans (zR.out)) Try.underlying48 rfl (by kernel_rfl) ?_)
          | (refine wpList_load_row rfl 48 (.tmp 15) rfl (w8.heap.size) rfl 48 #[.bool K1, .slice K2 K3 K4, .bool K5, .slice K6 K7 K8, .bool N1, .slice N2 N3 N4, .bool N5, .slice N6 N7 N8] (0, 0) _ (heap_at _ _ _ (by simp)) Try.underlying48 rfl (by kernel_rfl) ?_))
        rw [← hg10, ← hw9]
        clear ltR
        clear hg10 hw9
        replace hE := mkHid (hE.out.trans hx)
        replace hM := mkHid (hM.out.ext hx)
        replace hY := mkHid (hY.out.ext hx)
        replace zM := mkHid (hx.blk zM.out)
        replace zR := mkHid (hx.blk zR.out)
        replace hX := mkHid (hX.out.trans hx)
        replace ht := mkHid (ht.out.ext hx)
        clear hx
        replace zT := mkHid zT
        refine (ks.out _ _ _ ht.out hY.out).mono ?_
        rintro e w11 ⟨rfl, hx⟩
        replace hE := mkHid (hE.out.trans hx)
        replace hM := mkHid (hM.out.ext hx)
        replace hY := mkHid (hY.out.ext hx)
        replace zM := mkHid (hx.blk zM.out)
        replace zR := mkHid (hx.blk zR.out)
        replace hX := mkHid (hX.out.trans hx)
        replace ht := mkHid (ht.out.ext hx)
        replace zT := mkHid (hx.blk zT.out)
        clear hx
        clear ks
        go_wp2_with fail
        go_roundw
        case rel => exact ⟨k + 1, by go_num, by omega, by omega, hX.out⟩
        case measure => simp [intOf] <;> omega
end Go.Proofs.Ytpmfohhpaoagfaa
namespace Go.Proofs.Ytpmfohhpaoagfaa
open Go Go.RowKit Go.Proofs
theorem returns_c (n : Int) (v r : Value) (w : World) (h : RawM w v) (hr : RawY w r) :
    Calls Try.prog 6 #[v, r, .int .i64 n] w fun e w' => e = .returned (.bool true) ∧ Ext w w' := by
  by_cases hno : ∃ oa ob oc od oy ou, AnyM w v oa ob oc od ∧ AnyY w r oy ou
  · obtain ⟨oa, ob, oc, od, oy, ou, h1, h2⟩ := hno
    cases hm : okM oa ob oc od with
    | false => exact returns_no n v r oa ob oc od oy ou w h1 h2 hm
    | true =>
      obtain ⟨a, rfl⟩ : ∃ a, oa = some a := by cases oa with | none => exact absurd hm (by simp [okM]) | some a => exact ⟨a, rfl⟩
      obtain ⟨b, rfl⟩ : ∃ a, ob = some a := by cases ob with | none => exact absurd hm (by simp [okM]) | some a => exact ⟨a, rfl⟩
      obtain ⟨c, rfl⟩ : ∃ a, oc = some a := by cases oc with | none => exact absurd hm (by simp [okM]) | some a => exact ⟨a, rfl⟩
      obtain ⟨d, rfl⟩ : ∃ a, od = some a := by cases od with | none => exact absurd hm (by simp [okM]) | some a => exact ⟨a, rfl⟩
      have hdet : a * d - b * c = 1 := by simpa [okM] using hm
      cases hy : okY oy ou with
      | false => exact returns_no2 n v r a b c d oy ou w h1 h2 hdet hy
      | true =>
        obtain ⟨y, rfl⟩ : ∃ a, oy = some a := by cases oy with | none => exact absurd hy (by simp [okY]) | some a => exact ⟨a, rfl⟩
        obtain ⟨u, rfl⟩ : ∃ a, ou = some a := by cases ou with | none => exact absurd hy (by simp [okY]) | some a => exact ⟨a, rfl⟩
        by_cases hO : 0 < ordM a b c d
        · exact returns_pp n v r a b c d y u w h1 h2 hdet hO
        · by_cases hG : 0 < agM a b c d y u
          · exact returns_zp n v r a b c d y u w h1 h2 hdet hO hG
          · exact returns_zz n v r a b c d y u w h1 h2 hdet hO hG
  · exact returns_big n v r w h hr (fun oa ob oc od oy ou hh => hno ⟨oa, ob, oc, od, oy, ou, hh⟩)
end Go.Proofs.Ytpmfohhpaoagfaa
