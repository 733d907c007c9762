/-
  PeriodSteps, walked: where the matrix is fine: printed by tools/gen_steps.py. PeriodSteps, walked: for whatever comes in: printed by tools/gen_steps.py. PeriodSteps: for every input the law returns true, and its arguments read as they did. No condition.
-/
import Derived.Test.YtpmfohhpaoagfaaMS
import Derived.Test.YtpmfohhpaoagfaaMY
import Derived.Test.YtpmfohhpaoagfaaRows
import Derived.Test.YtpmfohhpaoagfaaMU
namespace Go.Proofs.Ytpmfohhpaoagfaa
open Go Go.RowKit Go.Proofs
set_option maxRecDepth 100000 in
set_option maxHeartbeats 25600000 in
theorem steps_fine (n : Int) (v r : Value) (a b c d : Rat) (oy ou : Option Rat) (w : World) (h : AnyM w v (some a) (some b) (some c) (some d)) (hr : AnyY w r oy ou) (hdet : a * d - b * c = 1) :
    Calls Try.prog 5 #[v, .int .i64 n, r] w fun e w' => e = .returned (.bool true) ∧ Ext w w' := by
  have hM := mkHid h
  have hY := mkHid hr
  obtain ⟨A1, A2, A3, A4, A5, A6, A7, A8, B1, B2, B3, B4, B5, B6, B7, B8, C1, C2, C3, C4, C5, C6, C7, C8, D1, D2, D3, D4, D5, D6, D7, D8, rfl, h1, h2, h3, h4⟩ := h
  obtain ⟨Y1, Y2, Y3, Y4, Y5, Y6, Y7, Y8, U1, U2, U3, U4, U5, U6, U7, U8, rfl, h5, h6⟩ := hr
  have pA : A3 ≤ 140737488355328 := Nat.le_trans h1.lens.1 (by decide)
  have qA : A7 ≤ 140737488355328 := Nat.le_trans h1.lens.2 (by decide)
  have pB : B3 ≤ 140737488355328 := Nat.le_trans h2.lens.1 (by decide)
  have qB : B7 ≤ 140737488355328 := Nat.le_trans h2.lens.2 (by decide)
  have pC : C3 ≤ 140737488355328 := Nat.le_trans h3.lens.1 (by decide)
  have qC : C7 ≤ 140737488355328 := Nat.le_trans h3.lens.2 (by decide)
  have pD : D3 ≤ 140737488355328 := Nat.le_trans h4.lens.1 (by decide)
  have qD : D7 ≤ 140737488355328 := Nat.le_trans h4.lens.2 (by decide)
  have pY : Y3 ≤ 140737488355328 := Nat.le_trans h5.lens.1 (by decide)
  have qY : Y7 ≤ 140737488355328 := Nat.le_trans h5.lens.2 (by decide)
  have pU : U3 ≤ 140737488355328 := Nat.le_trans h6.lens.1 (by decide)
  have qU : U7 ≤ 140737488355328 := Nat.le_trans h6.lens.2 (by decide)
  clear h1 h2 h3 h4 h5 h6
  have kl := mkHid lives_c
  have km := mkHid (fun w => matrixCost_c A1 A2 A3 A4 A5 A6 A7 A8 B1 B2 B3 B4 B5 B6 B7 B8 C1 C2 C3 C4 C5 C6 C7 C8 D1 D2 D3 D4 D5 D6 D7 D8 w pA qA pB qB pC qC pD qD)
  have kr := mkHid (fun w => rayCost_c Y1 Y2 Y3 Y4 Y5 Y6 Y7 Y8 U1 U2 U3 U4 U5 U6 U7 U8 w pY qY pU qU)
  obtain ⟨cA1, cA2, cA3, cA4⟩ := costV_b A3 A7 pA qA
  obtain ⟨cB1, cB2, cB3, cB4⟩ := costV_b B3 B7 pB qB
  obtain ⟨cC1, cC2, cC3, cC4⟩ := costV_b C3 C7 pC qC
  obtain ⟨cD1, cD2, cD3, cD4⟩ := costV_b D3 D7 pD qD
  obtain ⟨cY1, cY2, cY3, cY4⟩ := costV_b Y3 Y7 pY qY
  obtain ⟨cU1, cU2, cU3, cU4⟩ := costV_b U3 U7 pU qU
  generalize costV A3 A7 = CA at *
  generalize costV B3 B7 = CB at *
  generalize costV C3 C7 = CC at *
  generalize costV D3 D7 = CD at *
  generalize costV Y3 Y7 = CY at *
  generalize costV U3 U7 = CU at *
  obtain ⟨CM, hCM⟩ : ∃ C : Int, C = CA + CB + CC + CD := ⟨_, rfl⟩
  obtain ⟨CR, hCR⟩ : ∃ C : Int, C = CY + CU := ⟨_, rfl⟩
  rw [← hCM] at km
  rw [← hCR] at kr
  have kb := mkHid (fun g w h h' => beyond2_c g 2 CM CR w (by omega) (by omega) (by omega) (by omega) h h')
  clear hCM hCR cA1 cA2 cA3 cA4 pA qA cB1 cB2 cB3 cB4 pB qB cC1 cC2 cC3 cC4 pC qC cD1 cD2 cD3 cD4 pD qD cY1 cY2 cY3 cY4 pY qY cU1 cU2 cU3 cU4 pU qU 
  have hm := mkHid (show okM (some a) (some b) (some c) (some d) = true by simpa [okM] using hdet)
  have kpw := mkHid (fun (k : Nat) W (hk : k ≤ 4096) h => power_fine k (.agg #[.bool A1, .slice A2 A3 A4, .bool A5, .slice A6 A7 A8, .bool B1, .slice B2 B3 B4, .bool B5, .slice B6 B7 B8, .bool C1, .slice C2 C3 C4, .bool C5, .slice C6 C7 C8, .bool D1, .slice D2 D3 D4, .bool D5, .slice D6 D7 D8]) a b c d W h hm.out hk)
  replace hdet := mkHid hdet
  have hE := mkHid (Ext.refl w)
  go_enter Try.func5, Try.ntmps5
  obtain ⟨w1, hw1⟩ : ∃ w1, w1 = (w.alloc (.cells #[.bool A1, .slice A2 A3 A4, .bool A5, .slice A6 A7 A8, .bool B1, .slice B2 B3 B4, .bool B5, .slice B6 B7 B8, .bool C1, .slice C2 C3 C4, .bool C5, .slice C6 C7 C8, .bool D1, .slice D2 D3 D4, .bool D5, .slice D6 D7 D8] 40)).alloc (.cells #[.bool Y1, .slice Y2 Y3 Y4, .bool Y5, .slice Y6 Y7 Y8, .bool U1, .slice U2 U3 U4, .bool U5, .slice U6 U7 U8] 48) := ⟨_, rfl⟩
  have hx : Ext w w1 := by rw [hw1]; exact (((Ext.refl w).al _).al _)
  have zM : w1.heap[w.heap.size]? = some (.cells #[.bool A1, .slice A2 A3 A4, .bool A5, .slice A6 A7 A8, .bool B1, .slice B2 B3 B4, .bool B5, .slice B6 B7 B8, .bool C1, .slice C2 C3 C4, .bool C5, .slice C6 C7 C8, .bool D1, .slice D2 D3 D4, .bool D5, .slice D6 D7 D8] 40 (0, 0)) := by rw [hw1]; exact (heap_alloc_old _ _ (by simp <;> omega)).trans (heap_at _ _ _ (by simp))
  have zR : w1.heap[w.heap.size + 1]? = some (.cells #[.bool Y1, .slice Y2 Y3 Y4, .bool Y5, .slice Y6 Y7 Y8, .bool U1, .slice U2 U3 U4, .bool U5, .slice U6 U7 U8] 48 (0, 0)) := by rw [hw1]; exact heap_at _ _ _ (by simp)
  obtain ⟨g2, hg2⟩ : ∃ g2, g2 = w.heap.size := ⟨_, rfl⟩
  rw [← hg2] at zM zR
  go_wp2_with (first
    | (refine wpList_load_row rfl 40 (.tmp 3) rfl (w.heap.size) rfl 40 #[.bool A1, .slice A2 A3 A4, .bool A5, .slice A6 A7 A8, .bool B1, .slice B2 B3 B4, .bool B5, .slice B6 B7 B8, .bool C1, .slice C2 C3 C4, .bool C5, .slice C6 C7 C8, .bool D1, .slice D2 D3 D4, .bool D5, .slice D6 D7 D8] (0, 0) _ ((heap_alloc_old _ _ (by simp <;> omega)).trans (heap_at _ _ _ (by simp))) Try.underlying40 rfl (by kernel_rfl) ?_)
    | (refine wpList_load_row rfl 48 (.tmp 5) rfl (w.heap.size + 1) rfl 48 #[.bool Y1, .slice Y2 Y3 Y4, .bool Y5, .slice Y6 Y7 Y8, .bool U1, .slice U2 U3 U4, .bool U5, .slice U6 U7 U8] (0, 0) _ (heap_at _ _ _ (by simp)) Try.underlying48 rfl (by kernel_rfl) ?_))
  rw [← hg2, ← hw1]
  clear hg2 hw1
  replace hE := mkHid (hE.out.trans hx)
  replace hM := mkHid (hM.out.ext hx)
  replace hY := mkHid (hY.out.ext hx)
  clear hx
  replace zM := mkHid zM
  replace zR := mkHid zR
  apply region_ext [.val (.agg #[.bool A1, .slice A2 A3 A4, .bool A5, .slice A6 A7 A8, .bool B1, .slice B2 B3 B4, .bool B5, .slice B6 B7 B8, .bool C1, .slice C2 C3 C4, .bool C5, .slice C6 C7 C8, .bool D1, .slice D2 D3 D4, .bool D5, .slice D6 D7 D8]), .val (.int .i64 CM), .val (.agg #[.bool Y1, .slice Y2 Y3 Y4, .bool Y5, .slice Y6 Y7 Y8, .bool U1, .slice U2 U3 U4, .bool U5, .slice U6 U7 U8]), .val (.int .i64 CR), .pred (SlI CM CR), .pred (fun _ v => ByV (CM + CR) v)] (by kernel_rfl) (stable_vals _ (stable_vals _ (stable_vals _ (stable_vals _ (st_slI _ _ (st_byV _ trivial))))))
  refine ⟨fun W hW _ => fr_load rfl 40 (.tmp 3) rfl (g2) rfl 40 #[.bool A1, .slice A2 A3 A4, .bool A5, .slice A6 A7 A8, .bool B1, .slice B2 B3 B4, .bool B5, .slice B6 B7 B8, .bool C1, .slice C2 C3 C4, .bool C5, .slice C6 C7 C8, .bool D1, .slice D2 D3 D4, .bool D5, .slice D6 D7 D8] (0, 0) _ (hW.blk zM.out) Try.underlying40 rfl (by kernel_rfl) ⟨Ext.refl _, rfl⟩, ⟨fun W hW _ => ?b1, ⟨fun W hW _ => fr_load rfl 48 (.tmp 5) rfl (g2 + 1) rfl 48 #[.bool Y1, .slice Y2 Y3 Y4, .bool Y5, .slice Y6 Y7 Y8, .bool U1, .slice U2 U3 U4, .bool U5, .slice U6 U7 U8] (0, 0) _ (hW.blk zR.out) Try.underlying48 rfl (by kernel_rfl) ⟨Ext.refl _, rfl⟩, ⟨fun W hW _ => ?b3,  ⟨fun W hW _ => ?b4, fun x4 => ⟨fun W hW hF => ?b5, fun x5 => ?_⟩⟩⟩⟩⟩⟩
  case b1 =>
    go_simp
    refine (km.out W).mono ?_
    rintro e w' ⟨rfl, h1⟩
    exact ⟨rfl, h1⟩
  case b3 =>
    go_simp
    refine (kr.out W).mono ?_
    rintro e w' ⟨rfl, h1⟩
    exact ⟨rfl, h1⟩
  case b4 =>
    have hs := mkHid ((Ext.refl W).al (.cells #[.int .i64 CM, .int .i64 CR] 3))
    have hsl := mkHid (show SlI CM CR (W.alloc (.cells #[.int .i64 CM, .int .i64 CR] 3)) (.slice (some ⟨W.heap.size, 0, none⟩) 2 2) from ⟨_, rfl, heap_alloc_new _ _⟩)
    go_simp
    exact ⟨hs.out, hsl.out⟩
  case b5 =>
    have dd : SlI CM CR W x4 := hF.1 (by kernel_rfl)
    obtain ⟨g, rfl, hg⟩ := dd
    clear hF
    go_simp
    refine (kb.out g W (by simp [World.cell?, hg]) (by simp [World.cell?, hg])).mono ?_
    rintro e w' ⟨v, rfl, e1, e2⟩
    exact ⟨v, rfl, e1, e2⟩
  intro W1 hW hF
  have hB : ByV (CM + CR) x5 := hF.1 rfl
  obtain ⟨rb, rfl, hB⟩ := hB
  clear hF
  replace hE := mkHid (hE.out.trans hW)
  replace hM := mkHid (hM.out.ext hW)
  replace hY := mkHid (hY.out.ext hW)
  replace zM := mkHid (hW.blk zM.out)
  replace zR := mkHid (hW.blk zR.out)
  clear hW km kr kb
  go_simp
  cases rb with
  | true =>
    clear hB
    go_wp2_with fail
    refine (kl.out _).mono ?_
    rintro e wl ⟨rfl, hl⟩
    go_wp2_with fail
    go_ret
    exact ⟨rfl, hE.out.trans hl⟩
  | false =>
    clear hB
    by_cases hn0 : n < 0
    case pos =>
      go_wp2_with fail
      refine (kl.out _).mono ?_
      rintro e wl ⟨rfl, hl⟩
      go_wp2_with fail
      go_ret
      exact ⟨rfl, hE.out.trans hl⟩
    by_cases hn6 : 60 < n
    case pos =>
      go_wp2_with fail
      refine (kl.out _).mono ?_
      rintro e wl ⟨rfl, hl⟩
      go_wp2_with fail
      go_ret
      exact ⟨rfl, hE.out.trans hl⟩
    obtain ⟨k, rfl⟩ : ∃ k : Nat, n = (k : Int) := ⟨n.toNat, by omega⟩
    have hk : k ≤ 60 := by omega
    have ek : IntKind.i64.wrap ((k : Int) + 1) = ((k + 1 : Nat) : Int) := by rw [IntKind.wrap_i64]; omega
    have kp := mkHid (fun W h => kpw.out k W (by omega) h)
    have kq := mkHid (fun W h => kpw.out (k + 1) W (by omega) h)
    have ep := @powE_ok k a b c d
    have eq := @powE_ok (k + 1) a b c d
    have fp := @powE_fine k a b c d
    have fq := @powE_fine (k + 1) a b c d
    have tp := powE_two k a b c d
    have tq := powE_two (k + 1) a b c d
    have dp := mkHid (pw_det hdet.out k)
    have dq := mkHid (pw_det hdet.out (k + 1))
    have lf := mkHid (pw_left hdet.out k)
    have rt := mkHid (pw_right hdet.out k)
    clear kpw
    generalize powE k a b c d = E1 at *
    generalize powE (k + 1) a b c d = E2 at *
    generalize powOA k a b c d = PA at *
    generalize powOB k a b c d = PB at *
    generalize powOC k a b c d = PC at *
    generalize powOD k a b c d = PD at *
    generalize powOA (k + 1) a b c d = QA at *
    generalize powOB (k + 1) a b c d = QB at *
    generalize powOC (k + 1) a b c d = QC at *
    generalize powOD (k + 1) a b c d = QD at *
    generalize pwA k a d = pa at *
    generalize pwX k a d b = pb at *
    generalize pwX k a d c = pc at *
    generalize pwA k d a = pd at *
    generalize pwA (k + 1) a d = qa at *
    generalize pwX (k + 1) a d b = qb at *
    generalize pwX (k + 1) a d c = qc at *
    generalize pwA (k + 1) d a = qd at *
    replace ep := mkHid ep
    replace eq := mkHid eq
    replace fp := mkHid fp
    replace fq := mkHid fq
    go_wp2_with (first
      | (refine wpList_load_row rfl 40 (.tmp 3) rfl (g2) rfl 40 #[.bool A1, .slice A2 A3 A4, .bool A5, .slice A6 A7 A8, .bool B1, .slice B2 B3 B4, .bool B5, .slice B6 B7 B8, .bool C1, .slice C2 C3 C4, .bool C5, .slice C6 C7 C8, .bool D1, .slice D2 D3 D4, .bool D5, .slice D6 D7 D8] (0, 0) _ (zM.out) Try.underlying40 rfl (by kernel_rfl) ?_))
    refine (kp.out _ hM.out).mono ?_
    rintro e w3 ⟨vp, rfl, hx, hp⟩
    replace hE := mkHid (hE.out.trans hx)
    replace hM := mkHid (hM.out.ext hx)
    replace hY := mkHid (hY.out.ext hx)
    replace zM := mkHid (hx.blk zM.out)
    replace zR := mkHid (hx.blk zR.out)
    clear hx
    replace hp := mkHid hp
    have hh := hp.out
    obtain ⟨P11, P12, P13, P14, P15, P16, P17, P18, P21, P22, P23, P24, P25, P26, P27, P28, P31, P32, P33, P34, P35, P36, P37, P38, P41, P42, P43, P44, P45, P46, P47, P48, rfl, -⟩ := hh
    obtain ⟨w4, hw4⟩ : ∃ w4, w4 = w3.alloc (.cells #[.bool P11, .slice P12 P13 P14, .bool P15, .slice P16 P17 P18, .bool P21, .slice P22 P23 P24, .bool P25, .slice P26 P27 P28, .bool P31, .slice P32 P33 P34, .bool P35, .slice P36 P37 P38, .bool P41, .slice P42 P43 P44, .bool P45, .slice P46 P47 P48] 40) := ⟨_, rfl⟩
    have hx : Ext w3 w4 := by rw [hw4]; exact ((Ext.refl w3).al _)
    have zP : w4.heap[w3.heap.size]? = some (.cells #[.bool P11, .slice P12 P13 P14, .bool P15, .slice P16 P17 P18, .bool P21, .slice P22 P23 P24, .bool P25, .slice P26 P27 P28, .bool P31, .slice P32 P33 P34, .bool P35, .slice P36 P37 P38, .bool P41, .slice P42 P43 P44, .bool P45, .slice P46 P47 P48] 40 (0, 0)) := by rw [hw4]; exact heap_at _ _ _ (by simp)
    obtain ⟨g5, hg5⟩ : ∃ g5, g5 = w3.heap.size := ⟨_, rfl⟩
    rw [← hg5] at zP
    have ltM : g2 < w3.heap.size := (Array.getElem?_eq_some_iff.1 zM.out).1
    go_wp2_with (first
      | (refine wpList_load_row rfl 40 (.tmp 3) rfl (g2) rfl 40 #[.bool A1, .slice A2 A3 A4, .bool A5, .slice A6 A7 A8, .bool B1, .slice B2 B3 B4, .bool B5, .slice B6 B7 B8, .bool C1, .slice C2 C3 C4, .bool C5, .slice C6 C7 C8, .bool D1, .slice D2 D3 D4, .bool D5, .slice D6 D7 D8] (0, 0) _ ((heap_alloc_old _ _ (by first | omega | (simp <;> omega))).trans (zM.out)) Try.underlying40 rfl (by kernel_rfl) ?_)
      | (refine wpList_load_row rfl 40 (.tmp 7) rfl (w3.heap.size) rfl 40 #[.bool P11, .slice P12 P13 P14, .bool P15, .slice P16 P17 P18, .bool P21, .slice P22 P23 P24, .bool P25, .slice P26 P27 P28, .bool P31, .slice P32 P33 P34, .bool P35, .slice P36 P37 P38, .bool P41, .slice P42 P43 P44, .bool P45, .slice P46 P47 P48] (0, 0) _ (heap_at _ _ _ (by simp)) Try.underlying40 rfl (by kernel_rfl) ?_))
    rw [← hg5, ← hw4]
    clear ltM
    clear hg5 hw4
    replace hE := mkHid (hE.out.trans hx)
    replace hM := mkHid (hM.out.ext hx)
    replace hY := mkHid (hY.out.ext hx)
    replace zM := mkHid (hx.blk zM.out)
    replace zR := mkHid (hx.blk zR.out)
    replace hp := mkHid (hp.out.ext hx)
    clear hx
    replace zP := mkHid zP
    refine (kq.out _ hM.out).mono ?_
    rintro e w6 ⟨vq, rfl, hx, hq⟩
    replace hE := mkHid (hE.out.trans hx)
    replace hM := mkHid (hM.out.ext hx)
    replace hY := mkHid (hY.out.ext hx)
    replace zM := mkHid (hx.blk zM.out)
    replace zR := mkHid (hx.blk zR.out)
    replace hp := mkHid (hp.out.ext hx)
    replace zP := mkHid (hx.blk zP.out)
    clear hx
    replace hq := mkHid hq
    have hh := hq.out
    obtain ⟨Q11, Q12, Q13, Q14, Q15, Q16, Q17, Q18, Q21, Q22, Q23, Q24, Q25, Q26, Q27, Q28, Q31, Q32, Q33, Q34, Q35, Q36, Q37, Q38, Q41, Q42, Q43, Q44, Q45, Q46, Q47, Q48, rfl, -⟩ := hh
    clear kp kq
    rcases tp with rfl | rfl <;> rcases tq with rfl | rfl
    case inr.inr =>
      go_wp2_with fail
      refine (kl.out _).mono ?_
      rintro e wl ⟨rfl, hl⟩
      go_wp2_with fail
      go_ret
      exact ⟨rfl, hE.out.trans (((Ext.refl _).al _).trans hl)⟩
    case inr.inl =>
      go_wp2_with fail
      refine (kl.out _).mono ?_
      rintro e wl ⟨rfl, hl⟩
      go_wp2_with fail
      go_ret
      exact ⟨rfl, hE.out.trans (((Ext.refl _).al _).trans hl)⟩
    case inl.inr =>
      go_wp2_with fail
      refine (kl.out _).mono ?_
      rintro e wl ⟨rfl, hl⟩
      go_wp2_with fail
      go_ret
      exact ⟨rfl, hE.out.trans (((Ext.refl _).al _).trans hl)⟩
    obtain ⟨rfl, rfl, rfl, rfl⟩ := ep.out rfl
    obtain ⟨rfl, rfl, rfl, rfl⟩ := eq.out rfl
    have fq' := fq.out rfl
    have kl1 := mkHid (fun W h h' => mul_fine (.agg #[.bool A1, .slice A2 A3 A4, .bool A5, .slice A6 A7 A8, .bool B1, .slice B2 B3 B4, .bool B5, .slice B6 B7 B8, .bool C1, .slice C2 C3 C4, .bool C5, .slice C6 C7 C8, .bool D1, .slice D2 D3 D4, .bool D5, .slice D6 D7 D8]) (.agg #[.bool P11, .slice P12 P13 P14, .bool P15, .slice P16 P17 P18, .bool P21, .slice P22 P23 P24, .bool P25, .slice P26 P27 P28, .bool P31, .slice P32 P33 P34, .bool P35, .slice P36 P37 P38, .bool P41, .slice P42 P43 P44, .bool P45, .slice P46 P47 P48]) a b c d pa pb pc pd W h h' hm.out (by simpa [okM] using dp.out) (by rw [lf.out.1, lf.out.2.1, lf.out.2.2.1, lf.out.2.2.2]; exact fq'))
    have kr1 := mkHid (fun W h h' => mul_fine (.agg #[.bool P11, .slice P12 P13 P14, .bool P15, .slice P16 P17 P18, .bool P21, .slice P22 P23 P24, .bool P25, .slice P26 P27 P28, .bool P31, .slice P32 P33 P34, .bool P35, .slice P36 P37 P38, .bool P41, .slice P42 P43 P44, .bool P45, .slice P46 P47 P48]) (.agg #[.bool A1, .slice A2 A3 A4, .bool A5, .slice A6 A7 A8, .bool B1, .slice B2 B3 B4, .bool B5, .slice B6 B7 B8, .bool C1, .slice C2 C3 C4, .bool C5, .slice C6 C7 C8, .bool D1, .slice D2 D3 D4, .bool D5, .slice D6 D7 D8]) pa pb pc pd a b c d W h h' (by simpa [okM] using dp.out) hm.out (by rw [rt.out.1, rt.out.2.1, rt.out.2.2.1, rt.out.2.2.2]; exact fq'))
    rw [lf.out.1, lf.out.2.1, lf.out.2.2.1, lf.out.2.2.2] at kl1
    rw [rt.out.1, rt.out.2.1, rt.out.2.2.1, rt.out.2.2.2] at kr1
    have ks := mkHid (fun W v v' h h' => sameMatrix_f v v' qa qb qc qd qa qb qc qd W h h')
    have kc := mkHid (fun W v h => check_m v (some qa) (some qb) (some qc) (some qd) W h)
    rw [decide_eq_true (show qa = qa ∧ qb = qb ∧ qc = qc ∧ qd = qd from ⟨rfl, rfl, rfl, rfl⟩)] at ks
    rw [show okM (some qa) (some qb) (some qc) (some qd) = true by simpa [okM] using dq.out, if_pos rfl] at kc
    have lf2 := lf
    clear ep eq fp fq fq' lf rt
    obtain ⟨w7, hw7⟩ : ∃ w7, w7 = w6.alloc (.cells #[.bool Q11, .slice Q12 Q13 Q14, .bool Q15, .slice Q16 Q17 Q18, .bool Q21, .slice Q22 Q23 Q24, .bool Q25, .slice Q26 Q27 Q28, .bool Q31, .slice Q32 Q33 Q34, .bool Q35, .slice Q36 Q37 Q38, .bool Q41, .slice Q42 Q43 Q44, .bool Q45, .slice Q46 Q47 Q48] 40) := ⟨_, rfl⟩
    have hx : Ext w6 w7 := by rw [hw7]; exact ((Ext.refl w6).al _)
    have zQ : w7.heap[w6.heap.size]? = some (.cells #[.bool Q11, .slice Q12 Q13 Q14, .bool Q15, .slice Q16 Q17 Q18, .bool Q21, .slice Q22 Q23 Q24, .bool Q25, .slice Q26 Q27 Q28, .bool Q31, .slice Q32 Q33 Q34, .bool Q35, .slice Q36 Q37 Q38, .bool Q41, .slice Q42 Q43 Q44, .bool Q45, .slice Q46 Q47 Q48] 40 (0, 0)) := by rw [hw7]; exact heap_at _ _ _ (by simp)
    obtain ⟨g8, hg8⟩ : ∃ g8, g8 = w6.heap.size := ⟨_, rfl⟩
    rw [← hg8] at zQ
    have ltM : g2 < w6.heap.size := (Array.getElem?_eq_some_iff.1 zM.out).1
    have ltP : g5 < w6.heap.size := (Array.getElem?_eq_some_iff.1 zP.out).1
    go_wp2_with (first
      | (refine wpList_load_row rfl 40 (.tmp 3) rfl (g2) rfl 40 #[.bool A1, .slice A2 A3 A4, .bool A5, .slice A6 A7 A8, .bool B1, .slice B2 B3 B4, .bool B5, .slice B6 B7 B8, .bool C1, .slice C2 C3 C4, .bool C5, .slice C6 C7 C8, .bool D1, .slice D2 D3 D4, .bool D5, .slice D6 D7 D8] (0, 0) _ ((heap_alloc_old _ _ (by first | omega | (simp <;> omega))).trans (zM.out)) Try.underlying40 rfl (by kernel_rfl) ?_)
      | (refine wpList_load_row rfl 40 (.tmp 7) rfl (g5) rfl 40 #[.bool P11, .slice P12 P13 P14, .bool P15, .slice P16 P17 P18, .bool P21, .slice P22 P23 P24, .bool P25, .slice P26 P27 P28, .bool P31, .slice P32 P33 P34, .bool P35, .slice P36 P37 P38, .bool P41, .slice P42 P43 P44, .bool P45, .slice P46 P47 P48] (0, 0) _ ((heap_alloc_old _ _ (by first | omega | (simp <;> omega))).trans (zP.out)) Try.underlying40 rfl (by kernel_rfl) ?_)
      | (refine wpList_load_row rfl 40 (.tmp 9) rfl (w6.heap.size) rfl 40 #[.bool Q11, .slice Q12 Q13 Q14, .bool Q15, .slice Q16 Q17 Q18, .bool Q21, .slice Q22 Q23 Q24, .bool Q25, .slice Q26 Q27 Q28, .bool Q31, .slice Q32 Q33 Q34, .bool Q35, .slice Q36 Q37 Q38, .bool Q41, .slice Q42 Q43 Q44, .bool Q45, .slice Q46 Q47 Q48] (0, 0) _ (heap_at _ _ _ (by simp)) Try.underlying40 rfl (by kernel_rfl) ?_))
    rw [← hg8, ← hw7]
    clear ltM ltP
    clear hg8 hw7
    replace hE := mkHid (hE.out.trans hx)
    replace hM := mkHid (hM.out.ext hx)
    replace hY := mkHid (hY.out.ext hx)
    replace zM := mkHid (hx.blk zM.out)
    replace zR := mkHid (hx.blk zR.out)
    replace hp := mkHid (hp.out.ext hx)
    replace zP := mkHid (hx.blk zP.out)
    replace hq := mkHid (hq.out.ext hx)
    clear hx
    replace zQ := mkHid zQ
    refine (kl1.out _ hM.out hp.out).mono ?_
    rintro e w9 ⟨vs, rfl, hx, hs⟩
    replace hE := mkHid (hE.out.trans hx)
    replace hM := mkHid (hM.out.ext hx)
    replace hY := mkHid (hY.out.ext hx)
    replace zM := mkHid (hx.blk zM.out)
    replace zR := mkHid (hx.blk zR.out)
    replace hp := mkHid (hp.out.ext hx)
    replace zP := mkHid (hx.blk zP.out)
    replace hq := mkHid (hq.out.ext hx)
    replace zQ := mkHid (hx.blk zQ.out)
    clear hx
    replace hs := mkHid hs
    have hh := hs.out
    obtain ⟨S11, S12, S13, S14, S15, S16, S17, S18, S21, S22, S23, S24, S25, S26, S27, S28, S31, S32, S33, S34, S35, S36, S37, S38, S41, S42, S43, S44, S45, S46, S47, S48, rfl, -⟩ := hh
    clear kl1
    obtain ⟨w10, hw10⟩ : ∃ w10, w10 = w9.alloc (.cells #[.bool S11, .slice S12 S13 S14, .bool S15, .slice S16 S17 S18, .bool S21, .slice S22 S23 S24, .bool S25, .slice S26 S27 S28, .bool S31, .slice S32 S33 S34, .bool S35, .slice S36 S37 S38, .bool S41, .slice S42 S43 S44, .bool S45, .slice S46 S47 S48] 40) := ⟨_, rfl⟩
    have hx : Ext w9 w10 := by rw [hw10]; exact ((Ext.refl w9).al _)
    have zS : w10.heap[w9.heap.size]? = some (.cells #[.bool S11, .slice S12 S13 S14, .bool S15, .slice S16 S17 S18, .bool S21, .slice S22 S23 S24, .bool S25, .slice S26 S27 S28, .bool S31, .slice S32 S33 S34, .bool S35, .slice S36 S37 S38, .bool S41, .slice S42 S43 S44, .bool S45, .slice S46 S47 S48] 40 (0, 0)) := by rw [hw10]; exact heap_at _ _ _ (by simp)
    obtain ⟨g11, hg11⟩ : ∃ g11, g11 = w9.heap.size := ⟨_, rfl⟩
    rw [← hg11] at zS
    have ltM : g2 < w9.heap.size := (Array.getElem?_eq_some_iff.1 zM.out).1
    have ltP : g5 < w9.heap.size := (Array.getElem?_eq_some_iff.1 zP.out).1
    go_wp2_with (first
      | (refine wpList_load_row rfl 40 (.tmp 3) rfl (g2) rfl 40 #[.bool A1, .slice A2 A3 A4, .bool A5, .slice A6 A7 A8, .bool B1, .slice B2 B3 B4, .bool B5, .slice B6 B7 B8, .bool C1, .slice C2 C3 C4, .bool C5, .slice C6 C7 C8, .bool D1, .slice D2 D3 D4, .bool D5, .slice D6 D7 D8] (0, 0) _ ((heap_alloc_old _ _ (by first | omega | (simp <;> omega))).trans (zM.out)) Try.underlying40 rfl (by kernel_rfl) ?_)
      | (refine wpList_load_row rfl 40 (.tmp 7) rfl (g5) rfl 40 #[.bool P11, .slice P12 P13 P14, .bool P15, .slice P16 P17 P18, .bool P21, .slice P22 P23 P24, .bool P25, .slice P26 P27 P28, .bool P31, .slice P32 P33 P34, .bool P35, .slice P36 P37 P38, .bool P41, .slice P42 P43 P44, .bool P45, .slice P46 P47 P48] (0, 0) _ ((heap_alloc_old _ _ (by first | omega | (simp <;> omega))).trans (zP.out)) Try.underlying40 rfl (by kernel_rfl) ?_)
      | (refine wpList_load_row rfl 40 (.tmp 11) rfl (w9.heap.size) rfl 40 #[.bool S11, .slice S12 S13 S14, .bool S15, .slice S16 S17 S18, .bool S21, .slice S22 S23 S24, .bool S25, .slice S26 S27 S28, .bool S31, .slice S32 S33 S34, .bool S35, .slice S36 S37 S38, .bool S41, .slice S42 S43 S44, .bool S45, .slice S46 S47 S48] (0, 0) _ (heap_at _ _ _ (by simp)) Try.underlying40 rfl (by kernel_rfl) ?_))
    rw [← hg11, ← hw10]
    clear ltM ltP
    clear hg11 hw10
    replace hE := mkHid (hE.out.trans hx)
    replace hM := mkHid (hM.out.ext hx)
    replace hY := mkHid (hY.out.ext hx)
    replace zM := mkHid (hx.blk zM.out)
    replace zR := mkHid (hx.blk zR.out)
    replace hp := mkHid (hp.out.ext hx)
    replace zP := mkHid (hx.blk zP.out)
    replace hq := mkHid (hq.out.ext hx)
    replace zQ := mkHid (hx.blk zQ.out)
    replace hs := mkHid (hs.out.ext hx)
    clear hx
    replace zS := mkHid zS
    refine (kr1.out _ hp.out hM.out).mono ?_
    rintro e w12 ⟨vt, rfl, hx, ht⟩
    replace hE := mkHid (hE.out.trans hx)
    replace hM := mkHid (hM.out.ext hx)
    replace hY := mkHid (hY.out.ext hx)
    replace zM := mkHid (hx.blk zM.out)
    replace zR := mkHid (hx.blk zR.out)
    replace hp := mkHid (hp.out.ext hx)
    replace zP := mkHid (hx.blk zP.out)
    replace hq := mkHid (hq.out.ext hx)
    replace zQ := mkHid (hx.blk zQ.out)
    replace hs := mkHid (hs.out.ext hx)
    replace zS := mkHid (hx.blk zS.out)
    clear hx
    replace ht := mkHid ht
    have hh := ht.out
    obtain ⟨T11, T12, T13, T14, T15, T16, T17, T18, T21, T22, T23, T24, T25, T26, T27, T28, T31, T32, T33, T34, T35, T36, T37, T38, T41, T42, T43, T44, T45, T46, T47, T48, rfl, -⟩ := hh
    clear kr1
    obtain ⟨w13, hw13⟩ : ∃ w13, w13 = w12.alloc (.cells #[.bool T11, .slice T12 T13 T14, .bool T15, .slice T16 T17 T18, .bool T21, .slice T22 T23 T24, .bool T25, .slice T26 T27 T28, .bool T31, .slice T32 T33 T34, .bool T35, .slice T36 T37 T38, .bool T41, .slice T42 T43 T44, .bool T45, .slice T46 T47 T48] 40) := ⟨_, rfl⟩
    have hx : Ext w12 w13 := by rw [hw13]; exact ((Ext.refl w12).al _)
    have zT : w13.heap[w12.heap.size]? = some (.cells #[.bool T11, .slice T12 T13 T14, .bool T15, .slice T16 T17 T18, .bool T21, .slice T22 T23 T24, .bool T25, .slice T26 T27 T28, .bool T31, .slice T32 T33 T34, .bool T35, .slice T36 T37 T38, .bool T41, .slice T42 T43 T44, .bool T45, .slice T46 T47 T48] 40 (0, 0)) := by rw [hw13]; exact heap_at _ _ _ (by simp)
    obtain ⟨g14, hg14⟩ : ∃ g14, g14 = w12.heap.size := ⟨_, rfl⟩
    rw [← hg14] at zT
    have ltS : g11 < w12.heap.size := (Array.getElem?_eq_some_iff.1 zS.out).1
    have ltQ : g8 < w12.heap.size := (Array.getElem?_eq_some_iff.1 zQ.out).1
    go_wp2_with (first
      | (refine wpList_load_rowG rfl 40 (.tmp 11) rfl (g11) rfl 40 #[.bool S11, .slice S12 S13 S14, .bool S15, .slice S16 S17 S18, .bool S21, .slice S22 S23 S24, .bool S25, .slice S26 S27 S28, .bool S31, .slice S32 S33 S34, .bool S35, .slice S36 S37 S38, .bool S41, .slice S42 S43 S44, .bool S45, .slice S46 S47 S48] (0, 0) _ ((heap_alloc_old _ _ (by first | omega | (simp <;> omega))).trans (zS.out)) Try.underlying40 rfl (by kernel_rfl) ?_)
      | (refine wpList_load_rowG rfl 40 (.tmp 9) rfl (g8) rfl 40 #[.bool Q11, .slice Q12 Q13 Q14, .bool Q15, .slice Q16 Q17 Q18, .bool Q21, .slice Q22 Q23 Q24, .bool Q25, .slice Q26 Q27 Q28, .bool Q31, .slice Q32 Q33 Q34, .bool Q35, .slice Q36 Q37 Q38, .bool Q41, .slice Q42 Q43 Q44, .bool Q45, .slice Q46 Q47 Q48] (0, 0) _ ((heap_alloc_old _ _ (by first | omega | (simp <;> omega))).trans (zQ.out)) Try.underlying40 rfl (by kernel_rfl) ?_)
      | (refine wpList_load_rowG rfl 40 (.tmp 13) rfl (w12.heap.size) rfl 40 #[.bool T11, .slice T12 T13 T14, .bool T15, .slice T16 T17 T18, .bool T21, .slice T22 T23 T24, .bool T25, .slice T26 T27 T28, .bool T31, .slice T32 T33 T34, .bool T35, .slice T36 T37 T38, .bool T41, .slice T42 T43 T44, .bool T45, .slice T46 T47 T48] (0, 0) _ (heap_at _ _ _ (by simp)) Try.underlying40 rfl (by kernel_rfl) ?_))
    rw [← hg14, ← hw13]
    clear ltS ltQ
    clear hg14 hw13
    replace hE := mkHid (hE.out.trans hx)
    replace hM := mkHid (hM.out.ext hx)
    replace hY := mkHid (hY.out.ext hx)
    replace zM := mkHid (hx.blk zM.out)
    replace zR := mkHid (hx.blk zR.out)
    replace hp := mkHid (hp.out.ext hx)
    replace zP := mkHid (hx.blk zP.out)
    replace hq := mkHid (hq.out.ext hx)
    replace zQ := mkHid (hx.blk zQ.out)
    replace hs := mkHid (hs.out.ext hx)
    replace zS := mkHid (hx.blk zS.out)
    replace ht := mkHid (ht.out.ext hx)
    clear hx
    replace zT := mkHid zT
    refine (ks.out _ _ _ hs.out hq.out).mono ?_
    rintro e w15 ⟨rfl, hx⟩
    replace hE := mkHid (hE.out.trans hx)
    replace hM := mkHid (hM.out.ext hx)
    replace hY := mkHid (hY.out.ext hx)
    replace zM := mkHid (hx.blk zM.out)
    replace zR := mkHid (hx.blk zR.out)
    replace hp := mkHid (hp.out.ext hx)
    replace zP := mkHid (hx.blk zP.out)
    replace hq := mkHid (hq.out.ext hx)
    replace zQ := mkHid (hx.blk zQ.out)
    replace hs := mkHid (hs.out.ext hx)
    replace zS := mkHid (hx.blk zS.out)
    replace ht := mkHid (ht.out.ext hx)
    replace zT := mkHid (hx.blk zT.out)
    clear hx
    go_wp2_with (first
      | (refine wpList_load_rowG rfl 40 (.tmp 13) rfl (g14) rfl 40 #[.bool T11, .slice T12 T13 T14, .bool T15, .slice T16 T17 T18, .bool T21, .slice T22 T23 T24, .bool T25, .slice T26 T27 T28, .bool T31, .slice T32 T33 T34, .bool T35, .slice T36 T37 T38, .bool T41, .slice T42 T43 T44, .bool T45, .slice T46 T47 T48] (0, 0) _ (zT.out) Try.underlying40 rfl (by kernel_rfl) ?_)
      | (refine wpList_load_rowG rfl 40 (.tmp 9) rfl (g8) rfl 40 #[.bool Q11, .slice Q12 Q13 Q14, .bool Q15, .slice Q16 Q17 Q18, .bool Q21, .slice Q22 Q23 Q24, .bool Q25, .slice Q26 Q27 Q28, .bool Q31, .slice Q32 Q33 Q34, .bool Q35, .slice Q36 Q37 Q38, .bool Q41, .slice Q42 Q43 Q44, .bool Q45, .slice Q46 Q47 Q48] (0, 0) _ (zQ.out) Try.underlying40 rfl (by kernel_rfl) ?_))
    refine (ks.out _ _ _ ht.out hq.out).mono ?_
    rintro e w16 ⟨rfl, hx⟩
    replace hE := mkHid (hE.out.trans hx)
    replace hM := mkHid (hM.out.ext hx)
    replace hY := mkHid (hY.out.ext hx)
    replace zM := mkHid (hx.blk zM.out)
    replace zR := mkHid (hx.blk zR.out)
    replace hp := mkHid (hp.out.ext hx)
    replace zP := mkHid (hx.blk zP.out)
    replace hq := mkHid (hq.out.ext hx)
    replace zQ := mkHid (hx.blk zQ.out)
    replace hs := mkHid (hs.out.ext hx)
    replace zS := mkHid (hx.blk zS.out)
    replace ht := mkHid (ht.out.ext hx)
    replace zT := mkHid (hx.blk zT.out)
    clear hx
    go_wp2_with (first
      | (refine wpList_load_rowG rfl 40 (.tmp 9) rfl (g8) rfl 40 #[.bool Q11, .slice Q12 Q13 Q14, .bool Q15, .slice Q16 Q17 Q18, .bool Q21, .slice Q22 Q23 Q24, .bool Q25, .slice Q26 Q27 Q28, .bool Q31, .slice Q32 Q33 Q34, .bool Q35, .slice Q36 Q37 Q38, .bool Q41, .slice Q42 Q43 Q44, .bool Q45, .slice Q46 Q47 Q48] (0, 0) _ (zQ.out) Try.underlying40 rfl (by kernel_rfl) ?_))
    refine (kc.out _ _ hq.out).mono ?_
    rintro e w17 ⟨rfl, hx⟩
    replace hE := mkHid (hE.out.trans hx)
    replace hM := mkHid (hM.out.ext hx)
    replace hY := mkHid (hY.out.ext hx)
    replace zM := mkHid (hx.blk zM.out)
    replace zR := mkHid (hx.blk zR.out)
    replace hp := mkHid (hp.out.ext hx)
    replace zP := mkHid (hx.blk zP.out)
    replace hq := mkHid (hq.out.ext hx)
    replace zQ := mkHid (hx.blk zQ.out)
    replace hs := mkHid (hs.out.ext hx)
    replace zS := mkHid (hx.blk zS.out)
    replace ht := mkHid (ht.out.ext hx)
    replace zT := mkHid (hx.blk zT.out)
    clear hx
    clear ks kc
    clear zS zT hs ht
    have t1 := mkHid (fun W v v' h h' => through_c v v' (some pa) (some pb) (some pc) (some pd) oy ou W h h')
    have t2 := mkHid (fun W v v' h h' => through_c v v' (some qa) (some qb) (some qc) (some qd) oy ou W h h')
    have t3 := mkHid (fun W v v' h h' => through_c v v' (some a) (some b) (some c) (some d) (thY (some pa) (some pb) (some pc) (some pd) oy ou) (thU (some pa) (some pb) (some pc) (some pd) oy ou) W h h')
    go_wp2_with (first
      | (refine wpList_load_row rfl 40 (.tmp 7) rfl (g5) rfl 40 #[.bool P11, .slice P12 P13 P14, .bool P15, .slice P16 P17 P18, .bool P21, .slice P22 P23 P24, .bool P25, .slice P26 P27 P28, .bool P31, .slice P32 P33 P34, .bool P35, .slice P36 P37 P38, .bool P41, .slice P42 P43 P44, .bool P45, .slice P46 P47 P48] (0, 0) _ (zP.out) Try.underlying40 rfl (by kernel_rfl) ?_)
      | (refine wpList_load_row rfl 48 (.tmp 5) rfl (g2 + 1) rfl 48 #[.bool Y1, .slice Y2 Y3 Y4, .bool Y5, .slice Y6 Y7 Y8, .bool U1, .slice U2 U3 U4, .bool U5, .slice U6 U7 U8] (0, 0) _ (zR.out) Try.underlying48 rfl (by kernel_rfl) ?_))
    refine (t1.out _ _ _ hp.out hY.out).mono ?_
    rintro e w18 ⟨vi, rfl, hx, hi⟩
    replace hE := mkHid (hE.out.trans hx)
    replace hM := mkHid (hM.out.ext hx)
    replace hY := mkHid (hY.out.ext hx)
    replace zM := mkHid (hx.blk zM.out)
    replace zR := mkHid (hx.blk zR.out)
    replace hp := mkHid (hp.out.ext hx)
    replace zP := mkHid (hx.blk zP.out)
    replace hq := mkHid (hq.out.ext hx)
    replace zQ := mkHid (hx.blk zQ.out)
    clear hx
    replace hi := mkHid hi
    have hh := hi.out
    obtain ⟨I11, I12, I13, I14, I15, I16, I17, I18, I21, I22, I23, I24, I25, I26, I27, I28, rfl, -⟩ := hh
    clear t1
    clear zP hp
    obtain ⟨w19, hw19⟩ : ∃ w19, w19 = w18.alloc (.cells #[.bool I11, .slice I12 I13 I14, .bool I15, .slice I16 I17 I18, .bool I21, .slice I22 I23 I24, .bool I25, .slice I26 I27 I28] 48) := ⟨_, rfl⟩
    have hx : Ext w18 w19 := by rw [hw19]; exact ((Ext.refl w18).al _)
    have zI : w19.heap[w18.heap.size]? = some (.cells #[.bool I11, .slice I12 I13 I14, .bool I15, .slice I16 I17 I18, .bool I21, .slice I22 I23 I24, .bool I25, .slice I26 I27 I28] 48 (0, 0)) := by rw [hw19]; exact heap_at _ _ _ (by simp)
    obtain ⟨g20, hg20⟩ : ∃ g20, g20 = w18.heap.size := ⟨_, rfl⟩
    rw [← hg20] at zI
    have ltQ : g8 < w18.heap.size := (Array.getElem?_eq_some_iff.1 zQ.out).1
    have ltR : g2 + 1 < w18.heap.size := (Array.getElem?_eq_some_iff.1 zR.out).1
    go_wp2_with (first
      | (refine wpList_load_row rfl 40 (.tmp 9) rfl (g8) rfl 40 #[.bool Q11, .slice Q12 Q13 Q14, .bool Q15, .slice Q16 Q17 Q18, .bool Q21, .slice Q22 Q23 Q24, .bool Q25, .slice Q26 Q27 Q28, .bool Q31, .slice Q32 Q33 Q34, .bool Q35, .slice Q36 Q37 Q38, .bool Q41, .slice Q42 Q43 Q44, .bool Q45, .slice Q46 Q47 Q48] (0, 0) _ ((heap_alloc_old _ _ (by first | omega | (simp <;> omega))).trans (zQ.out)) Try.underlying40 rfl (by kernel_rfl) ?_)
      | (refine wpList_load_row rfl 48 (.tmp 5) rfl (g2 + 1) rfl 48 #[.bool Y1, .slice Y2 Y3 Y4, .bool Y5, .slice Y6 Y7 Y8, .bool U1, .slice U2 U3 U4, .bool U5, .slice U6 U7 U8] (0, 0) _ ((heap_alloc_old _ _ (by first | omega | (simp <;> omega))).trans (zR.out)) Try.underlying48 rfl (by kernel_rfl) ?_)
      | (refine wpList_load_row rfl 48 (.tmp 15) rfl (w18.heap.size) rfl 48 #[.bool I11, .slice I12 I13 I14, .bool I15, .slice I16 I17 I18, .bool I21, .slice I22 I23 I24, .bool I25, .slice I26 I27 I28] (0, 0) _ (heap_at _ _ _ (by simp)) Try.underlying48 rfl (by kernel_rfl) ?_))
    rw [← hg20, ← hw19]
    clear ltQ ltR
    clear hg20 hw19
    replace hE := mkHid (hE.out.trans hx)
    replace hM := mkHid (hM.out.ext hx)
    replace hY := mkHid (hY.out.ext hx)
    replace zM := mkHid (hx.blk zM.out)
    replace zR := mkHid (hx.blk zR.out)
    replace hq := mkHid (hq.out.ext hx)
    replace zQ := mkHid (hx.blk zQ.out)
    replace hi := mkHid (hi.out.ext hx)
    clear hx
    replace zI := mkHid zI
    refine (t2.out _ _ _ hq.out hY.out).mono ?_
    rintro e w21 ⟨vj, rfl, hx, hj⟩
    replace hE := mkHid (hE.out.trans hx)
    replace hM := mkHid (hM.out.ext hx)
    replace hY := mkHid (hY.out.ext hx)
    replace zM := mkHid (hx.blk zM.out)
    replace zR := mkHid (hx.blk zR.out)
    replace hq := mkHid (hq.out.ext hx)
    replace zQ := mkHid (hx.blk zQ.out)
    replace hi := mkHid (hi.out.ext hx)
    replace zI := mkHid (hx.blk zI.out)
    clear hx
    replace hj := mkHid hj
    have hh := hj.out
    obtain ⟨J11, J12, J13, J14, J15, J16, J17, J18, J21, J22, J23, J24, J25, J26, J27, J28, rfl, -⟩ := hh
    clear t2
    clear zQ hq
    obtain ⟨w22, hw22⟩ : ∃ w22, w22 = w21.alloc (.cells #[.bool J11, .slice J12 J13 J14, .bool J15, .slice J16 J17 J18, .bool J21, .slice J22 J23 J24, .bool J25, .slice J26 J27 J28] 48) := ⟨_, rfl⟩
    have hx : Ext w21 w22 := by rw [hw22]; exact ((Ext.refl w21).al _)
    have zJ : w22.heap[w21.heap.size]? = some (.cells #[.bool J11, .slice J12 J13 J14, .bool J15, .slice J16 J17 J18, .bool J21, .slice J22 J23 J24, .bool J25, .slice J26 J27 J28] 48 (0, 0)) := by rw [hw22]; exact heap_at _ _ _ (by simp)
    obtain ⟨g23, hg23⟩ : ∃ g23, g23 = w21.heap.size := ⟨_, rfl⟩
    rw [← hg23] at zJ
    have ltM : g2 < w21.heap.size := (Array.getElem?_eq_some_iff.1 zM.out).1
    have ltI : g20 < w21.heap.size := (Array.getElem?_eq_some_iff.1 zI.out).1
    go_wp2_with (first
      | (refine wpList_load_row rfl 40 (.tmp 3) rfl (g2) rfl 40 #[.bool A1, .slice A2 A3 A4, .bool A5, .slice A6 A7 A8, .bool B1, .slice B2 B3 B4, .bool B5, .slice B6 B7 B8, .bool C1, .slice C2 C3 C4, .bool C5, .slice C6 C7 C8, .bool D1, .slice D2 D3 D4, .bool D5, .slice D6 D7 D8] (0, 0) _ ((heap_alloc_old _ _ (by first | omega | (simp <;> omega))).trans (zM.out)) Try.underlying40 rfl (by kernel_rfl) ?_)
      | (refine wpList_load_row rfl 48 (.tmp 15) rfl (g20) rfl 48 #[.bool I11, .slice I12 I13 I14, .bool I15, .slice I16 I17 I18, .bool I21, .slice I22 I23 I24, .bool I25, .slice I26 I27 I28] (0, 0) _ ((heap_alloc_old _ _ (by first | omega | (simp <;> omega))).trans (zI.out)) Try.underlying48 rfl (by kernel_rfl) ?_)
      | (refine wpList_load_row rfl 48 (.tmp 16) rfl (w21.heap.size) rfl 48 #[.bool J11, .slice J12 J13 J14, .bool J15, .slice J16 J17 J18, .bool J21, .slice J22 J23 J24, .bool J25, .slice J26 J27 J28] (0, 0) _ (heap_at _ _ _ (by simp)) Try.underlying48 rfl (by kernel_rfl) ?_))
    rw [← hg23, ← hw22]
    clear ltM ltI
    clear hg23 hw22
    replace hE := mkHid (hE.out.trans hx)
    replace hM := mkHid (hM.out.ext hx)
    replace hY := mkHid (hY.out.ext hx)
    replace zM := mkHid (hx.blk zM.out)
    replace zR := mkHid (hx.blk zR.out)
    replace hi := mkHid (hi.out.ext hx)
    replace zI := mkHid (hx.blk zI.out)
    replace hj := mkHid (hj.out.ext hx)
    clear hx
    replace zJ := mkHid zJ
    refine (t3.out _ _ _ hM.out hi.out).mono ?_
    rintro e w24 ⟨vk, rfl, hx, hk2⟩
    replace hE := mkHid (hE.out.trans hx)
    replace hM := mkHid (hM.out.ext hx)
    replace hY := mkHid (hY.out.ext hx)
    replace zM := mkHid (hx.blk zM.out)
    replace zR := mkHid (hx.blk zR.out)
    replace hi := mkHid (hi.out.ext hx)
    replace zI := mkHid (hx.blk zI.out)
    replace hj := mkHid (hj.out.ext hx)
    replace zJ := mkHid (hx.blk zJ.out)
    clear hx
    replace hk2 := mkHid hk2
    have hh := hk2.out
    obtain ⟨K11, K12, K13, K14, K15, K16, K17, K18, K21, K22, K23, K24, K25, K26, K27, K28, rfl, -⟩ := hh
    clear t3
    clear zM zI hi hM
    have sr := mkHid (fun h1 h2 h3 => steps_ray (oy := oy) (ou := ou) lf2.out h1 h2 h3)
    generalize thE (some pa) (some pb) (some pc) (some pd) oy ou = F1 at *
    generalize thE (some qa) (some qb) (some qc) (some qd) oy ou = F2 at *
    generalize thE (some a) (some b) (some c) (some d) (thY (some pa) (some pb) (some pc) (some pd) oy ou) (thU (some pa) (some pb) (some pc) (some pd) oy ou) = F3 at *
    generalize thY (some a) (some b) (some c) (some d) (thY (some pa) (some pb) (some pc) (some pd) oy ou) (thU (some pa) (some pb) (some pc) (some pd) oy ou) = OK1 at *
    generalize thU (some a) (some b) (some c) (some d) (thY (some pa) (some pb) (some pc) (some pd) oy ou) (thU (some pa) (some pb) (some pc) (some pd) oy ou) = OK2 at *
    generalize thY (some qa) (some qb) (some qc) (some qd) oy ou = OJ1 at *
    generalize thU (some qa) (some qb) (some qc) (some qd) oy ou = OJ2 at *
    by_cases u1 : F1 = 0
    case neg =>
      have v1 : (F1 == 0) = false := by rw [beq_eq_false_iff_ne]; exact u1
      replace u1 := mkHid u1
      go_wp2_with fail
      refine (kl.out _).mono ?_
      rintro e wl ⟨rfl, hl⟩
      go_wp2_with fail
      go_ret
      exact ⟨rfl, hE.out.trans (((Ext.refl _).al _).trans hl)⟩
    by_cases u2 : F2 = 0
    case neg =>
      have v2 : (F2 == 0) = false := by rw [beq_eq_false_iff_ne]; exact u2
      replace u2 := mkHid u2
      go_wp2_with fail
      refine (kl.out _).mono ?_
      rintro e wl ⟨rfl, hl⟩
      go_wp2_with fail
      go_ret
      exact ⟨rfl, hE.out.trans (((Ext.refl _).al _).trans hl)⟩
    by_cases u3 : F3 = 0
    case neg =>
      have v3 : (F3 == 0) = false := by rw [beq_eq_false_iff_ne]; exact u3
      replace u3 := mkHid u3
      go_wp2_with fail
      refine (kl.out _).mono ?_
      rintro e wl ⟨rfl, hl⟩
      go_wp2_with fail
      go_ret
      exact ⟨rfl, hE.out.trans (((Ext.refl _).al _).trans hl)⟩
    obtain ⟨y1, z1, rfl, rfl, rfl, rfl⟩ := sr.out u1 u2 u3
    subst u1 u2 u3
    have ks := mkHid (fun W v v' h h' => sameRay_f v v' y1 z1 y1 z1 W h h')
    rw [decide_eq_true (show y1 = y1 ∧ z1 = z1 from ⟨rfl, rfl⟩)] at ks
    clear sr
    obtain ⟨w25, hw25⟩ : ∃ w25, w25 = w24.alloc (.cells #[.bool K11, .slice K12 K13 K14, .bool K15, .slice K16 K17 K18, .bool K21, .slice K22 K23 K24, .bool K25, .slice K26 K27 K28] 48) := ⟨_, rfl⟩
    have hx : Ext w24 w25 := by rw [hw25]; exact ((Ext.refl w24).al _)
    have zK : w25.heap[w24.heap.size]? = some (.cells #[.bool K11, .slice K12 K13 K14, .bool K15, .slice K16 K17 K18, .bool K21, .slice K22 K23 K24, .bool K25, .slice K26 K27 K28] 48 (0, 0)) := by rw [hw25]; exact heap_at _ _ _ (by simp)
    obtain ⟨g26, hg26⟩ : ∃ g26, g26 = w24.heap.size := ⟨_, rfl⟩
    rw [← hg26] at zK
    have ltJ : g23 < w24.heap.size := (Array.getElem?_eq_some_iff.1 zJ.out).1
    go_wp2_with (first
      | (refine wpList_load_rowG rfl 48 (.tmp 16) rfl (g23) rfl 48 #[.bool J11, .slice J12 J13 J14, .bool J15, .slice J16 J17 J18, .bool J21, .slice J22 J23 J24, .bool J25, .slice J26 J27 J28] (0, 0) _ ((heap_alloc_old _ _ (by first | omega | (simp <;> omega))).trans (zJ.out)) Try.underlying48 rfl (by kernel_rfl) ?_)
      | (refine wpList_load_rowG rfl 48 (.tmp 17) rfl (w24.heap.size) rfl 48 #[.bool K11, .slice K12 K13 K14, .bool K15, .slice K16 K17 K18, .bool K21, .slice K22 K23 K24, .bool K25, .slice K26 K27 K28] (0, 0) _ (heap_at _ _ _ (by simp)) Try.underlying48 rfl (by kernel_rfl) ?_))
    rw [← hg26, ← hw25]
    clear ltJ
    clear hg26 hw25
    replace hE := mkHid (hE.out.trans hx)
    replace hY := mkHid (hY.out.ext hx)
    replace zR := mkHid (hx.blk zR.out)
    replace hj := mkHid (hj.out.ext hx)
    replace zJ := mkHid (hx.blk zJ.out)
    replace hk2 := mkHid (hk2.out.ext hx)
    clear hx
    replace zK := mkHid zK
    refine (ks.out _ _ _ hj.out hk2.out).mono ?_
    rintro e w27 ⟨rfl, hx⟩
    replace hE := mkHid (hE.out.trans hx)
    replace hY := mkHid (hY.out.ext hx)
    replace zR := mkHid (hx.blk zR.out)
    replace hj := mkHid (hj.out.ext hx)
    replace zJ := mkHid (hx.blk zJ.out)
    replace hk2 := mkHid (hk2.out.ext hx)
    replace zK := mkHid (hx.blk zK.out)
    clear hx
    clear ks
    go_wp2_with fail
    refine (kl.out _).mono ?_
    rintro e wl ⟨rfl, hl⟩
    go_wp2_with fail
    go_ret
    exact ⟨rfl, hE.out.trans hl⟩
end Go.Proofs.Ytpmfohhpaoagfaa
namespace Go.Proofs.Ytpmfohhpaoagfaa
open Go Go.RowKit Go.Proofs
theorem steps_c (n : Int) (v r : Value) (w : World) (h : RawM w v) (hr : RawY w r) :
    Calls Try.prog 5 #[v, .int .i64 n, r] w fun e w' => e = .returned (.bool true) ∧ Ext w w' := by
  by_cases hno : ∃ oa ob oc od oy ou, AnyM w v oa ob oc od ∧ AnyY w r oy ou
  · obtain ⟨oa, ob, oc, od, oy, ou, h1, h2⟩ := hno
    cases hm : okM oa ob oc od with
    | false => exact steps_no n v r oa ob oc od oy ou w h1 h2 hm
    | true =>
      obtain ⟨a, rfl⟩ : ∃ a, oa = some a := by cases oa with | none => exact absurd hm (by simp [okM]) | some a => exact ⟨a, rfl⟩
      obtain ⟨b, rfl⟩ : ∃ a, ob = some a := by cases ob with | none => exact absurd hm (by simp [okM]) | some a => exact ⟨a, rfl⟩
      obtain ⟨c, rfl⟩ : ∃ a, oc = some a := by cases oc with | none => exact absurd hm (by simp [okM]) | some a => exact ⟨a, rfl⟩
      obtain ⟨d, rfl⟩ : ∃ a, od = some a := by cases od with | none => exact absurd hm (by simp [okM]) | some a => exact ⟨a, rfl⟩
      have hdet : a * d - b * c = 1 := by simpa [okM] using hm
      exact steps_fine n v r a b c d oy ou w h1 h2 hdet
  · exact steps_big n v r w h hr (fun oa ob oc od oy ou hh => hno ⟨oa, ob, oc, od, oy, ou, hh⟩)
end Go.Proofs.Ytpmfohhpaoagfaa
namespace Go.Proofs.Ytpmfohhpaoagfaa
open Go Go.ChangeShapes Go.WideShapes Go.ChangeAt Go.RowKit Go.Joins Go.Deep
theorem ownKnobPeriodSteps : ownKnob Try.prog.godebug = none := by kernel_rfl
set_option maxRecDepth 100000 in
theorem steps_lifted (os : Os) (started : os.Started) (H : Type) (enc : TypeId × Value → H) :
    ReturnsInHanded {} Try.checked os 5 .any (Rows.periodStepsSpec.pre6 enc Try.prog Try.f5 [] false)
      (Rows.periodStepsSpec.post enc Try.prog Try.f5 false true false false) := by
  refine returnsInHanded_of_change_sized (C := Try.checked) ownKnobPeriodSteps started (by kernel_rfl) Try.func5
    (ChangeSpec.witness6 (enc := enc) (C := Try.checked) false ⟨#[], #[.agg #[.bool false, .slice none 0 0, .bool false, .slice none 0 0, .bool false, .slice none 0 0, .bool false, .slice none 0 0, .bool false, .slice none 0 0, .bool false, .slice none 0 0, .bool false, .slice none 0 0, .bool false, .slice none 0 0], .int .i64 0, .agg #[.bool false, .slice none 0 0, .bool false, .slice none 0 0, .bool false, .slice none 0 0, .bool false, .slice none 0 0]], []⟩ 8 (by kernel_rfl) (by kernel_rfl) (by kernel_rfl) (by kernel_rfl)) ?_
  intro W base args ds gs before hval0 hW _ hsz _
  have hW' := hW
  obtain ⟨p, q, hA0, hV, rfl, hfz, hnd⟩ := hW
  have hA : DataW.TrodAll enc Try.prog W 0 (fun _ => true) true Try.f5.params.toList args.toList ds p := hA0
  rw [Try.params5] at hA
  obtain ⟨v0, v1, v2, d0, d1, d2, p0, p1, p2, rfl, rfl, rfl, h0, h1, h2⟩ := trodAll_three hA
  obtain ⟨rfl, rfl⟩ := trodVars_none hV
  have P3 : Try.f5.params = #[40, 3, 48] := Try.params5
  have hw0 : ∀ k ∈ d0.weights Try.prog 40, k ≤ reachBytes := by
    intro k hk
    have hz := List.all_eq_true.1 hsz
    rw [P3] at hz
    exact of_decide_eq_true (hz k (DataW.weights_mem_each (j := 0) (t := 40) (d := d0) rfl rfl k hk))
  have hR0 : RawM W v0 := rawM_of (hval0 0 40 v0 (by rw [P3]; rfl) rfl) h0 hw0
  have hlt0 : ∀ x ∈ p0, x.block < W.heap.size := fun x hx => hW'.lt x (by simp [hx])
  obtain ⟨n1, rfl, rfl, rfl, wf1⟩ := open_int Try.underlying3 (hval0 1 3 v1 (by rw [P3]; rfl) rfl) h1
  have hw2 : ∀ k ∈ d2.weights Try.prog 48, k ≤ reachBytes := by
    intro k hk
    have hz := List.all_eq_true.1 hsz
    rw [P3] at hz
    exact of_decide_eq_true (hz k (DataW.weights_mem_each (j := 2) (t := 48) (d := d2) rfl rfl k hk))
  have hR2 : RawY W v2 := rawY_of (hval0 2 48 v2 (by rw [P3]; rfl) rfl) h2 hw2
  have hlt2 : ∀ x ∈ p2, x.block < W.heap.size := fun x hx => hW'.lt x (by simp [hx])
  have key : Calls Try.prog 5 #[v0, .int .i64 n1, v2] W fun e w' => e = .returned (.bool true) ∧ Ext W w' := steps_c n1 v0 v2 W hR0 hR2
  refine key.mono fun e W' h => ?_
  obtain ⟨rfl, hE⟩ := h
  refine ⟨_, rfl, _, _, _, [], p0 ++ [] ++ p2, [], hW', trodAll_mk1 (shut_bool Try.underlying4 _), ?_, rfl, hE.frame _, fun h => by cases h⟩
  have : Try.f5.params.toList = [40, 3, 48] := by rw [P3]
  rw [this]
  have hz := trodAll_mk3 (Below.trod (by kernel_rfl) (by kernel_rfl) (of_decide_eq_true (by kernel_rfl)) h0 hE hlt0) (shut_int Try.underlying3 wf1) (Below.trod (by kernel_rfl) (by kernel_rfl) (of_decide_eq_true (by kernel_rfl)) h2 hE hlt2)
  rw [← List.append_assoc] at hz
  exact hz
theorem steps_holds : Rows.PeriodStepsSaid :=
  OpenClaim.holds_of_wide 5 Try.f5 rfl rfl rfl rfl rfl rfl rfl ⟨rfl, rfl, rfl, rfl, rfl⟩ rfl rfl rfl rfl rfl (by kernel_rfl) Try.func5 (by kernel_rfl)
    (of_decide_eq_true (by kernel_rfl)) (by unfold Func.isWrapper; first | (rw [if_pos (by decide +kernel)]; kernel_rfl) | (rw [if_neg (by decide +kernel)]; exact ⟨rfl, rfl⟩))
    (fun os started H enc _ => steps_lifted os started H enc)
#print axioms steps_holds
end Go.Proofs.Ytpmfohhpaoagfaa
