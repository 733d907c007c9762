/-
  period: Again: printed by tools/gen_again.py.
-/
import Derived.Test.YtpmfohhpaoagfaaGreatMAI
import Derived.Test.YtpmfohhpaoagfaaGreatMAD
namespace Go.Proofs.YtpmfohhpaoagfaaGreat
open Go Go.RowKit Go.Proofs
theorem st_varT {ss : List FSpec} (b : Nat) (cs : Array Value) (T : TypeId) (h : StableAll Ext ss) : StableAll Ext (.pred (VarAt b cs T) :: ss) := ⟨fun _ _ _ e h => VarAt.ext h e, h⟩
/-- Behind how many trips a ray comes again. -/
def agM (a b c d y u : Rat) : Int :=
  if y = 0 ∧ u = 0 then 1 else if 0 < ordM a b c d then ordM a b c d else if a * y + b * u = y ∧ c * y + d * u = u then 1 else if a * y + b * u = -y ∧ c * y + d * u = -u then 2 else 0
theorem neg_f {x : Rat} : nf (-x) ≤ nf x := by
  unfold nf
  rw [Rat.neg_num, Rat.neg_den, nl_neg]
  exact Nat.le_refl _
set_option maxRecDepth 100000 in
set_option maxHeartbeats 12800000 in
theorem again_refused (v r : Value) (oa ob oc od oy ou : Option Rat) (w : World) (h : AnyM w v oa ob oc od) (hr : AnyY w r oy ou) (hk : okM oa ob oc od = false ∨ ([oy, ou].all Option.isSome) = false) :
    Calls Tryz.prog 11 #[v, r] w fun e w' => e = .returned (.tuple #[.int .i64 0, .int .i64 1]) ∧ Ext w w' := by
  have H := h
  obtain ⟨A1, A2, A3, A4, A5, A6, A7, A8, B1, B2, B3, B4, B5, B6, B7, B8, C1, C2, C3, C4, C5, C6, C7, C8, D1, D2, D3, D4, D5, D6, D7, D8, rfl, -⟩ := h
  obtain ⟨Y1, Y2, Y3, Y4, Y5, Y6, Y7, Y8, U1, U2, U3, U4, U5, U6, U7, U8, rfl, r1, r2⟩ := hr
  have kc := mkHid (fun W h => check_m (.agg #[.bool A1, .slice A2 A3 A4, .bool A5, .slice A6 A7 A8, .bool B1, .slice B2 B3 B4, .bool B5, .slice B6 B7 B8, .bool C1, .slice C2 C3 C4, .bool C5, .slice C6 C7 C8, .bool D1, .slice D2 D3 D4, .bool D5, .slice D6 D7 D8]) oa ob oc od W h)
  replace H := mkHid H
  replace r1 := mkHid r1
  replace r2 := mkHid r2
  have hE := mkHid (Ext.refl w)
  by_cases hm : okM oa ob oc od = true
  · have hm2 : ([oy, ou].all Option.isSome) = false := hk.resolve_left (by rw [hm]; decide)
    rw [hm, if_pos rfl] at kc
    clear hk hm
    go_enter Tryz.func11, Tryz.ntmps11
    obtain ⟨w1, hw1⟩ : ∃ w1, w1 = (w.alloc (.cells #[.bool A1, .slice A2 A3 A4, .bool A5, .slice A6 A7 A8, .bool B1, .slice B2 B3 B4, .bool B5, .slice B6 B7 B8, .bool C1, .slice C2 C3 C4, .bool C5, .slice C6 C7 C8, .bool D1, .slice D2 D3 D4, .bool D5, .slice D6 D7 D8] 28)).alloc (.cells #[.bool Y1, .slice Y2 Y3 Y4, .bool Y5, .slice Y6 Y7 Y8, .bool U1, .slice U2 U3 U4, .bool U5, .slice U6 U7 U8] 30) := ⟨_, rfl⟩
    have hx : Ext w w1 := by rw [hw1]; exact (((Ext.refl w).al _).al _)
    have zM : w1.heap[w.heap.size]? = some (.cells #[.bool A1, .slice A2 A3 A4, .bool A5, .slice A6 A7 A8, .bool B1, .slice B2 B3 B4, .bool B5, .slice B6 B7 B8, .bool C1, .slice C2 C3 C4, .bool C5, .slice C6 C7 C8, .bool D1, .slice D2 D3 D4, .bool D5, .slice D6 D7 D8] 28 (0, 0)) := by rw [hw1]; exact (heap_alloc_old _ _ (by simp <;> omega)).trans (heap_at _ _ _ (by simp))
    have zR : w1.heap[w.heap.size + 1]? = some (.cells #[.bool Y1, .slice Y2 Y3 Y4, .bool Y5, .slice Y6 Y7 Y8, .bool U1, .slice U2 U3 U4, .bool U5, .slice U6 U7 U8] 30 (0, 0)) := by rw [hw1]; exact heap_at _ _ _ (by simp)
    obtain ⟨g2, hg2⟩ : ∃ g2, g2 = w.heap.size := ⟨_, rfl⟩
    rw [← hg2] at zM zR
    go_wp2_with fail
    rw [← hg2, ← hw1]
    clear hg2 hw1
    replace H := mkHid (H.out.ext hx)
    replace r1 := mkHid (r1.out.ext hx)
    replace r2 := mkHid (r2.out.ext hx)
    replace hE := mkHid (hE.out.trans hx)
    clear hx
    replace zM := mkHid zM
    replace zR := mkHid zR
    refine (kc.out _ H.out).mono ?_
    rintro e w3 ⟨rfl, hx⟩
    replace H := mkHid (H.out.ext hx)
    replace r1 := mkHid (r1.out.ext hx)
    replace r2 := mkHid (r2.out.ext hx)
    replace hE := mkHid (hE.out.trans hx)
    replace zM := mkHid (hx.blk zM.out)
    replace zR := mkHid (hx.blk zR.out)
    clear hx
    have yR_0 : w3.cell? ⟨g2 + 1, 0, none⟩ = some (.bool Y1) := by simp [World.cell?, zR.out]
    have yR_1 : w3.cell? ⟨g2 + 1, 1, none⟩ = some (.slice Y2 Y3 Y4) := by simp [World.cell?, zR.out]
    have yR_2 : w3.cell? ⟨g2 + 1, 2, none⟩ = some (.bool Y5) := by simp [World.cell?, zR.out]
    have yR_3 : w3.cell? ⟨g2 + 1, 3, none⟩ = some (.slice Y6 Y7 Y8) := by simp [World.cell?, zR.out]
    have yR_4 : w3.cell? ⟨g2 + 1, 4, none⟩ = some (.bool U1) := by simp [World.cell?, zR.out]
    have yR_5 : w3.cell? ⟨g2 + 1, 5, none⟩ = some (.slice U2 U3 U4) := by simp [World.cell?, zR.out]
    have yR_6 : w3.cell? ⟨g2 + 1, 6, none⟩ = some (.bool U5) := by simp [World.cell?, zR.out]
    have yR_7 : w3.cell? ⟨g2 + 1, 7, none⟩ = some (.slice U6 U7 U8) := by simp [World.cell?, zR.out]
    go_wp2_with fail
    clear yR_0 yR_1 yR_2 yR_3 yR_4 yR_5 yR_6 yR_7
    have hs := (Ext.refl w3).al (.cells #[.bool Y1, .slice Y2 Y3 Y4, .bool Y5, .slice Y6 Y7 Y8, .bool U1, .slice U2 U3 U4, .bool U5, .slice U6 U7 U8] 26)
    refine (checks_f _ 2 [oy, ou] _ (by simp) (lf_two (heap_alloc_new w3 _) (r1.out.ext hs) (r2.out.ext hs))).mono ?_
    rintro e wl ⟨rfl, hl⟩
    rw [hm2]
    replace hE := mkHid (hE.out.trans (hs.trans hl))
    clear hs hl
    go_wp2_with fail
    go_ret2
    exact ⟨rfl, hE.out⟩
  · rw [if_neg hm] at kc
    clear hk
    replace hm := mkHid hm
    go_enter Tryz.func11, Tryz.ntmps11
    obtain ⟨w4, hw4⟩ : ∃ w4, w4 = (w.alloc (.cells #[.bool A1, .slice A2 A3 A4, .bool A5, .slice A6 A7 A8, .bool B1, .slice B2 B3 B4, .bool B5, .slice B6 B7 B8, .bool C1, .slice C2 C3 C4, .bool C5, .slice C6 C7 C8, .bool D1, .slice D2 D3 D4, .bool D5, .slice D6 D7 D8] 28)).alloc (.cells #[.bool Y1, .slice Y2 Y3 Y4, .bool Y5, .slice Y6 Y7 Y8, .bool U1, .slice U2 U3 U4, .bool U5, .slice U6 U7 U8] 30) := ⟨_, rfl⟩
    have hx : Ext w w4 := by rw [hw4]; exact (((Ext.refl w).al _).al _)
    have zM : w4.heap[w.heap.size]? = some (.cells #[.bool A1, .slice A2 A3 A4, .bool A5, .slice A6 A7 A8, .bool B1, .slice B2 B3 B4, .bool B5, .slice B6 B7 B8, .bool C1, .slice C2 C3 C4, .bool C5, .slice C6 C7 C8, .bool D1, .slice D2 D3 D4, .bool D5, .slice D6 D7 D8] 28 (0, 0)) := by rw [hw4]; exact (heap_alloc_old _ _ (by simp <;> omega)).trans (heap_at _ _ _ (by simp))
    have zR : w4.heap[w.heap.size + 1]? = some (.cells #[.bool Y1, .slice Y2 Y3 Y4, .bool Y5, .slice Y6 Y7 Y8, .bool U1, .slice U2 U3 U4, .bool U5, .slice U6 U7 U8] 30 (0, 0)) := by rw [hw4]; exact heap_at _ _ _ (by simp)
    obtain ⟨g5, hg5⟩ : ∃ g5, g5 = w.heap.size := ⟨_, rfl⟩
    rw [← hg5] at zM zR
    go_wp2_with fail
    rw [← hg5, ← hw4]
    clear hg5 hw4
    replace H := mkHid (H.out.ext hx)
    replace r1 := mkHid (r1.out.ext hx)
    replace r2 := mkHid (r2.out.ext hx)
    replace hE := mkHid (hE.out.trans hx)
    clear hx
    replace zM := mkHid zM
    replace zR := mkHid zR
    refine (kc.out _ H.out).mono ?_
    rintro e w6 ⟨rfl, hx⟩
    replace H := mkHid (H.out.ext hx)
    replace r1 := mkHid (r1.out.ext hx)
    replace r2 := mkHid (r2.out.ext hx)
    replace hE := mkHid (hE.out.trans hx)
    replace zM := mkHid (hx.blk zM.out)
    replace zR := mkHid (hx.blk zR.out)
    clear hx
    go_wp2_with fail
    go_ret2
    exact ⟨rfl, hE.out⟩
set_option maxRecDepth 100000 in
set_option maxHeartbeats 12800000 in
theorem again_fine (v r : Value) (a b c d y u : Rat) (w : World) (h : AnyM w v (some a) (some b) (some c) (some d)) (hr : AnyY w r (some y) (some u)) (hk : okM (some a) (some b) (some c) (some d) = true) :
    Calls Tryz.prog 11 #[v, r] w fun e w' => e = .returned (.tuple #[.int .i64 (agM a b c d y u), .int .i64 0]) ∧ Ext w w' := by
  have H := h
  obtain ⟨⟨A1, A2, A3, A4, A5, A6, A7, A8, B1, B2, B3, B4, B5, B6, B7, B8, C1, C2, C3, C4, C5, C6, C7, C8, D1, D2, D3, D4, D5, D6, D7, D8, rfl, fA, fB, fC, fD⟩, n1, n2, n3, n4⟩ := h.fracs
  obtain ⟨Y1, Y2, Y3, Y4, Y5, Y6, Y7, Y8, U1, U2, U3, U4, U5, U6, U7, U8, rfl, r1, r2⟩ := hr
  have fY := r1.frac.1
  have fU := r2.frac.1
  have n5 := r1.frac.2
  have n6 := r2.frac.2
  have kc := mkHid (fun W h => check_m (.agg #[.bool A1, .slice A2 A3 A4, .bool A5, .slice A6 A7 A8, .bool B1, .slice B2 B3 B4, .bool B5, .slice B6 B7 B8, .bool C1, .slice C2 C3 C4, .bool C5, .slice C6 C7 C8, .bool D1, .slice D2 D3 D4, .bool D5, .slice D6 D7 D8]) (some a) (some b) (some c) (some d) W h)
  rw [hk, if_pos rfl] at kc
  have ko := mkHid (fun W h => order_f (.agg #[.bool A1, .slice A2 A3 A4, .bool A5, .slice A6 A7 A8, .bool B1, .slice B2 B3 B4, .bool B5, .slice B6 B7 B8, .bool C1, .slice C2 C3 C4, .bool C5, .slice C6 C7 C8, .bool D1, .slice D2 D3 D4, .bool D5, .slice D6 D7 D8]) a b c d W h)
  have ky := mkHid (fun W h => sign_f (.agg #[.bool Y1, .slice Y2 Y3 Y4, .bool Y5, .slice Y6 Y7 Y8]) y W (by omega) h)
  have ku := mkHid (fun W h => sign_f (.agg #[.bool U1, .slice U2 U3 U4, .bool U5, .slice U6 U7 U8]) u W (by omega) h)
  have kay := mkHid (fun W h h' => times_f (.agg #[.bool A1, .slice A2 A3 A4, .bool A5, .slice A6 A7 A8]) (.agg #[.bool Y1, .slice Y2 Y3 Y4, .bool Y5, .slice Y6 Y7 Y8]) a y W (by omega) (by omega) h h')
  have may := nf_mul_le a y
  have kbu := mkHid (fun W h h' => times_f (.agg #[.bool B1, .slice B2 B3 B4, .bool B5, .slice B6 B7 B8]) (.agg #[.bool U1, .slice U2 U3 U4, .bool U5, .slice U6 U7 U8]) b u W (by omega) (by omega) h h')
  have mbu := nf_mul_le b u
  have kcy := mkHid (fun W h h' => times_f (.agg #[.bool C1, .slice C2 C3 C4, .bool C5, .slice C6 C7 C8]) (.agg #[.bool Y1, .slice Y2 Y3 Y4, .bool Y5, .slice Y6 Y7 Y8]) c y W (by omega) (by omega) h h')
  have mcy := nf_mul_le c y
  have kdu := mkHid (fun W h h' => times_f (.agg #[.bool D1, .slice D2 D3 D4, .bool D5, .slice D6 D7 D8]) (.agg #[.bool U1, .slice U2 U3 U4, .bool U5, .slice U6 U7 U8]) d u W (by omega) (by omega) h h')
  have mdu := nf_mul_le d u
  have sp1 := nf_add_le (a * y) (b * u)
  have sp2 := nf_add_le (c * y) (d * u)
  have kp1 := mkHid (fun v v' W h h' => plus_f v v' (a * y) (b * u) W (by omega) (by omega) h h')
  have kp2 := mkHid (fun v v' W h h' => plus_f v v' (c * y) (d * u) W (by omega) (by omega) h h')
  have ng1 : nf (-y) ≤ nf y := neg_f
  have ng2 : nf (-u) ≤ nf u := neg_f
  have kt1 := mkHid (fun W h => turned_f (.agg #[.bool Y1, .slice Y2 Y3 Y4, .bool Y5, .slice Y6 Y7 Y8]) y W (by omega) h)
  have kt2 := mkHid (fun W h => turned_f (.agg #[.bool U1, .slice U2 U3 U4, .bool U5, .slice U6 U7 U8]) u W (by omega) h)
  have kq1 := mkHid (fun v W h h' => cmp_f v (.agg #[.bool Y1, .slice Y2 Y3 Y4, .bool Y5, .slice Y6 Y7 Y8]) (a * y + b * u) y W (by omega) (by omega) h h')
  have kq2 := mkHid (fun v W h h' => cmp_f v (.agg #[.bool U1, .slice U2 U3 U4, .bool U5, .slice U6 U7 U8]) (c * y + d * u) u W (by omega) (by omega) h h')
  have kq3 := mkHid (fun v v' W h h' => cmp_f v v' (a * y + b * u) (-y) W (by omega) (by omega) h h')
  have kq4 := mkHid (fun v v' W h h' => cmp_f v v' (c * y + d * u) (-u) W (by omega) (by omega) h h')
  have i1 := num_sign y
  have i2 := num_sign u
  have i3 := cmp_zero (a * y + b * u) y
  have i4 := cmp_zero (c * y + d * u) u
  have i5 := cmp_zero (a * y + b * u) (-y)
  have i6 := cmp_zero (c * y + d * u) (-u)
  obtain ⟨R, hR⟩ : ∃ R, R = agM a b c d y u := ⟨_, rfl⟩
  rw [← hR]
  unfold agM at hR
  generalize ordM a b c d = O at *
  generalize a * y + b * u = P at *
  generalize c * y + d * u = Q at *
  generalize a * y = ay at *
  generalize b * u = bu at *
  generalize c * y = cy at *
  generalize d * u = du at *
  generalize y.num.sign = S1 at *
  generalize u.num.sign = S2 at *
  generalize (P.num * y.den - y.num * P.den).sign = S3 at *
  generalize (Q.num * u.den - u.num * Q.den).sign = S4 at *
  generalize (P.num * (-y).den - (-y).num * P.den).sign = S5 at *
  generalize (Q.num * (-u).den - (-u).num * Q.den).sign = S6 at *
  generalize -y = my at *
  generalize -u = mu at *
  clear n1 n2 n3 n4 n5 n6 may mbu mcy mdu sp1 sp2 ng1 ng2 hk
  replace H := mkHid H
  replace r1 := mkHid r1
  replace r2 := mkHid r2
  replace fA := mkHid fA
  replace fB := mkHid fB
  replace fC := mkHid fC
  replace fD := mkHid fD
  replace fY := mkHid fY
  replace fU := mkHid fU
  replace i1 := mkHid i1
  replace i2 := mkHid i2
  replace i3 := mkHid i3
  replace i4 := mkHid i4
  replace i5 := mkHid i5
  replace i6 := mkHid i6
  replace hR := mkHid hR
  have hE := mkHid (Ext.refl w)
  go_enter Tryz.func11, Tryz.ntmps11
  obtain ⟨w1, hw1⟩ : ∃ w1, w1 = (w.alloc (.cells #[.bool A1, .slice A2 A3 A4, .bool A5, .slice A6 A7 A8, .bool B1, .slice B2 B3 B4, .bool B5, .slice B6 B7 B8, .bool C1, .slice C2 C3 C4, .bool C5, .slice C6 C7 C8, .bool D1, .slice D2 D3 D4, .bool D5, .slice D6 D7 D8] 28)).alloc (.cells #[.bool Y1, .slice Y2 Y3 Y4, .bool Y5, .slice Y6 Y7 Y8, .bool U1, .slice U2 U3 U4, .bool U5, .slice U6 U7 U8] 30) := ⟨_, rfl⟩
  have hx : Ext w w1 := by rw [hw1]; exact (((Ext.refl w).al _).al _)
  have zM : w1.heap[w.heap.size]? = some (.cells #[.bool A1, .slice A2 A3 A4, .bool A5, .slice A6 A7 A8, .bool B1, .slice B2 B3 B4, .bool B5, .slice B6 B7 B8, .bool C1, .slice C2 C3 C4, .bool C5, .slice C6 C7 C8, .bool D1, .slice D2 D3 D4, .bool D5, .slice D6 D7 D8] 28 (0, 0)) := by rw [hw1]; exact (heap_alloc_old _ _ (by simp <;> omega)).trans (heap_at _ _ _ (by simp))
  have zR : w1.heap[w.heap.size + 1]? = some (.cells #[.bool Y1, .slice Y2 Y3 Y4, .bool Y5, .slice Y6 Y7 Y8, .bool U1, .slice U2 U3 U4, .bool U5, .slice U6 U7 U8] 30 (0, 0)) := by rw [hw1]; exact heap_at _ _ _ (by simp)
  obtain ⟨g2, hg2⟩ : ∃ g2, g2 = w.heap.size := ⟨_, rfl⟩
  rw [← hg2] at zM zR
  go_wp2_with fail
  rw [← hg2, ← hw1]
  clear hg2 hw1
  replace H := mkHid (H.out.ext hx)
  replace r1 := mkHid (r1.out.ext hx)
  replace r2 := mkHid (r2.out.ext hx)
  replace fA := mkHid (fA.out.ext hx)
  replace fB := mkHid (fB.out.ext hx)
  replace fC := mkHid (fC.out.ext hx)
  replace fD := mkHid (fD.out.ext hx)
  replace fY := mkHid (fY.out.ext hx)
  replace fU := mkHid (fU.out.ext hx)
  replace hE := mkHid (hE.out.trans hx)
  clear hx
  replace zM := mkHid zM
  replace zR := mkHid zR
  refine (kc.out _ H.out).mono ?_
  rintro e w3 ⟨rfl, hx⟩
  replace H := mkHid (H.out.ext hx)
  replace r1 := mkHid (r1.out.ext hx)
  replace r2 := mkHid (r2.out.ext hx)
  replace fA := mkHid (fA.out.ext hx)
  replace fB := mkHid (fB.out.ext hx)
  replace fC := mkHid (fC.out.ext hx)
  replace fD := mkHid (fD.out.ext hx)
  replace fY := mkHid (fY.out.ext hx)
  replace fU := mkHid (fU.out.ext hx)
  replace hE := mkHid (hE.out.trans hx)
  replace zM := mkHid (hx.blk zM.out)
  replace zR := mkHid (hx.blk zR.out)
  clear hx
  have yR_0 : w3.cell? ⟨g2 + 1, 0, none⟩ = some (.bool Y1) := by simp [World.cell?, zR.out]
  have yR_1 : w3.cell? ⟨g2 + 1, 1, none⟩ = some (.slice Y2 Y3 Y4) := by simp [World.cell?, zR.out]
  have yR_2 : w3.cell? ⟨g2 + 1, 2, none⟩ = some (.bool Y5) := by simp [World.cell?, zR.out]
  have yR_3 : w3.cell? ⟨g2 + 1, 3, none⟩ = some (.slice Y6 Y7 Y8) := by simp [World.cell?, zR.out]
  have yR_4 : w3.cell? ⟨g2 + 1, 4, none⟩ = some (.bool U1) := by simp [World.cell?, zR.out]
  have yR_5 : w3.cell? ⟨g2 + 1, 5, none⟩ = some (.slice U2 U3 U4) := by simp [World.cell?, zR.out]
  have yR_6 : w3.cell? ⟨g2 + 1, 6, none⟩ = some (.bool U5) := by simp [World.cell?, zR.out]
  have yR_7 : w3.cell? ⟨g2 + 1, 7, none⟩ = some (.slice U6 U7 U8) := by simp [World.cell?, zR.out]
  go_wp2_with fail
  clear yR_0 yR_1 yR_2 yR_3 yR_4 yR_5 yR_6 yR_7
  have hs := (Ext.refl w3).al (.cells #[.bool Y1, .slice Y2 Y3 Y4, .bool Y5, .slice Y6 Y7 Y8, .bool U1, .slice U2 U3 U4, .bool U5, .slice U6 U7 U8] 26)
  refine (checks_f _ 2 [some y, some u] _ (by simp) (lf_two (heap_alloc_new w3 _) (r1.out.ext hs) (r2.out.ext hs))).mono ?_
  rintro e w4 ⟨rfl, hx⟩
  simp only [List.all_cons, List.all_nil, Option.isSome_some, Bool.and_true]
  replace hx := hs.trans hx
  clear hs
  replace H := mkHid (H.out.ext hx)
  replace r1 := mkHid (r1.out.ext hx)
  replace r2 := mkHid (r2.out.ext hx)
  replace fA := mkHid (fA.out.ext hx)
  replace fB := mkHid (fB.out.ext hx)
  replace fC := mkHid (fC.out.ext hx)
  replace fD := mkHid (fD.out.ext hx)
  replace fY := mkHid (fY.out.ext hx)
  replace fU := mkHid (fU.out.ext hx)
  replace hE := mkHid (hE.out.trans hx)
  replace zM := mkHid (hx.blk zM.out)
  replace zR := mkHid (hx.blk zR.out)
  clear hx kc
  clear r1 r2
  have yR_0 : w4.cell? ⟨g2 + 1, 0, none⟩ = some (.bool Y1) := by simp [World.cell?, zR.out]
  have yR_1 : w4.cell? ⟨g2 + 1, 1, none⟩ = some (.slice Y2 Y3 Y4) := by simp [World.cell?, zR.out]
  have yR_2 : w4.cell? ⟨g2 + 1, 2, none⟩ = some (.bool Y5) := by simp [World.cell?, zR.out]
  have yR_3 : w4.cell? ⟨g2 + 1, 3, none⟩ = some (.slice Y6 Y7 Y8) := by simp [World.cell?, zR.out]
  have yR_4 : w4.cell? ⟨g2 + 1, 4, none⟩ = some (.bool U1) := by simp [World.cell?, zR.out]
  have yR_5 : w4.cell? ⟨g2 + 1, 5, none⟩ = some (.slice U2 U3 U4) := by simp [World.cell?, zR.out]
  have yR_6 : w4.cell? ⟨g2 + 1, 6, none⟩ = some (.bool U5) := by simp [World.cell?, zR.out]
  have yR_7 : w4.cell? ⟨g2 + 1, 7, none⟩ = some (.slice U6 U7 U8) := by simp [World.cell?, zR.out]
  go_wp2_with fail
  refine (ky.out _ fY.out).mono ?_
  rintro e w5 ⟨rfl, hx⟩
  clear yR_0 yR_1 yR_2 yR_3 yR_4 yR_5 yR_6 yR_7
  replace H := mkHid (H.out.ext hx)
  replace fA := mkHid (fA.out.ext hx)
  replace fB := mkHid (fB.out.ext hx)
  replace fC := mkHid (fC.out.ext hx)
  replace fD := mkHid (fD.out.ext hx)
  replace fY := mkHid (fY.out.ext hx)
  replace fU := mkHid (fU.out.ext hx)
  replace hE := mkHid (hE.out.trans hx)
  replace zM := mkHid (hx.blk zM.out)
  replace zR := mkHid (hx.blk zR.out)
  clear hx
  by_cases u1 : S1 = 0
  · have p1 : y = 0 := i1.out.1 u1
    subst u1
    replace p1 := mkHid p1
    have yR_0 : w5.cell? ⟨g2 + 1, 0, none⟩ = some (.bool Y1) := by simp [World.cell?, zR.out]
    have yR_1 : w5.cell? ⟨g2 + 1, 1, none⟩ = some (.slice Y2 Y3 Y4) := by simp [World.cell?, zR.out]
    have yR_2 : w5.cell? ⟨g2 + 1, 2, none⟩ = some (.bool Y5) := by simp [World.cell?, zR.out]
    have yR_3 : w5.cell? ⟨g2 + 1, 3, none⟩ = some (.slice Y6 Y7 Y8) := by simp [World.cell?, zR.out]
    have yR_4 : w5.cell? ⟨g2 + 1, 4, none⟩ = some (.bool U1) := by simp [World.cell?, zR.out]
    have yR_5 : w5.cell? ⟨g2 + 1, 5, none⟩ = some (.slice U2 U3 U4) := by simp [World.cell?, zR.out]
    have yR_6 : w5.cell? ⟨g2 + 1, 6, none⟩ = some (.bool U5) := by simp [World.cell?, zR.out]
    have yR_7 : w5.cell? ⟨g2 + 1, 7, none⟩ = some (.slice U6 U7 U8) := by simp [World.cell?, zR.out]
    go_wp2_with fail
    refine (ku.out _ fU.out).mono ?_
    rintro e w6 ⟨rfl, hx⟩
    clear yR_0 yR_1 yR_2 yR_3 yR_4 yR_5 yR_6 yR_7
    replace H := mkHid (H.out.ext hx)
    replace fA := mkHid (fA.out.ext hx)
    replace fB := mkHid (fB.out.ext hx)
    replace fC := mkHid (fC.out.ext hx)
    replace fD := mkHid (fD.out.ext hx)
    replace fY := mkHid (fY.out.ext hx)
    replace fU := mkHid (fU.out.ext hx)
    replace hE := mkHid (hE.out.trans hx)
    replace zM := mkHid (hx.blk zM.out)
    replace zR := mkHid (hx.blk zR.out)
    clear hx
    by_cases u2 : S2 = 0
    · have p2 : u = 0 := i2.out.1 u2
      subst u2
      replace p2 := mkHid p2
      obtain rfl : R = 1 := by rw [hR.out]; rw [if_pos ⟨p1.out, p2.out⟩]
      go_wp2_with fail
      go_ret2
      exact ⟨rfl, hE.out⟩
    · have hb2 : (S2 == 0) = false := by rw [beq_eq_false_iff_ne]; exact u2
      replace u2 := mkHid u2
      have hnot : ¬ (y = 0 ∧ u = 0) := fun h => u2.out (i2.out.2 h.2)
      replace hR : Hid (R = if 0 < O then O else if P = y ∧ Q = u then 1 else if P = my ∧ Q = mu then 2 else 0) := mkHid (by rw [hR.out, if_neg hnot])
      replace hnot := mkHid hnot
      have yM_0 : w6.cell? ⟨g2, 0, none⟩ = some (.bool A1) := by simp [World.cell?, zM.out]
      have yM_1 : w6.cell? ⟨g2, 1, none⟩ = some (.slice A2 A3 A4) := by simp [World.cell?, zM.out]
      have yM_2 : w6.cell? ⟨g2, 2, none⟩ = some (.bool A5) := by simp [World.cell?, zM.out]
      have yM_3 : w6.cell? ⟨g2, 3, none⟩ = some (.slice A6 A7 A8) := by simp [World.cell?, zM.out]
      have yM_4 : w6.cell? ⟨g2, 4, none⟩ = some (.bool B1) := by simp [World.cell?, zM.out]
      have yM_5 : w6.cell? ⟨g2, 5, none⟩ = some (.slice B2 B3 B4) := by simp [World.cell?, zM.out]
      have yM_6 : w6.cell? ⟨g2, 6, none⟩ = some (.bool B5) := by simp [World.cell?, zM.out]
      have yM_7 : w6.cell? ⟨g2, 7, none⟩ = some (.slice B6 B7 B8) := by simp [World.cell?, zM.out]
      have yM_8 : w6.cell? ⟨g2, 8, none⟩ = some (.bool C1) := by simp [World.cell?, zM.out]
      have yM_9 : w6.cell? ⟨g2, 9, none⟩ = some (.slice C2 C3 C4) := by simp [World.cell?, zM.out]
      have yM_10 : w6.cell? ⟨g2, 10, none⟩ = some (.bool C5) := by simp [World.cell?, zM.out]
      have yM_11 : w6.cell? ⟨g2, 11, none⟩ = some (.slice C6 C7 C8) := by simp [World.cell?, zM.out]
      have yM_12 : w6.cell? ⟨g2, 12, none⟩ = some (.bool D1) := by simp [World.cell?, zM.out]
      have yM_13 : w6.cell? ⟨g2, 13, none⟩ = some (.slice D2 D3 D4) := by simp [World.cell?, zM.out]
      have yM_14 : w6.cell? ⟨g2, 14, none⟩ = some (.bool D5) := by simp [World.cell?, zM.out]
      have yM_15 : w6.cell? ⟨g2, 15, none⟩ = some (.slice D6 D7 D8) := by simp [World.cell?, zM.out]
      go_wp2_with fail
      refine (ko.out _ H.out).mono ?_
      rintro e w7 ⟨rfl, hx⟩
      clear yM_0 yM_1 yM_2 yM_3 yM_4 yM_5 yM_6 yM_7 yM_8 yM_9 yM_10 yM_11 yM_12 yM_13 yM_14 yM_15
      replace H := mkHid (H.out.ext hx)
      replace fA := mkHid (fA.out.ext hx)
      replace fB := mkHid (fB.out.ext hx)
      replace fC := mkHid (fC.out.ext hx)
      replace fD := mkHid (fD.out.ext hx)
      replace fY := mkHid (fY.out.ext hx)
      replace fU := mkHid (fU.out.ext hx)
      replace hE := mkHid (hE.out.trans hx)
      replace zM := mkHid (hx.blk zM.out)
      replace zR := mkHid (hx.blk zR.out)
      clear hx
      clear H
      clear ko
      by_cases uO : 0 < O
      · obtain rfl : R = O := by rw [hR.out]; rw [if_pos uO]
        go_wp2_with fail
        go_ret2
        exact ⟨rfl, hE.out⟩
      · replace hR : Hid (R = if P = y ∧ Q = u then 1 else if P = my ∧ Q = mu then 2 else 0) := mkHid (by rw [hR.out, if_neg uO])
        go_wp2_with fail
        have yM_0 : ∀ W, Ext w7 W → W.cell? ⟨g2, 0, none⟩ = some (.bool A1) := fun W e => by simp [World.cell?, e.blk zM.out]
        have yM_1 : ∀ W, Ext w7 W → W.cell? ⟨g2, 1, none⟩ = some (.slice A2 A3 A4) := fun W e => by simp [World.cell?, e.blk zM.out]
        have yM_2 : ∀ W, Ext w7 W → W.cell? ⟨g2, 2, none⟩ = some (.bool A5) := fun W e => by simp [World.cell?, e.blk zM.out]
        have yM_3 : ∀ W, Ext w7 W → W.cell? ⟨g2, 3, none⟩ = some (.slice A6 A7 A8) := fun W e => by simp [World.cell?, e.blk zM.out]
        have yM_4 : ∀ W, Ext w7 W → W.cell? ⟨g2, 4, none⟩ = some (.bool B1) := fun W e => by simp [World.cell?, e.blk zM.out]
        have yM_5 : ∀ W, Ext w7 W → W.cell? ⟨g2, 5, none⟩ = some (.slice B2 B3 B4) := fun W e => by simp [World.cell?, e.blk zM.out]
        have yM_6 : ∀ W, Ext w7 W → W.cell? ⟨g2, 6, none⟩ = some (.bool B5) := fun W e => by simp [World.cell?, e.blk zM.out]
        have yM_7 : ∀ W, Ext w7 W → W.cell? ⟨g2, 7, none⟩ = some (.slice B6 B7 B8) := fun W e => by simp [World.cell?, e.blk zM.out]
        have yM_8 : ∀ W, Ext w7 W → W.cell? ⟨g2, 8, none⟩ = some (.bool C1) := fun W e => by simp [World.cell?, e.blk zM.out]
        have yM_9 : ∀ W, Ext w7 W → W.cell? ⟨g2, 9, none⟩ = some (.slice C2 C3 C4) := fun W e => by simp [World.cell?, e.blk zM.out]
        have yM_10 : ∀ W, Ext w7 W → W.cell? ⟨g2, 10, none⟩ = some (.bool C5) := fun W e => by simp [World.cell?, e.blk zM.out]
        have yM_11 : ∀ W, Ext w7 W → W.cell? ⟨g2, 11, none⟩ = some (.slice C6 C7 C8) := fun W e => by simp [World.cell?, e.blk zM.out]
        have yM_12 : ∀ W, Ext w7 W → W.cell? ⟨g2, 12, none⟩ = some (.bool D1) := fun W e => by simp [World.cell?, e.blk zM.out]
        have yM_13 : ∀ W, Ext w7 W → W.cell? ⟨g2, 13, none⟩ = some (.slice D2 D3 D4) := fun W e => by simp [World.cell?, e.blk zM.out]
        have yM_14 : ∀ W, Ext w7 W → W.cell? ⟨g2, 14, none⟩ = some (.bool D5) := fun W e => by simp [World.cell?, e.blk zM.out]
        have yM_15 : ∀ W, Ext w7 W → W.cell? ⟨g2, 15, none⟩ = some (.slice D6 D7 D8) := fun W e => by simp [World.cell?, e.blk zM.out]
        have yR_0 : ∀ W, Ext w7 W → W.cell? ⟨g2 + 1, 0, none⟩ = some (.bool Y1) := fun W e => by simp [World.cell?, e.blk zR.out]
        have yR_1 : ∀ W, Ext w7 W → W.cell? ⟨g2 + 1, 1, none⟩ = some (.slice Y2 Y3 Y4) := fun W e => by simp [World.cell?, e.blk zR.out]
        have yR_2 : ∀ W, Ext w7 W → W.cell? ⟨g2 + 1, 2, none⟩ = some (.bool Y5) := fun W e => by simp [World.cell?, e.blk zR.out]
        have yR_3 : ∀ W, Ext w7 W → W.cell? ⟨g2 + 1, 3, none⟩ = some (.slice Y6 Y7 Y8) := fun W e => by simp [World.cell?, e.blk zR.out]
        have yR_4 : ∀ W, Ext w7 W → W.cell? ⟨g2 + 1, 4, none⟩ = some (.bool U1) := fun W e => by simp [World.cell?, e.blk zR.out]
        have yR_5 : ∀ W, Ext w7 W → W.cell? ⟨g2 + 1, 5, none⟩ = some (.slice U2 U3 U4) := fun W e => by simp [World.cell?, e.blk zR.out]
        have yR_6 : ∀ W, Ext w7 W → W.cell? ⟨g2 + 1, 6, none⟩ = some (.bool U5) := fun W e => by simp [World.cell?, e.blk zR.out]
        have yR_7 : ∀ W, Ext w7 W → W.cell? ⟨g2 + 1, 7, none⟩ = some (.slice U6 U7 U8) := fun W e => by simp [World.cell?, e.blk zR.out]
        apply region_ext [.val _, .val _, .val _, .val _, .pred (fun W v => FracR W v ay), .val _, .val _, .val _, .val _, .pred (fun W v => FracR W v bu), .pred (fun W v => FracR W v P), .pred (VarAt w7.heap.size #[.bool false, .slice none 0 0, .bool false, .slice none 0 0] 26)] (by kernel_rfl) (stable_vals _ (stable_vals _ (stable_vals _ (stable_vals _ (st_fracR _ (stable_vals _ (stable_vals _ (stable_vals _ (stable_vals _ (st_fracR _ (st_fracR _ (st_varT _ _ _ trivial))))))))))))
        iterate 4 (refine ⟨fun W hW _ => by go_simp; exact ⟨Ext.refl _, rfl⟩, ?_⟩)
        refine ⟨fun W hW _ => ?a4, fun x4 => ?_⟩
        case a4 =>
          go_simp
          refine (kay.out W (fA.out.ext hW) (fY.out.ext hW)).mono ?_
          rintro e w' ⟨v, rfl, e1, e2⟩
          exact ⟨v, rfl, e1, e2.r⟩
        iterate 4 (refine ⟨fun W hW _ => by go_simp; exact ⟨Ext.refl _, rfl⟩, ?_⟩)
        refine ⟨fun W hW _ => ?a9, fun x9 => ⟨fun W hW hF => ?a10, fun x10 => ⟨fun W hW _ => ?a11, fun x11 => fun W hW hF => ?fin⟩⟩⟩
        case a9 =>
          go_simp
          refine (kbu.out W (fB.out.ext hW) (fU.out.ext hW)).mono ?_
          rintro e w' ⟨v, rfl, e1, e2⟩
          exact ⟨v, rfl, e1, e2.r⟩
        case a10 =>
          have d9 : FracR W x9 bu := hF.1 (by kernel_rfl)
          have d4 : FracR W x4 ay := hF.2.1 (by kernel_rfl)
          replace d9 := mkHid d9
          replace d4 := mkHid d4
          clear hF
          go_simp
          refine (kp1.out _ _ W d4.out d9.out).mono ?_
          rintro e w' ⟨v, rfl, e1, e2⟩
          exact ⟨v, rfl, e1, e2.r⟩
        case a11 =>
          have hnv := new_var (b := w7.heap.size) (cs := #[.bool false, .slice none 0 0, .bool false, .slice none 0 0]) (T := 26) W hW.size
          replace hnv := mkHid hnv
          go_simp
          exact ⟨hnv.out.1, hnv.out.2.1⟩
        case fin =>
          obtain ⟨f11, f10, -⟩ := hF
          obtain ⟨gp1, rfl, hgb, hgd⟩ := f11 rfl
          have hP : FracR W x10 P := f10 rfl
          obtain ⟨V1, V2, V3, V4, V5, V6, V7, V8, rfl⟩ := hP.shape
          clear f11 f10
          clear yM_0 yM_1 yM_2 yM_3 yM_4 yM_5 yM_6 yM_7 yM_8 yM_9 yM_10 yM_11 yM_12 yM_13 yM_14 yM_15 yR_0 yR_1 yR_2 yR_3 yR_4 yR_5 yR_6 yR_7
          obtain ⟨w8, hw8⟩ : ∃ w8, w8 = W.setRow gp1 #[.bool V1, .slice V2 V3 V4, .bool V5, .slice V6 V7 V8] := ⟨_, rfl⟩
          have ltw8 := hE.out.size
          have xE : Ext w w8 := by rw [hw8]; exact (hE.out.trans hW).row (by omega) _
          have fl : ∀ v q, FracR W v q → FracR w8 v q := fun v q h => by rw [hw8]; exact h.flat hgd (by simp [flatV]) _
          have bl : ∀ g o, w7.heap[g]? = some o → w8.heap[g]? = some o := fun g o h => by
            have := (Array.getElem?_eq_some_iff.1 h).1
            rw [hw8, setRow_other _ _ _ _ (by omega)]
            exact hW.blk h
          have zV : w8.heap[gp1]? = some (.cells #[.bool V1, .slice V2 V3 V4, .bool V5, .slice V6 V7 V8] 26 (0, 0)) := by rw [hw8]; exact setRow_heap _ _ _ _ _ _ hgd
          replace hgd := mkHid hgd
          replace fA := mkHid (fl _ _ (fA.out.ext hW))
          replace fB := mkHid (fl _ _ (fB.out.ext hW))
          replace fC := mkHid (fl _ _ (fC.out.ext hW))
          replace fD := mkHid (fl _ _ (fD.out.ext hW))
          replace fY := mkHid (fl _ _ (fY.out.ext hW))
          replace fU := mkHid (fl _ _ (fU.out.ext hW))
          replace hE := mkHid xE
          replace zM := mkHid (bl _ _ zM.out)
          replace zR := mkHid (bl _ _ zR.out)
          replace hP := mkHid (fl _ _ hP)
          replace zV := mkHid zV
          replace hw8 := mkHid hw8
          clear xE fl bl hW ltw8
          go_simp
          go_wp2_with (refine wpList_store_row rfl 26 (.tmp 7) (.tmp 46) rfl gp1 #[.bool V1, .slice V2 V3 V4, .bool V5, .slice V6 V7 V8] rfl rfl 26 _ hgd.out (by kernel_rfl) rfl (by kernel_rfl) ?_; rw [← hw8.out])
          clear hw8 hgd
          clear fA fB
          clear kay kbu kp1
          have yM_0 : ∀ W, Ext w8 W → W.cell? ⟨g2, 0, none⟩ = some (.bool A1) := fun W e => by simp [World.cell?, e.blk zM.out]
          have yM_1 : ∀ W, Ext w8 W → W.cell? ⟨g2, 1, none⟩ = some (.slice A2 A3 A4) := fun W e => by simp [World.cell?, e.blk zM.out]
          have yM_2 : ∀ W, Ext w8 W → W.cell? ⟨g2, 2, none⟩ = some (.bool A5) := fun W e => by simp [World.cell?, e.blk zM.out]
          have yM_3 : ∀ W, Ext w8 W → W.cell? ⟨g2, 3, none⟩ = some (.slice A6 A7 A8) := fun W e => by simp [World.cell?, e.blk zM.out]
          have yM_4 : ∀ W, Ext w8 W → W.cell? ⟨g2, 4, none⟩ = some (.bool B1) := fun W e => by simp [World.cell?, e.blk zM.out]
          have yM_5 : ∀ W, Ext w8 W → W.cell? ⟨g2, 5, none⟩ = some (.slice B2 B3 B4) := fun W e => by simp [World.cell?, e.blk zM.out]
          have yM_6 : ∀ W, Ext w8 W → W.cell? ⟨g2, 6, none⟩ = some (.bool B5) := fun W e => by simp [World.cell?, e.blk zM.out]
          have yM_7 : ∀ W, Ext w8 W → W.cell? ⟨g2, 7, none⟩ = some (.slice B6 B7 B8) := fun W e => by simp [World.cell?, e.blk zM.out]
          have yM_8 : ∀ W, Ext w8 W → W.cell? ⟨g2, 8, none⟩ = some (.bool C1) := fun W e => by simp [World.cell?, e.blk zM.out]
          have yM_9 : ∀ W, Ext w8 W → W.cell? ⟨g2, 9, none⟩ = some (.slice C2 C3 C4) := fun W e => by simp [World.cell?, e.blk zM.out]
          have yM_10 : ∀ W, Ext w8 W → W.cell? ⟨g2, 10, none⟩ = some (.bool C5) := fun W e => by simp [World.cell?, e.blk zM.out]
          have yM_11 : ∀ W, Ext w8 W → W.cell? ⟨g2, 11, none⟩ = some (.slice C6 C7 C8) := fun W e => by simp [World.cell?, e.blk zM.out]
          have yM_12 : ∀ W, Ext w8 W → W.cell? ⟨g2, 12, none⟩ = some (.bool D1) := fun W e => by simp [World.cell?, e.blk zM.out]
          have yM_13 : ∀ W, Ext w8 W → W.cell? ⟨g2, 13, none⟩ = some (.slice D2 D3 D4) := fun W e => by simp [World.cell?, e.blk zM.out]
          have yM_14 : ∀ W, Ext w8 W → W.cell? ⟨g2, 14, none⟩ = some (.bool D5) := fun W e => by simp [World.cell?, e.blk zM.out]
          have yM_15 : ∀ W, Ext w8 W → W.cell? ⟨g2, 15, none⟩ = some (.slice D6 D7 D8) := fun W e => by simp [World.cell?, e.blk zM.out]
          have yR_0 : ∀ W, Ext w8 W → W.cell? ⟨g2 + 1, 0, none⟩ = some (.bool Y1) := fun W e => by simp [World.cell?, e.blk zR.out]
          have yR_1 : ∀ W, Ext w8 W → W.cell? ⟨g2 + 1, 1, none⟩ = some (.slice Y2 Y3 Y4) := fun W e => by simp [World.cell?, e.blk zR.out]
          have yR_2 : ∀ W, Ext w8 W → W.cell? ⟨g2 + 1, 2, none⟩ = some (.bool Y5) := fun W e => by simp [World.cell?, e.blk zR.out]
          have yR_3 : ∀ W, Ext w8 W → W.cell? ⟨g2 + 1, 3, none⟩ = some (.slice Y6 Y7 Y8) := fun W e => by simp [World.cell?, e.blk zR.out]
          have yR_4 : ∀ W, Ext w8 W → W.cell? ⟨g2 + 1, 4, none⟩ = some (.bool U1) := fun W e => by simp [World.cell?, e.blk zR.out]
          have yR_5 : ∀ W, Ext w8 W → W.cell? ⟨g2 + 1, 5, none⟩ = some (.slice U2 U3 U4) := fun W e => by simp [World.cell?, e.blk zR.out]
          have yR_6 : ∀ W, Ext w8 W → W.cell? ⟨g2 + 1, 6, none⟩ = some (.bool U5) := fun W e => by simp [World.cell?, e.blk zR.out]
          have yR_7 : ∀ W, Ext w8 W → W.cell? ⟨g2 + 1, 7, none⟩ = some (.slice U6 U7 U8) := fun W e => by simp [World.cell?, e.blk zR.out]
          apply region_ext [.val _, .val _, .val _, .val _, .pred (fun W v => FracR W v cy), .val _, .val _, .val _, .val _, .pred (fun W v => FracR W v du), .pred (fun W v => FracR W v Q), .pred (VarAt w8.heap.size #[.bool false, .slice none 0 0, .bool false, .slice none 0 0] 26)] (by kernel_rfl) (stable_vals _ (stable_vals _ (stable_vals _ (stable_vals _ (st_fracR _ (stable_vals _ (stable_vals _ (stable_vals _ (stable_vals _ (st_fracR _ (st_fracR _ (st_varT _ _ _ trivial))))))))))))
          iterate 4 (refine ⟨fun W hW _ => by go_simp; exact ⟨Ext.refl _, rfl⟩, ?_⟩)
          refine ⟨fun W hW _ => ?a4, fun x4 => ?_⟩
          case a4 =>
            go_simp
            refine (kcy.out W (fC.out.ext hW) (fY.out.ext hW)).mono ?_
            rintro e w' ⟨v, rfl, e1, e2⟩
            exact ⟨v, rfl, e1, e2.r⟩
          iterate 4 (refine ⟨fun W hW _ => by go_simp; exact ⟨Ext.refl _, rfl⟩, ?_⟩)
          refine ⟨fun W hW _ => ?a9, fun x9 => ⟨fun W hW hF => ?a10, fun x10 => ⟨fun W hW _ => ?a11, fun x11 => fun W hW hF => ?fin⟩⟩⟩
          case a9 =>
            go_simp
            refine (kdu.out W (fD.out.ext hW) (fU.out.ext hW)).mono ?_
            rintro e w' ⟨v, rfl, e1, e2⟩
            exact ⟨v, rfl, e1, e2.r⟩
          case a10 =>
            have d9 : FracR W x9 du := hF.1 (by kernel_rfl)
            have d4 : FracR W x4 cy := hF.2.1 (by kernel_rfl)
            replace d9 := mkHid d9
            replace d4 := mkHid d4
            clear hF
            go_simp
            refine (kp2.out _ _ W d4.out d9.out).mono ?_
            rintro e w' ⟨v, rfl, e1, e2⟩
            exact ⟨v, rfl, e1, e2.r⟩
          case a11 =>
            have hnv := new_var (b := w8.heap.size) (cs := #[.bool false, .slice none 0 0, .bool false, .slice none 0 0]) (T := 26) W hW.size
            replace hnv := mkHid hnv
            go_simp
            exact ⟨hnv.out.1, hnv.out.2.1⟩
          case fin =>
            obtain ⟨f11, f10, -⟩ := hF
            obtain ⟨gp2, rfl, hgb, hgd⟩ := f11 rfl
            have hQ : FracR W x10 Q := f10 rfl
            obtain ⟨N1, N2, N3, N4, N5, N6, N7, N8, rfl⟩ := hQ.shape
            clear f11 f10
            clear yM_0 yM_1 yM_2 yM_3 yM_4 yM_5 yM_6 yM_7 yM_8 yM_9 yM_10 yM_11 yM_12 yM_13 yM_14 yM_15 yR_0 yR_1 yR_2 yR_3 yR_4 yR_5 yR_6 yR_7
            obtain ⟨w9, hw9⟩ : ∃ w9, w9 = W.setRow gp2 #[.bool N1, .slice N2 N3 N4, .bool N5, .slice N6 N7 N8] := ⟨_, rfl⟩
            have ltw9 := hE.out.size
            have xE : Ext w w9 := by rw [hw9]; exact (hE.out.trans hW).row (by omega) _
            have fl : ∀ v q, FracR W v q → FracR w9 v q := fun v q h => by rw [hw9]; exact h.flat hgd (by simp [flatV]) _
            have bl : ∀ g o, w8.heap[g]? = some o → w9.heap[g]? = some o := fun g o h => by
              have := (Array.getElem?_eq_some_iff.1 h).1
              rw [hw9, setRow_other _ _ _ _ (by omega)]
              exact hW.blk h
            have zN : w9.heap[gp2]? = some (.cells #[.bool N1, .slice N2 N3 N4, .bool N5, .slice N6 N7 N8] 26 (0, 0)) := by rw [hw9]; exact setRow_heap _ _ _ _ _ _ hgd
            replace hgd := mkHid hgd
            replace fC := mkHid (fl _ _ (fC.out.ext hW))
            replace fD := mkHid (fl _ _ (fD.out.ext hW))
            replace fY := mkHid (fl _ _ (fY.out.ext hW))
            replace fU := mkHid (fl _ _ (fU.out.ext hW))
            replace hE := mkHid xE
            replace zM := mkHid (bl _ _ zM.out)
            replace zR := mkHid (bl _ _ zR.out)
            replace hP := mkHid (fl _ _ (hP.out.ext hW))
            replace zV := mkHid (bl _ _ zV.out)
            replace hQ := mkHid (fl _ _ hQ)
            replace zN := mkHid zN
            replace hw9 := mkHid hw9
            clear xE fl bl hW ltw9
            have yV_0 : w9.cell? ⟨gp1, 0, none⟩ = some (.bool V1) := by simp [World.cell?, zV.out]
            have yV_1 : w9.cell? ⟨gp1, 1, none⟩ = some (.slice V2 V3 V4) := by simp [World.cell?, zV.out]
            have yV_2 : w9.cell? ⟨gp1, 2, none⟩ = some (.bool V5) := by simp [World.cell?, zV.out]
            have yV_3 : w9.cell? ⟨gp1, 3, none⟩ = some (.slice V6 V7 V8) := by simp [World.cell?, zV.out]
            have yR_0 : w9.cell? ⟨g2 + 1, 0, none⟩ = some (.bool Y1) := by simp [World.cell?, zR.out]
            have yR_1 : w9.cell? ⟨g2 + 1, 1, none⟩ = some (.slice Y2 Y3 Y4) := by simp [World.cell?, zR.out]
            have yR_2 : w9.cell? ⟨g2 + 1, 2, none⟩ = some (.bool Y5) := by simp [World.cell?, zR.out]
            have yR_3 : w9.cell? ⟨g2 + 1, 3, none⟩ = some (.slice Y6 Y7 Y8) := by simp [World.cell?, zR.out]
            have yR_4 : w9.cell? ⟨g2 + 1, 4, none⟩ = some (.bool U1) := by simp [World.cell?, zR.out]
            have yR_5 : w9.cell? ⟨g2 + 1, 5, none⟩ = some (.slice U2 U3 U4) := by simp [World.cell?, zR.out]
            have yR_6 : w9.cell? ⟨g2 + 1, 6, none⟩ = some (.bool U5) := by simp [World.cell?, zR.out]
            have yR_7 : w9.cell? ⟨g2 + 1, 7, none⟩ = some (.slice U6 U7 U8) := by simp [World.cell?, zR.out]
            go_simp
            go_wp2_with (refine wpList_store_row rfl 26 (.tmp 8) (.tmp 57) rfl gp2 #[.bool N1, .slice N2 N3 N4, .bool N5, .slice N6 N7 N8] rfl rfl 26 _ hgd.out (by kernel_rfl) rfl (by kernel_rfl) ?_; rw [← hw9.out])
            clear hw9 hgd
            refine (kq1.out _ _ hP.out fY.out).mono ?_
            rintro e w10 ⟨rfl, hx⟩
            clear yV_0 yV_1 yV_2 yV_3 yR_0 yR_1 yR_2 yR_3 yR_4 yR_5 yR_6 yR_7
            replace fC := mkHid (fC.out.ext hx)
            replace fD := mkHid (fD.out.ext hx)
            replace fY := mkHid (fY.out.ext hx)
            replace fU := mkHid (fU.out.ext hx)
            replace hE := mkHid (hE.out.trans hx)
            replace zM := mkHid (hx.blk zM.out)
            replace zR := mkHid (hx.blk zR.out)
            replace hP := mkHid (hP.out.ext hx)
            replace zV := mkHid (hx.blk zV.out)
            replace hQ := mkHid (hQ.out.ext hx)
            replace zN := mkHid (hx.blk zN.out)
            clear hx
            clear fC fD zM
            clear kcy kdu kp2 kq1
            by_cases u3 : S3 = 0
            · have p3 : P = y := i3.out.1 u3
              subst u3
              replace p3 := mkHid p3
              have yN_0 : w10.cell? ⟨gp2, 0, none⟩ = some (.bool N1) := by simp [World.cell?, zN.out]
              have yN_1 : w10.cell? ⟨gp2, 1, none⟩ = some (.slice N2 N3 N4) := by simp [World.cell?, zN.out]
              have yN_2 : w10.cell? ⟨gp2, 2, none⟩ = some (.bool N5) := by simp [World.cell?, zN.out]
              have yN_3 : w10.cell? ⟨gp2, 3, none⟩ = some (.slice N6 N7 N8) := by simp [World.cell?, zN.out]
              have yR_0 : w10.cell? ⟨g2 + 1, 0, none⟩ = some (.bool Y1) := by simp [World.cell?, zR.out]
              have yR_1 : w10.cell? ⟨g2 + 1, 1, none⟩ = some (.slice Y2 Y3 Y4) := by simp [World.cell?, zR.out]
              have yR_2 : w10.cell? ⟨g2 + 1, 2, none⟩ = some (.bool Y5) := by simp [World.cell?, zR.out]
              have yR_3 : w10.cell? ⟨g2 + 1, 3, none⟩ = some (.slice Y6 Y7 Y8) := by simp [World.cell?, zR.out]
              have yR_4 : w10.cell? ⟨g2 + 1, 4, none⟩ = some (.bool U1) := by simp [World.cell?, zR.out]
              have yR_5 : w10.cell? ⟨g2 + 1, 5, none⟩ = some (.slice U2 U3 U4) := by simp [World.cell?, zR.out]
              have yR_6 : w10.cell? ⟨g2 + 1, 6, none⟩ = some (.bool U5) := by simp [World.cell?, zR.out]
              have yR_7 : w10.cell? ⟨g2 + 1, 7, none⟩ = some (.slice U6 U7 U8) := by simp [World.cell?, zR.out]
              go_wp2_with fail
              refine (kq2.out _ _ hQ.out fU.out).mono ?_
              rintro e w11 ⟨rfl, hx⟩
              clear yN_0 yN_1 yN_2 yN_3 yR_0 yR_1 yR_2 yR_3 yR_4 yR_5 yR_6 yR_7
              replace fY := mkHid (fY.out.ext hx)
              replace fU := mkHid (fU.out.ext hx)
              replace hE := mkHid (hE.out.trans hx)
              replace zR := mkHid (hx.blk zR.out)
              replace hP := mkHid (hP.out.ext hx)
              replace zV := mkHid (hx.blk zV.out)
              replace hQ := mkHid (hQ.out.ext hx)
              replace zN := mkHid (hx.blk zN.out)
              clear hx
              by_cases u4 : S4 = 0
              · have p4 : Q = u := i4.out.1 u4
                subst u4
                replace p4 := mkHid p4
                obtain rfl : R = 1 := by rw [hR.out]; rw [if_pos ⟨p3.out, p4.out⟩]
                go_wp2_with fail
                go_ret2
                exact ⟨rfl, hE.out⟩
              · have hb4 : (S4 == 0) = false := by rw [beq_eq_false_iff_ne]; exact u4
                replace u4 := mkHid u4
                replace hR : Hid (R = if P = my ∧ Q = mu then 2 else 0) := mkHid (by rw [hR.out, if_neg (fun h => u4.out (i4.out.2 h.2))])
                go_wp2_with fail
                have yV_0 : ∀ W, Ext w11 W → W.cell? ⟨gp1, 0, none⟩ = some (.bool V1) := fun W e => by simp [World.cell?, e.blk zV.out]
                have yV_1 : ∀ W, Ext w11 W → W.cell? ⟨gp1, 1, none⟩ = some (.slice V2 V3 V4) := fun W e => by simp [World.cell?, e.blk zV.out]
                have yV_2 : ∀ W, Ext w11 W → W.cell? ⟨gp1, 2, none⟩ = some (.bool V5) := fun W e => by simp [World.cell?, e.blk zV.out]
                have yV_3 : ∀ W, Ext w11 W → W.cell? ⟨gp1, 3, none⟩ = some (.slice V6 V7 V8) := fun W e => by simp [World.cell?, e.blk zV.out]
                have yN_0 : ∀ W, Ext w11 W → W.cell? ⟨gp2, 0, none⟩ = some (.bool N1) := fun W e => by simp [World.cell?, e.blk zN.out]
                have yN_1 : ∀ W, Ext w11 W → W.cell? ⟨gp2, 1, none⟩ = some (.slice N2 N3 N4) := fun W e => by simp [World.cell?, e.blk zN.out]
                have yN_2 : ∀ W, Ext w11 W → W.cell? ⟨gp2, 2, none⟩ = some (.bool N5) := fun W e => by simp [World.cell?, e.blk zN.out]
                have yN_3 : ∀ W, Ext w11 W → W.cell? ⟨gp2, 3, none⟩ = some (.slice N6 N7 N8) := fun W e => by simp [World.cell?, e.blk zN.out]
                have yR_0 : ∀ W, Ext w11 W → W.cell? ⟨g2 + 1, 0, none⟩ = some (.bool Y1) := fun W e => by simp [World.cell?, e.blk zR.out]
                have yR_1 : ∀ W, Ext w11 W → W.cell? ⟨g2 + 1, 1, none⟩ = some (.slice Y2 Y3 Y4) := fun W e => by simp [World.cell?, e.blk zR.out]
                have yR_2 : ∀ W, Ext w11 W → W.cell? ⟨g2 + 1, 2, none⟩ = some (.bool Y5) := fun W e => by simp [World.cell?, e.blk zR.out]
                have yR_3 : ∀ W, Ext w11 W → W.cell? ⟨g2 + 1, 3, none⟩ = some (.slice Y6 Y7 Y8) := fun W e => by simp [World.cell?, e.blk zR.out]
                have yR_4 : ∀ W, Ext w11 W → W.cell? ⟨g2 + 1, 4, none⟩ = some (.bool U1) := fun W e => by simp [World.cell?, e.blk zR.out]
                have yR_5 : ∀ W, Ext w11 W → W.cell? ⟨g2 + 1, 5, none⟩ = some (.slice U2 U3 U4) := fun W e => by simp [World.cell?, e.blk zR.out]
                have yR_6 : ∀ W, Ext w11 W → W.cell? ⟨g2 + 1, 6, none⟩ = some (.bool U5) := fun W e => by simp [World.cell?, e.blk zR.out]
                have yR_7 : ∀ W, Ext w11 W → W.cell? ⟨g2 + 1, 7, none⟩ = some (.slice U6 U7 U8) := fun W e => by simp [World.cell?, e.blk zR.out]
                by_cases u5 : S5 = 0
                · have p5 : P = my := i5.out.1 u5
                  subst u5
                  by_cases u6 : S6 = 0
                  · have p6 : Q = mu := i6.out.1 u6
                    subst u6
                    have hR2 := mkHid (show R = 2 by rw [hR.out, if_pos ⟨p5, p6⟩])
                    clear p5 p6 i5 i6
                    apply region_ext [.val _, .val _, .val _, .pred (fun W v => FracR W v my), .val _, .val _, .val _, .val _, .val _, .val _, .pred (fun W v => FracR W v mu), .val _, .val _, .val _] (by kernel_rfl) (stable_vals _ (stable_vals _ (stable_vals _ (st_fracR _ (stable_vals _ (stable_vals _ (stable_vals _ (stable_vals _ (stable_vals _ (stable_vals _ (st_fracR _ (stable_vals _ (stable_vals _ (stable_vals _ trivial))))))))))))))
                    iterate 3 (refine ⟨fun W hW _ => by go_simp; first | exact ⟨Ext.refl _, rfl⟩ | rfl, ?_⟩)
                    refine ⟨fun W hW _ => ?a3, fun x3 => ⟨fun W hW hF => ?a4, ?_⟩⟩
                    case a3 =>
                      go_simp
                      refine (kt1.out W (fY.out.ext hW)).mono ?_
                      rintro e w' ⟨v, rfl, e1, e2⟩
                      exact ⟨v, rfl, e1, e2.r⟩
                    case a4 =>
                      have dd : FracR W x3 my := hF.1 (by kernel_rfl)
                      replace dd := mkHid dd
                      clear hF
                      go_simp
                      refine (kq3.out _ _ W (hP.out.ext hW) dd.out).mono ?_
                      rintro e w' ⟨rfl, e1⟩
                      exact ⟨rfl, e1⟩
                    iterate 5 (refine ⟨fun W hW _ => by go_simp; first | exact ⟨Ext.refl _, rfl⟩ | rfl, ?_⟩)
                    refine ⟨fun W hW _ => ?a10, fun x10 => ⟨fun W hW hF => ?a11, ?_⟩⟩
                    case a10 =>
                      go_simp
                      refine (kt2.out W (fU.out.ext hW)).mono ?_
                      rintro e w' ⟨v, rfl, e1, e2⟩
                      exact ⟨v, rfl, e1, e2.r⟩
                    case a11 =>
                      have dd : FracR W x10 mu := hF.1 (by kernel_rfl)
                      replace dd := mkHid dd
                      clear hF
                      go_simp
                      refine (kq4.out _ _ W (hQ.out.ext hW) dd.out).mono ?_
                      rintro e w' ⟨rfl, e1⟩
                      exact ⟨rfl, e1⟩
                    iterate 2 (refine ⟨fun W hW _ => by go_simp; first | exact ⟨Ext.refl _, rfl⟩ | rfl, ?_⟩)
                    intro W hW _
                    clear yV_0 yV_1 yV_2 yV_3 yN_0 yN_1 yN_2 yN_3 yR_0 yR_1 yR_2 yR_3 yR_4 yR_5 yR_6 yR_7
                    replace hE := mkHid (hE.out.trans hW)
                    clear hW
                    go_simp
                    obtain rfl := hR2.out
                    go_wp2_with fail
                    go_ret2
                    exact ⟨rfl, hE.out⟩
                  · have hR2 := mkHid (show R = 0 by rw [hR.out, if_neg (fun h => u6 (i6.out.2 h.2))])
                    have hb : (S6 == 0) = false := by rw [beq_eq_false_iff_ne]; exact u6
                    clear u6 p5 i5 i6
                    apply region_ext [.val _, .val _, .val _, .pred (fun W v => FracR W v my), .val _, .val _, .val _, .val _, .val _, .val _, .pred (fun W v => FracR W v mu), .val _, .val _, .val _] (by kernel_rfl) (stable_vals _ (stable_vals _ (stable_vals _ (st_fracR _ (stable_vals _ (stable_vals _ (stable_vals _ (stable_vals _ (stable_vals _ (stable_vals _ (st_fracR _ (stable_vals _ (stable_vals _ (stable_vals _ trivial))))))))))))))
                    iterate 3 (refine ⟨fun W hW _ => by go_simp; first | exact ⟨Ext.refl _, rfl⟩ | rfl, ?_⟩)
                    refine ⟨fun W hW _ => ?a3, fun x3 => ⟨fun W hW hF => ?a4, ?_⟩⟩
                    case a3 =>
                      go_simp
                      refine (kt1.out W (fY.out.ext hW)).mono ?_
                      rintro e w' ⟨v, rfl, e1, e2⟩
                      exact ⟨v, rfl, e1, e2.r⟩
                    case a4 =>
                      have dd : FracR W x3 my := hF.1 (by kernel_rfl)
                      replace dd := mkHid dd
                      clear hF
                      go_simp
                      refine (kq3.out _ _ W (hP.out.ext hW) dd.out).mono ?_
                      rintro e w' ⟨rfl, e1⟩
                      exact ⟨rfl, e1⟩
                    iterate 5 (refine ⟨fun W hW _ => by go_simp; first | exact ⟨Ext.refl _, rfl⟩ | rfl, ?_⟩)
                    refine ⟨fun W hW _ => ?a10, fun x10 => ⟨fun W hW hF => ?a11, ?_⟩⟩
                    case a10 =>
                      go_simp
                      refine (kt2.out W (fU.out.ext hW)).mono ?_
                      rintro e w' ⟨v, rfl, e1, e2⟩
                      exact ⟨v, rfl, e1, e2.r⟩
                    case a11 =>
                      have dd : FracR W x10 mu := hF.1 (by kernel_rfl)
                      replace dd := mkHid dd
                      clear hF
                      go_simp
                      refine (kq4.out _ _ W (hQ.out.ext hW) dd.out).mono ?_
                      rintro e w' ⟨rfl, e1⟩
                      exact ⟨rfl, e1⟩
                    iterate 2 (refine ⟨fun W hW _ => by go_simp; first | exact ⟨Ext.refl _, rfl⟩ | rfl, ?_⟩)
                    intro W hW _
                    clear yV_0 yV_1 yV_2 yV_3 yN_0 yN_1 yN_2 yN_3 yR_0 yR_1 yR_2 yR_3 yR_4 yR_5 yR_6 yR_7
                    replace hE := mkHid (hE.out.trans hW)
                    clear hW
                    go_simp
                    obtain rfl := hR2.out
                    go_wp2_with fail
                    go_ret2
                    exact ⟨rfl, hE.out⟩
                · have hR2 := mkHid (show R = 0 by rw [hR.out, if_neg (fun h => u5 (i5.out.2 h.1))])
                  have hb : (S5 == 0) = false := by rw [beq_eq_false_iff_ne]; exact u5
                  clear u5 i5 i6
                  apply region_ext [.val _, .val _, .val _, .pred (fun W v => FracR W v my), .val _, .val _, .val _, .val _, .val _, .val _, .val _, .val _, .val _, .val _] (by kernel_rfl) (stable_vals _ (stable_vals _ (stable_vals _ (st_fracR _ (stable_vals _ (stable_vals _ (stable_vals _ (stable_vals _ (stable_vals _ (stable_vals _ (stable_vals _ (stable_vals _ (stable_vals _ (stable_vals _ trivial))))))))))))))
                  iterate 3 (refine ⟨fun W hW _ => by go_simp; first | exact ⟨Ext.refl _, rfl⟩ | rfl, ?_⟩)
                  refine ⟨fun W hW _ => ?a3, fun x3 => ⟨fun W hW hF => ?a4, ?_⟩⟩
                  case a3 =>
                    go_simp
                    refine (kt1.out W (fY.out.ext hW)).mono ?_
                    rintro e w' ⟨v, rfl, e1, e2⟩
                    exact ⟨v, rfl, e1, e2.r⟩
                  case a4 =>
                    have dd : FracR W x3 my := hF.1 (by kernel_rfl)
                    replace dd := mkHid dd
                    clear hF
                    go_simp
                    refine (kq3.out _ _ W (hP.out.ext hW) dd.out).mono ?_
                    rintro e w' ⟨rfl, e1⟩
                    exact ⟨rfl, e1⟩
                  iterate 9 (refine ⟨fun W hW _ => by go_simp; first | exact ⟨Ext.refl _, rfl⟩ | rfl, ?_⟩)
                  intro W hW _
                  clear yV_0 yV_1 yV_2 yV_3 yN_0 yN_1 yN_2 yN_3 yR_0 yR_1 yR_2 yR_3 yR_4 yR_5 yR_6 yR_7
                  replace hE := mkHid (hE.out.trans hW)
                  clear hW
                  go_simp
                  obtain rfl := hR2.out
                  go_wp2_with fail
                  go_ret2
                  exact ⟨rfl, hE.out⟩
            · have hb3 : (S3 == 0) = false := by rw [beq_eq_false_iff_ne]; exact u3
              replace u3 := mkHid u3
              replace hR : Hid (R = if P = my ∧ Q = mu then 2 else 0) := mkHid (by rw [hR.out, if_neg (fun h => u3.out (i3.out.2 h.1))])
              go_wp2_with fail
              have yV_0 : ∀ W, Ext w10 W → W.cell? ⟨gp1, 0, none⟩ = some (.bool V1) := fun W e => by simp [World.cell?, e.blk zV.out]
              have yV_1 : ∀ W, Ext w10 W → W.cell? ⟨gp1, 1, none⟩ = some (.slice V2 V3 V4) := fun W e => by simp [World.cell?, e.blk zV.out]
              have yV_2 : ∀ W, Ext w10 W → W.cell? ⟨gp1, 2, none⟩ = some (.bool V5) := fun W e => by simp [World.cell?, e.blk zV.out]
              have yV_3 : ∀ W, Ext w10 W → W.cell? ⟨gp1, 3, none⟩ = some (.slice V6 V7 V8) := fun W e => by simp [World.cell?, e.blk zV.out]
              have yN_0 : ∀ W, Ext w10 W → W.cell? ⟨gp2, 0, none⟩ = some (.bool N1) := fun W e => by simp [World.cell?, e.blk zN.out]
              have yN_1 : ∀ W, Ext w10 W → W.cell? ⟨gp2, 1, none⟩ = some (.slice N2 N3 N4) := fun W e => by simp [World.cell?, e.blk zN.out]
              have yN_2 : ∀ W, Ext w10 W → W.cell? ⟨gp2, 2, none⟩ = some (.bool N5) := fun W e => by simp [World.cell?, e.blk zN.out]
              have yN_3 : ∀ W, Ext w10 W → W.cell? ⟨gp2, 3, none⟩ = some (.slice N6 N7 N8) := fun W e => by simp [World.cell?, e.blk zN.out]
              have yR_0 : ∀ W, Ext w10 W → W.cell? ⟨g2 + 1, 0, none⟩ = some (.bool Y1) := fun W e => by simp [World.cell?, e.blk zR.out]
              have yR_1 : ∀ W, Ext w10 W → W.cell? ⟨g2 + 1, 1, none⟩ = some (.slice Y2 Y3 Y4) := fun W e => by simp [World.cell?, e.blk zR.out]
              have yR_2 : ∀ W, Ext w10 W → W.cell? ⟨g2 + 1, 2, none⟩ = some (.bool Y5) := fun W e => by simp [World.cell?, e.blk zR.out]
              have yR_3 : ∀ W, Ext w10 W → W.cell? ⟨g2 + 1, 3, none⟩ = some (.slice Y6 Y7 Y8) := fun W e => by simp [World.cell?, e.blk zR.out]
              have yR_4 : ∀ W, Ext w10 W → W.cell? ⟨g2 + 1, 4, none⟩ = some (.bool U1) := fun W e => by simp [World.cell?, e.blk zR.out]
              have yR_5 : ∀ W, Ext w10 W → W.cell? ⟨g2 + 1, 5, none⟩ = some (.slice U2 U3 U4) := fun W e => by simp [World.cell?, e.blk zR.out]
              have yR_6 : ∀ W, Ext w10 W → W.cell? ⟨g2 + 1, 6, none⟩ = some (.bool U5) := fun W e => by simp [World.cell?, e.blk zR.out]
              have yR_7 : ∀ W, Ext w10 W → W.cell? ⟨g2 + 1, 7, none⟩ = some (.slice U6 U7 U8) := fun W e => by simp [World.cell?, e.blk zR.out]
              by_cases u5 : S5 = 0
              · have p5 : P = my := i5.out.1 u5
                subst u5
                by_cases u6 : S6 = 0
                · have p6 : Q = mu := i6.out.1 u6
                  subst u6
                  have hR2 := mkHid (show R = 2 by rw [hR.out, if_pos ⟨p5, p6⟩])
                  clear p5 p6 i5 i6
                  apply region_ext [.val _, .val _, .val _, .pred (fun W v => FracR W v my), .val _, .val _, .val _, .val _, .val _, .val _, .pred (fun W v => FracR W v mu), .val _, .val _, .val _] (by kernel_rfl) (stable_vals _ (stable_vals _ (stable_vals _ (st_fracR _ (stable_vals _ (stable_vals _ (stable_vals _ (stable_vals _ (stable_vals _ (stable_vals _ (st_fracR _ (stable_vals _ (stable_vals _ (stable_vals _ trivial))))))))))))))
                  iterate 3 (refine ⟨fun W hW _ => by go_simp; first | exact ⟨Ext.refl _, rfl⟩ | rfl, ?_⟩)
                  refine ⟨fun W hW _ => ?a3, fun x3 => ⟨fun W hW hF => ?a4, ?_⟩⟩
                  case a3 =>
                    go_simp
                    refine (kt1.out W (fY.out.ext hW)).mono ?_
                    rintro e w' ⟨v, rfl, e1, e2⟩
                    exact ⟨v, rfl, e1, e2.r⟩
                  case a4 =>
                    have dd : FracR W x3 my := hF.1 (by kernel_rfl)
                    replace dd := mkHid dd
                    clear hF
                    go_simp
                    refine (kq3.out _ _ W (hP.out.ext hW) dd.out).mono ?_
                    rintro e w' ⟨rfl, e1⟩
                    exact ⟨rfl, e1⟩
                  iterate 5 (refine ⟨fun W hW _ => by go_simp; first | exact ⟨Ext.refl _, rfl⟩ | rfl, ?_⟩)
                  refine ⟨fun W hW _ => ?a10, fun x10 => ⟨fun W hW hF => ?a11, ?_⟩⟩
                  case a10 =>
                    go_simp
                    refine (kt2.out W (fU.out.ext hW)).mono ?_
                    rintro e w' ⟨v, rfl, e1, e2⟩
                    exact ⟨v, rfl, e1, e2.r⟩
                  case a11 =>
                    have dd : FracR W x10 mu := hF.1 (by kernel_rfl)
                    replace dd := mkHid dd
                    clear hF
                    go_simp
                    refine (kq4.out _ _ W (hQ.out.ext hW) dd.out).mono ?_
                    rintro e w' ⟨rfl, e1⟩
                    exact ⟨rfl, e1⟩
                  iterate 2 (refine ⟨fun W hW _ => by go_simp; first | exact ⟨Ext.refl _, rfl⟩ | rfl, ?_⟩)
                  intro W hW _
                  clear yV_0 yV_1 yV_2 yV_3 yN_0 yN_1 yN_2 yN_3 yR_0 yR_1 yR_2 yR_3 yR_4 yR_5 yR_6 yR_7
                  replace hE := mkHid (hE.out.trans hW)
                  clear hW
                  go_simp
                  obtain rfl := hR2.out
                  go_wp2_with fail
                  go_ret2
                  exact ⟨rfl, hE.out⟩
                · have hR2 := mkHid (show R = 0 by rw [hR.out, if_neg (fun h => u6 (i6.out.2 h.2))])
                  have hb : (S6 == 0) = false := by rw [beq_eq_false_iff_ne]; exact u6
                  clear u6 p5 i5 i6
                  apply region_ext [.val _, .val _, .val _, .pred (fun W v => FracR W v my), .val _, .val _, .val _, .val _, .val _, .val _, .pred (fun W v => FracR W v mu), .val _, .val _, .val _] (by kernel_rfl) (stable_vals _ (stable_vals _ (stable_vals _ (st_fracR _ (stable_vals _ (stable_vals _ (stable_vals _ (stable_vals _ (stable_vals _ (stable_vals _ (st_fracR _ (stable_vals _ (stable_vals _ (stable_vals _ trivial))))))))))))))
                  iterate 3 (refine ⟨fun W hW _ => by go_simp; first | exact ⟨Ext.refl _, rfl⟩ | rfl, ?_⟩)
                  refine ⟨fun W hW _ => ?a3, fun x3 => ⟨fun W hW hF => ?a4, ?_⟩⟩
                  case a3 =>
                    go_simp
                    refine (kt1.out W (fY.out.ext hW)).mono ?_
                    rintro e w' ⟨v, rfl, e1, e2⟩
                    exact ⟨v, rfl, e1, e2.r⟩
                  case a4 =>
                    have dd : FracR W x3 my := hF.1 (by kernel_rfl)
                    replace dd := mkHid dd
                    clear hF
                    go_simp
                    refine (kq3.out _ _ W (hP.out.ext hW) dd.out).mono ?_
                    rintro e w' ⟨rfl, e1⟩
                    exact ⟨rfl, e1⟩
                  iterate 5 (refine ⟨fun W hW _ => by go_simp; first | exact ⟨Ext.refl _, rfl⟩ | rfl, ?_⟩)
                  refine ⟨fun W hW _ => ?a10, fun x10 => ⟨fun W hW hF => ?a11, ?_⟩⟩
                  case a10 =>
                    go_simp
                    refine (kt2.out W (fU.out.ext hW)).mono ?_
                    rintro e w' ⟨v, rfl, e1, e2⟩
                    exact ⟨v, rfl, e1, e2.r⟩
                  case a11 =>
                    have dd : FracR W x10 mu := hF.1 (by kernel_rfl)
                    replace dd := mkHid dd
                    clear hF
                    go_simp
                    refine (kq4.out _ _ W (hQ.out.ext hW) dd.out).mono ?_
                    rintro e w' ⟨rfl, e1⟩
                    exact ⟨rfl, e1⟩
                  iterate 2 (refine ⟨fun W hW _ => by go_simp; first | exact ⟨Ext.refl _, rfl⟩ | rfl, ?_⟩)
                  intro W hW _
                  clear yV_0 yV_1 yV_2 yV_3 yN_0 yN_1 yN_2 yN_3 yR_0 yR_1 yR_2 yR_3 yR_4 yR_5 yR_6 yR_7
                  replace hE := mkHid (hE.out.trans hW)
                  clear hW
                  go_simp
                  obtain rfl := hR2.out
                  go_wp2_with fail
                  go_ret2
                  exact ⟨rfl, hE.out⟩
              · have hR2 := mkHid (show R = 0 by rw [hR.out, if_neg (fun h => u5 (i5.out.2 h.1))])
                have hb : (S5 == 0) = false := by rw [beq_eq_false_iff_ne]; exact u5
                clear u5 i5 i6
                apply region_ext [.val _, .val _, .val _, .pred (fun W v => FracR W v my), .val _, .val _, .val _, .val _, .val _, .val _, .val _, .val _, .val _, .val _] (by kernel_rfl) (stable_vals _ (stable_vals _ (stable_vals _ (st_fracR _ (stable_vals _ (stable_vals _ (stable_vals _ (stable_vals _ (stable_vals _ (stable_vals _ (stable_vals _ (stable_vals _ (stable_vals _ (stable_vals _ trivial))))))))))))))
                iterate 3 (refine ⟨fun W hW _ => by go_simp; first | exact ⟨Ext.refl _, rfl⟩ | rfl, ?_⟩)
                refine ⟨fun W hW _ => ?a3, fun x3 => ⟨fun W hW hF => ?a4, ?_⟩⟩
                case a3 =>
                  go_simp
                  refine (kt1.out W (fY.out.ext hW)).mono ?_
                  rintro e w' ⟨v, rfl, e1, e2⟩
                  exact ⟨v, rfl, e1, e2.r⟩
                case a4 =>
                  have dd : FracR W x3 my := hF.1 (by kernel_rfl)
                  replace dd := mkHid dd
                  clear hF
                  go_simp
                  refine (kq3.out _ _ W (hP.out.ext hW) dd.out).mono ?_
                  rintro e w' ⟨rfl, e1⟩
                  exact ⟨rfl, e1⟩
                iterate 9 (refine ⟨fun W hW _ => by go_simp; first | exact ⟨Ext.refl _, rfl⟩ | rfl, ?_⟩)
                intro W hW _
                clear yV_0 yV_1 yV_2 yV_3 yN_0 yN_1 yN_2 yN_3 yR_0 yR_1 yR_2 yR_3 yR_4 yR_5 yR_6 yR_7
                replace hE := mkHid (hE.out.trans hW)
                clear hW
                go_simp
                obtain rfl := hR2.out
                go_wp2_with fail
                go_ret2
                exact ⟨rfl, hE.out⟩
  · have hb1 : (S1 == 0) = false := by rw [beq_eq_false_iff_ne]; exact u1
    replace u1 := mkHid u1
    have hnot : ¬ (y = 0 ∧ u = 0) := fun h => u1.out (i1.out.2 h.1)
    replace hR : Hid (R = if 0 < O then O else if P = y ∧ Q = u then 1 else if P = my ∧ Q = mu then 2 else 0) := mkHid (by rw [hR.out, if_neg hnot])
    replace hnot := mkHid hnot
    have yM_0 : w5.cell? ⟨g2, 0, none⟩ = some (.bool A1) := by simp [World.cell?, zM.out]
    have yM_1 : w5.cell? ⟨g2, 1, none⟩ = some (.slice A2 A3 A4) := by simp [World.cell?, zM.out]
    have yM_2 : w5.cell? ⟨g2, 2, none⟩ = some (.bool A5) := by simp [World.cell?, zM.out]
    have yM_3 : w5.cell? ⟨g2, 3, none⟩ = some (.slice A6 A7 A8) := by simp [World.cell?, zM.out]
    have yM_4 : w5.cell? ⟨g2, 4, none⟩ = some (.bool B1) := by simp [World.cell?, zM.out]
    have yM_5 : w5.cell? ⟨g2, 5, none⟩ = some (.slice B2 B3 B4) := by simp [World.cell?, zM.out]
    have yM_6 : w5.cell? ⟨g2, 6, none⟩ = some (.bool B5) := by simp [World.cell?, zM.out]
    have yM_7 : w5.cell? ⟨g2, 7, none⟩ = some (.slice B6 B7 B8) := by simp [World.cell?, zM.out]
    have yM_8 : w5.cell? ⟨g2, 8, none⟩ = some (.bool C1) := by simp [World.cell?, zM.out]
    have yM_9 : w5.cell? ⟨g2, 9, none⟩ = some (.slice C2 C3 C4) := by simp [World.cell?, zM.out]
    have yM_10 : w5.cell? ⟨g2, 10, none⟩ = some (.bool C5) := by simp [World.cell?, zM.out]
    have yM_11 : w5.cell? ⟨g2, 11, none⟩ = some (.slice C6 C7 C8) := by simp [World.cell?, zM.out]
    have yM_12 : w5.cell? ⟨g2, 12, none⟩ = some (.bool D1) := by simp [World.cell?, zM.out]
    have yM_13 : w5.cell? ⟨g2, 13, none⟩ = some (.slice D2 D3 D4) := by simp [World.cell?, zM.out]
    have yM_14 : w5.cell? ⟨g2, 14, none⟩ = some (.bool D5) := by simp [World.cell?, zM.out]
    have yM_15 : w5.cell? ⟨g2, 15, none⟩ = some (.slice D6 D7 D8) := by simp [World.cell?, zM.out]
    go_wp2_with fail
    refine (ko.out _ H.out).mono ?_
    rintro e w12 ⟨rfl, hx⟩
    clear yM_0 yM_1 yM_2 yM_3 yM_4 yM_5 yM_6 yM_7 yM_8 yM_9 yM_10 yM_11 yM_12 yM_13 yM_14 yM_15
    replace H := mkHid (H.out.ext hx)
    replace fA := mkHid (fA.out.ext hx)
    replace fB := mkHid (fB.out.ext hx)
    replace fC := mkHid (fC.out.ext hx)
    replace fD := mkHid (fD.out.ext hx)
    replace fY := mkHid (fY.out.ext hx)
    replace fU := mkHid (fU.out.ext hx)
    replace hE := mkHid (hE.out.trans hx)
    replace zM := mkHid (hx.blk zM.out)
    replace zR := mkHid (hx.blk zR.out)
    clear hx
    clear H
    clear ko
    by_cases uO : 0 < O
    · obtain rfl : R = O := by rw [hR.out]; rw [if_pos uO]
      go_wp2_with fail
      go_ret2
      exact ⟨rfl, hE.out⟩
    · replace hR : Hid (R = if P = y ∧ Q = u then 1 else if P = my ∧ Q = mu then 2 else 0) := mkHid (by rw [hR.out, if_neg uO])
      go_wp2_with fail
      have yM_0 : ∀ W, Ext w12 W → W.cell? ⟨g2, 0, none⟩ = some (.bool A1) := fun W e => by simp [World.cell?, e.blk zM.out]
      have yM_1 : ∀ W, Ext w12 W → W.cell? ⟨g2, 1, none⟩ = some (.slice A2 A3 A4) := fun W e => by simp [World.cell?, e.blk zM.out]
      have yM_2 : ∀ W, Ext w12 W → W.cell? ⟨g2, 2, none⟩ = some (.bool A5) := fun W e => by simp [World.cell?, e.blk zM.out]
      have yM_3 : ∀ W, Ext w12 W → W.cell? ⟨g2, 3, none⟩ = some (.slice A6 A7 A8) := fun W e => by simp [World.cell?, e.blk zM.out]
      have yM_4 : ∀ W, Ext w12 W → W.cell? ⟨g2, 4, none⟩ = some (.bool B1) := fun W e => by simp [World.cell?, e.blk zM.out]
      have yM_5 : ∀ W, Ext w12 W → W.cell? ⟨g2, 5, none⟩ = some (.slice B2 B3 B4) := fun W e => by simp [World.cell?, e.blk zM.out]
      have yM_6 : ∀ W, Ext w12 W → W.cell? ⟨g2, 6, none⟩ = some (.bool B5) := fun W e => by simp [World.cell?, e.blk zM.out]
      have yM_7 : ∀ W, Ext w12 W → W.cell? ⟨g2, 7, none⟩ = some (.slice B6 B7 B8) := fun W e => by simp [World.cell?, e.blk zM.out]
      have yM_8 : ∀ W, Ext w12 W → W.cell? ⟨g2, 8, none⟩ = some (.bool C1) := fun W e => by simp [World.cell?, e.blk zM.out]
      have yM_9 : ∀ W, Ext w12 W → W.cell? ⟨g2, 9, none⟩ = some (.slice C2 C3 C4) := fun W e => by simp [World.cell?, e.blk zM.out]
      have yM_10 : ∀ W, Ext w12 W → W.cell? ⟨g2, 10, none⟩ = some (.bool C5) := fun W e => by simp [World.cell?, e.blk zM.out]
      have yM_11 : ∀ W, Ext w12 W → W.cell? ⟨g2, 11, none⟩ = some (.slice C6 C7 C8) := fun W e => by simp [World.cell?, e.blk zM.out]
      have yM_12 : ∀ W, Ext w12 W → W.cell? ⟨g2, 12, none⟩ = some (.bool D1) := fun W e => by simp [World.cell?, e.blk zM.out]
      have yM_13 : ∀ W, Ext w12 W → W.cell? ⟨g2, 13, none⟩ = some (.slice D2 D3 D4) := fun W e => by simp [World.cell?, e.blk zM.out]
      have yM_14 : ∀ W, Ext w12 W → W.cell? ⟨g2, 14, none⟩ = some (.bool D5) := fun W e => by simp [World.cell?, e.blk zM.out]
      have yM_15 : ∀ W, Ext w12 W → W.cell? ⟨g2, 15, none⟩ = some (.slice D6 D7 D8) := fun W e => by simp [World.cell?, e.blk zM.out]
      have yR_0 : ∀ W, Ext w12 W → W.cell? ⟨g2 + 1, 0, none⟩ = some (.bool Y1) := fun W e => by simp [World.cell?, e.blk zR.out]
      have yR_1 : ∀ W, Ext w12 W → W.cell? ⟨g2 + 1, 1, none⟩ = some (.slice Y2 Y3 Y4) := fun W e => by simp [World.cell?, e.blk zR.out]
      have yR_2 : ∀ W, Ext w12 W → W.cell? ⟨g2 + 1, 2, none⟩ = some (.bool Y5) := fun W e => by simp [World.cell?, e.blk zR.out]
      have yR_3 : ∀ W, Ext w12 W → W.cell? ⟨g2 + 1, 3, none⟩ = some (.slice Y6 Y7 Y8) := fun W e => by simp [World.cell?, e.blk zR.out]
      have yR_4 : ∀ W, Ext w12 W → W.cell? ⟨g2 + 1, 4, none⟩ = some (.bool U1) := fun W e => by simp [World.cell?, e.blk zR.out]
      have yR_5 : ∀ W, Ext w12 W → W.cell? ⟨g2 + 1, 5, none⟩ = some (.slice U2 U3 U4) := fun W e => by simp [World.cell?, e.blk zR.out]
      have yR_6 : ∀ W, Ext w12 W → W.cell? ⟨g2 + 1, 6, none⟩ = some (.bool U5) := fun W e => by simp [World.cell?, e.blk zR.out]
      have yR_7 : ∀ W, Ext w12 W → W.cell? ⟨g2 + 1, 7, none⟩ = some (.slice U6 U7 U8) := fun W e => by simp [World.cell?, e.blk zR.out]
      apply region_ext [.val _, .val _, .val _, .val _, .pred (fun W v => FracR W v ay), .val _, .val _, .val _, .val _, .pred (fun W v => FracR W v bu), .pred (fun W v => FracR W v P), .pred (VarAt w12.heap.size #[.bool false, .slice none 0 0, .bool false, .slice none 0 0] 26)] (by kernel_rfl) (stable_vals _ (stable_vals _ (stable_vals _ (stable_vals _ (st_fracR _ (stable_vals _ (stable_vals _ (stable_vals _ (stable_vals _ (st_fracR _ (st_fracR _ (st_varT _ _ _ trivial))))))))))))
      iterate 4 (refine ⟨fun W hW _ => by go_simp; exact ⟨Ext.refl _, rfl⟩, ?_⟩)
      refine ⟨fun W hW _ => ?a4, fun x4 => ?_⟩
      case a4 =>
        go_simp
        refine (kay.out W (fA.out.ext hW) (fY.out.ext hW)).mono ?_
        rintro e w' ⟨v, rfl, e1, e2⟩
        exact ⟨v, rfl, e1, e2.r⟩
      iterate 4 (refine ⟨fun W hW _ => by go_simp; exact ⟨Ext.refl _, rfl⟩, ?_⟩)
      refine ⟨fun W hW _ => ?a9, fun x9 => ⟨fun W hW hF => ?a10, fun x10 => ⟨fun W hW _ => ?a11, fun x11 => fun W hW hF => ?fin⟩⟩⟩
      case a9 =>
        go_simp
        refine (kbu.out W (fB.out.ext hW) (fU.out.ext hW)).mono ?_
        rintro e w' ⟨v, rfl, e1, e2⟩
        exact ⟨v, rfl, e1, e2.r⟩
      case a10 =>
        have d9 : FracR W x9 bu := hF.1 (by kernel_rfl)
        have d4 : FracR W x4 ay := hF.2.1 (by kernel_rfl)
        replace d9 := mkHid d9
        replace d4 := mkHid d4
        clear hF
        go_simp
        refine (kp1.out _ _ W d4.out d9.out).mono ?_
        rintro e w' ⟨v, rfl, e1, e2⟩
        exact ⟨v, rfl, e1, e2.r⟩
      case a11 =>
        have hnv := new_var (b := w12.heap.size) (cs := #[.bool false, .slice none 0 0, .bool false, .slice none 0 0]) (T := 26) W hW.size
        replace hnv := mkHid hnv
        go_simp
        exact ⟨hnv.out.1, hnv.out.2.1⟩
      case fin =>
        obtain ⟨f11, f10, -⟩ := hF
        obtain ⟨gp1, rfl, hgb, hgd⟩ := f11 rfl
        have hP : FracR W x10 P := f10 rfl
        obtain ⟨V1, V2, V3, V4, V5, V6, V7, V8, rfl⟩ := hP.shape
        clear f11 f10
        clear yM_0 yM_1 yM_2 yM_3 yM_4 yM_5 yM_6 yM_7 yM_8 yM_9 yM_10 yM_11 yM_12 yM_13 yM_14 yM_15 yR_0 yR_1 yR_2 yR_3 yR_4 yR_5 yR_6 yR_7
        obtain ⟨w13, hw13⟩ : ∃ w13, w13 = W.setRow gp1 #[.bool V1, .slice V2 V3 V4, .bool V5, .slice V6 V7 V8] := ⟨_, rfl⟩
        have ltw13 := hE.out.size
        have xE : Ext w w13 := by rw [hw13]; exact (hE.out.trans hW).row (by omega) _
        have fl : ∀ v q, FracR W v q → FracR w13 v q := fun v q h => by rw [hw13]; exact h.flat hgd (by simp [flatV]) _
        have bl : ∀ g o, w12.heap[g]? = some o → w13.heap[g]? = some o := fun g o h => by
          have := (Array.getElem?_eq_some_iff.1 h).1
          rw [hw13, setRow_other _ _ _ _ (by omega)]
          exact hW.blk h
        have zV : w13.heap[gp1]? = some (.cells #[.bool V1, .slice V2 V3 V4, .bool V5, .slice V6 V7 V8] 26 (0, 0)) := by rw [hw13]; exact setRow_heap _ _ _ _ _ _ hgd
        replace hgd := mkHid hgd
        replace fA := mkHid (fl _ _ (fA.out.ext hW))
        replace fB := mkHid (fl _ _ (fB.out.ext hW))
        replace fC := mkHid (fl _ _ (fC.out.ext hW))
        replace fD := mkHid (fl _ _ (fD.out.ext hW))
        replace fY := mkHid (fl _ _ (fY.out.ext hW))
        replace fU := mkHid (fl _ _ (fU.out.ext hW))
        replace hE := mkHid xE
        replace zM := mkHid (bl _ _ zM.out)
        replace zR := mkHid (bl _ _ zR.out)
        replace hP := mkHid (fl _ _ hP)
        replace zV := mkHid zV
        replace hw13 := mkHid hw13
        clear xE fl bl hW ltw13
        go_simp
        go_wp2_with (refine wpList_store_row rfl 26 (.tmp 7) (.tmp 46) rfl gp1 #[.bool V1, .slice V2 V3 V4, .bool V5, .slice V6 V7 V8] rfl rfl 26 _ hgd.out (by kernel_rfl) rfl (by kernel_rfl) ?_; rw [← hw13.out])
        clear hw13 hgd
        clear fA fB
        clear kay kbu kp1
        have yM_0 : ∀ W, Ext w13 W → W.cell? ⟨g2, 0, none⟩ = some (.bool A1) := fun W e => by simp [World.cell?, e.blk zM.out]
        have yM_1 : ∀ W, Ext w13 W → W.cell? ⟨g2, 1, none⟩ = some (.slice A2 A3 A4) := fun W e => by simp [World.cell?, e.blk zM.out]
        have yM_2 : ∀ W, Ext w13 W → W.cell? ⟨g2, 2, none⟩ = some (.bool A5) := fun W e => by simp [World.cell?, e.blk zM.out]
        have yM_3 : ∀ W, Ext w13 W → W.cell? ⟨g2, 3, none⟩ = some (.slice A6 A7 A8) := fun W e => by simp [World.cell?, e.blk zM.out]
        have yM_4 : ∀ W, Ext w13 W → W.cell? ⟨g2, 4, none⟩ = some (.bool B1) := fun W e => by simp [World.cell?, e.blk zM.out]
        have yM_5 : ∀ W, Ext w13 W → W.cell? ⟨g2, 5, none⟩ = some (.slice B2 B3 B4) := fun W e => by simp [World.cell?, e.blk zM.out]
        have yM_6 : ∀ W, Ext w13 W → W.cell? ⟨g2, 6, none⟩ = some (.bool B5) := fun W e => by simp [World.cell?, e.blk zM.out]
        have yM_7 : ∀ W, Ext w13 W → W.cell? ⟨g2, 7, none⟩ = some (.slice B6 B7 B8) := fun W e => by simp [World.cell?, e.blk zM.out]
        have yM_8 : ∀ W, Ext w13 W → W.cell? ⟨g2, 8, none⟩ = some (.bool C1) := fun W e => by simp [World.cell?, e.blk zM.out]
        have yM_9 : ∀ W, Ext w13 W → W.cell? ⟨g2, 9, none⟩ = some (.slice C2 C3 C4) := fun W e => by simp [World.cell?, e.blk zM.out]
        have yM_10 : ∀ W, Ext w13 W → W.cell? ⟨g2, 10, none⟩ = some (.bool C5) := fun W e => by simp [World.cell?, e.blk zM.out]
        have yM_11 : ∀ W, Ext w13 W → W.cell? ⟨g2, 11, none⟩ = some (.slice C6 C7 C8) := fun W e => by simp [World.cell?, e.blk zM.out]
        have yM_12 : ∀ W, Ext w13 W → W.cell? ⟨g2, 12, none⟩ = some (.bool D1) := fun W e => by simp [World.cell?, e.blk zM.out]
        have yM_13 : ∀ W, Ext w13 W → W.cell? ⟨g2, 13, none⟩ = some (.slice D2 D3 D4) := fun W e => by simp [World.cell?, e.blk zM.out]
        have yM_14 : ∀ W, Ext w13 W → W.cell? ⟨g2, 14, none⟩ = some (.bool D5) := fun W e => by simp [World.cell?, e.blk zM.out]
        have yM_15 : ∀ W, Ext w13 W → W.cell? ⟨g2, 15, none⟩ = some (.slice D6 D7 D8) := fun W e => by simp [World.cell?, e.blk zM.out]
        have yR_0 : ∀ W, Ext w13 W → W.cell? ⟨g2 + 1, 0, none⟩ = some (.bool Y1) := fun W e => by simp [World.cell?, e.blk zR.out]
        have yR_1 : ∀ W, Ext w13 W → W.cell? ⟨g2 + 1, 1, none⟩ = some (.slice Y2 Y3 Y4) := fun W e => by simp [World.cell?, e.blk zR.out]
        have yR_2 : ∀ W, Ext w13 W → W.cell? ⟨g2 + 1, 2, none⟩ = some (.bool Y5) := fun W e => by simp [World.cell?, e.blk zR.out]
        have yR_3 : ∀ W, Ext w13 W → W.cell? ⟨g2 + 1, 3, none⟩ = some (.slice Y6 Y7 Y8) := fun W e => by simp [World.cell?, e.blk zR.out]
        have yR_4 : ∀ W, Ext w13 W → W.cell? ⟨g2 + 1, 4, none⟩ = some (.bool U1) := fun W e => by simp [World.cell?, e.blk zR.out]
        have yR_5 : ∀ W, Ext w13 W → W.cell? ⟨g2 + 1, 5, none⟩ = some (.slice U2 U3 U4) := fun W e => by simp [World.cell?, e.blk zR.out]
        have yR_6 : ∀ W, Ext w13 W → W.cell? ⟨g2 + 1, 6, none⟩ = some (.bool U5) := fun W e => by simp [World.cell?, e.blk zR.out]
        have yR_7 : ∀ W, Ext w13 W → W.cell? ⟨g2 + 1, 7, none⟩ = some (.slice U6 U7 U8) := fun W e => by simp [World.cell?, e.blk zR.out]
        apply region_ext [.val _, .val _, .val _, .val _, .pred (fun W v => FracR W v cy), .val _, .val _, .val _, .val _, .pred (fun W v => FracR W v du), .pred (fun W v => FracR W v Q), .pred (VarAt w13.heap.size #[.bool false, .slice none 0 0, .bool false, .slice none 0 0] 26)] (by kernel_rfl) (stable_vals _ (stable_vals _ (stable_vals _ (stable_vals _ (st_fracR _ (stable_vals _ (stable_vals _ (stable_vals _ (stable_vals _ (st_fracR _ (st_fracR _ (st_varT _ _ _ trivial))))))))))))
        iterate 4 (refine ⟨fun W hW _ => by go_simp; exact ⟨Ext.refl _, rfl⟩, ?_⟩)
        refine ⟨fun W hW _ => ?a4, fun x4 => ?_⟩
        case a4 =>
          go_simp
          refine (kcy.out W (fC.out.ext hW) (fY.out.ext hW)).mono ?_
          rintro e w' ⟨v, rfl, e1, e2⟩
          exact ⟨v, rfl, e1, e2.r⟩
        iterate 4 (refine ⟨fun W hW _ => by go_simp; exact ⟨Ext.refl _, rfl⟩, ?_⟩)
        refine ⟨fun W hW _ => ?a9, fun x9 => ⟨fun W hW hF => ?a10, fun x10 => ⟨fun W hW _ => ?a11, fun x11 => fun W hW hF => ?fin⟩⟩⟩
        case a9 =>
          go_simp
          refine (kdu.out W (fD.out.ext hW) (fU.out.ext hW)).mono ?_
          rintro e w' ⟨v, rfl, e1, e2⟩
          exact ⟨v, rfl, e1, e2.r⟩
        case a10 =>
          have d9 : FracR W x9 du := hF.1 (by kernel_rfl)
          have d4 : FracR W x4 cy := hF.2.1 (by kernel_rfl)
          replace d9 := mkHid d9
          replace d4 := mkHid d4
          clear hF
          go_simp
          refine (kp2.out _ _ W d4.out d9.out).mono ?_
          rintro e w' ⟨v, rfl, e1, e2⟩
          exact ⟨v, rfl, e1, e2.r⟩
        case a11 =>
          have hnv := new_var (b := w13.heap.size) (cs := #[.bool false, .slice none 0 0, .bool false, .slice none 0 0]) (T := 26) W hW.size
          replace hnv := mkHid hnv
          go_simp
          exact ⟨hnv.out.1, hnv.out.2.1⟩
        case fin =>
          obtain ⟨f11, f10, -⟩ := hF
          obtain ⟨gp2, rfl, hgb, hgd⟩ := f11 rfl
          have hQ : FracR W x10 Q := f10 rfl
          obtain ⟨N1, N2, N3, N4, N5, N6, N7, N8, rfl⟩ := hQ.shape
          clear f11 f10
          clear yM_0 yM_1 yM_2 yM_3 yM_4 yM_5 yM_6 yM_7 yM_8 yM_9 yM_10 yM_11 yM_12 yM_13 yM_14 yM_15 yR_0 yR_1 yR_2 yR_3 yR_4 yR_5 yR_6 yR_7
          obtain ⟨w14, hw14⟩ : ∃ w14, w14 = W.setRow gp2 #[.bool N1, .slice N2 N3 N4, .bool N5, .slice N6 N7 N8] := ⟨_, rfl⟩
          have ltw14 := hE.out.size
          have xE : Ext w w14 := by rw [hw14]; exact (hE.out.trans hW).row (by omega) _
          have fl : ∀ v q, FracR W v q → FracR w14 v q := fun v q h => by rw [hw14]; exact h.flat hgd (by simp [flatV]) _
          have bl : ∀ g o, w13.heap[g]? = some o → w14.heap[g]? = some o := fun g o h => by
            have := (Array.getElem?_eq_some_iff.1 h).1
            rw [hw14, setRow_other _ _ _ _ (by omega)]
            exact hW.blk h
          have zN : w14.heap[gp2]? = some (.cells #[.bool N1, .slice N2 N3 N4, .bool N5, .slice N6 N7 N8] 26 (0, 0)) := by rw [hw14]; exact setRow_heap _ _ _ _ _ _ hgd
          replace hgd := mkHid hgd
          replace fC := mkHid (fl _ _ (fC.out.ext hW))
          replace fD := mkHid (fl _ _ (fD.out.ext hW))
          replace fY := mkHid (fl _ _ (fY.out.ext hW))
          replace fU := mkHid (fl _ _ (fU.out.ext hW))
          replace hE := mkHid xE
          replace zM := mkHid (bl _ _ zM.out)
          replace zR := mkHid (bl _ _ zR.out)
          replace hP := mkHid (fl _ _ (hP.out.ext hW))
          replace zV := mkHid (bl _ _ zV.out)
          replace hQ := mkHid (fl _ _ hQ)
          replace zN := mkHid zN
          replace hw14 := mkHid hw14
          clear xE fl bl hW ltw14
          have yV_0 : w14.cell? ⟨gp1, 0, none⟩ = some (.bool V1) := by simp [World.cell?, zV.out]
          have yV_1 : w14.cell? ⟨gp1, 1, none⟩ = some (.slice V2 V3 V4) := by simp [World.cell?, zV.out]
          have yV_2 : w14.cell? ⟨gp1, 2, none⟩ = some (.bool V5) := by simp [World.cell?, zV.out]
          have yV_3 : w14.cell? ⟨gp1, 3, none⟩ = some (.slice V6 V7 V8) := by simp [World.cell?, zV.out]
          have yR_0 : w14.cell? ⟨g2 + 1, 0, none⟩ = some (.bool Y1) := by simp [World.cell?, zR.out]
          have yR_1 : w14.cell? ⟨g2 + 1, 1, none⟩ = some (.slice Y2 Y3 Y4) := by simp [World.cell?, zR.out]
          have yR_2 : w14.cell? ⟨g2 + 1, 2, none⟩ = some (.bool Y5) := by simp [World.cell?, zR.out]
          have yR_3 : w14.cell? ⟨g2 + 1, 3, none⟩ = some (.slice Y6 Y7 Y8) := by simp [World.cell?, zR.out]
          have yR_4 : w14.cell? ⟨g2 + 1, 4, none⟩ = some (.bool U1) := by simp [World.cell?, zR.out]
          have yR_5 : w14.cell? ⟨g2 + 1, 5, none⟩ = some (.slice U2 U3 U4) := by simp [World.cell?, zR.out]
          have yR_6 : w14.cell? ⟨g2 + 1, 6, none⟩ = some (.bool U5) := by simp [World.cell?, zR.out]
          have yR_7 : w14.cell? ⟨g2 + 1, 7, none⟩ = some (.slice U6 U7 U8) := by simp [World.cell?, zR.out]
          go_simp
          go_wp2_with (refine wpList_store_row rfl 26 (.tmp 8) (.tmp 57) rfl gp2 #[.bool N1, .slice N2 N3 N4, .bool N5, .slice N6 N7 N8] rfl rfl 26 _ hgd.out (by kernel_rfl) rfl (by kernel_rfl) ?_; rw [← hw14.out])
          clear hw14 hgd
          refine (kq1.out _ _ hP.out fY.out).mono ?_
          rintro e w15 ⟨rfl, hx⟩
          clear yV_0 yV_1 yV_2 yV_3 yR_0 yR_1 yR_2 yR_3 yR_4 yR_5 yR_6 yR_7
          replace fC := mkHid (fC.out.ext hx)
          replace fD := mkHid (fD.out.ext hx)
          replace fY := mkHid (fY.out.ext hx)
          replace fU := mkHid (fU.out.ext hx)
          replace hE := mkHid (hE.out.trans hx)
          replace zM := mkHid (hx.blk zM.out)
          replace zR := mkHid (hx.blk zR.out)
          replace hP := mkHid (hP.out.ext hx)
          replace zV := mkHid (hx.blk zV.out)
          replace hQ := mkHid (hQ.out.ext hx)
          replace zN := mkHid (hx.blk zN.out)
          clear hx
          clear fC fD zM
          clear kcy kdu kp2 kq1
          by_cases u3 : S3 = 0
          · have p3 : P = y := i3.out.1 u3
            subst u3
            replace p3 := mkHid p3
            have yN_0 : w15.cell? ⟨gp2, 0, none⟩ = some (.bool N1) := by simp [World.cell?, zN.out]
            have yN_1 : w15.cell? ⟨gp2, 1, none⟩ = some (.slice N2 N3 N4) := by simp [World.cell?, zN.out]
            have yN_2 : w15.cell? ⟨gp2, 2, none⟩ = some (.bool N5) := by simp [World.cell?, zN.out]
            have yN_3 : w15.cell? ⟨gp2, 3, none⟩ = some (.slice N6 N7 N8) := by simp [World.cell?, zN.out]
            have yR_0 : w15.cell? ⟨g2 + 1, 0, none⟩ = some (.bool Y1) := by simp [World.cell?, zR.out]
            have yR_1 : w15.cell? ⟨g2 + 1, 1, none⟩ = some (.slice Y2 Y3 Y4) := by simp [World.cell?, zR.out]
            have yR_2 : w15.cell? ⟨g2 + 1, 2, none⟩ = some (.bool Y5) := by simp [World.cell?, zR.out]
            have yR_3 : w15.cell? ⟨g2 + 1, 3, none⟩ = some (.slice Y6 Y7 Y8) := by simp [World.cell?, zR.out]
            have yR_4 : w15.cell? ⟨g2 + 1, 4, none⟩ = some (.bool U1) := by simp [World.cell?, zR.out]
            have yR_5 : w15.cell? ⟨g2 + 1, 5, none⟩ = some (.slice U2 U3 U4) := by simp [World.cell?, zR.out]
            have yR_6 : w15.cell? ⟨g2 + 1, 6, none⟩ = some (.bool U5) := by simp [World.cell?, zR.out]
            have yR_7 : w15.cell? ⟨g2 + 1, 7, none⟩ = some (.slice U6 U7 U8) := by simp [World.cell?, zR.out]
            go_wp2_with fail
            refine (kq2.out _ _ hQ.out fU.out).mono ?_
            rintro e w16 ⟨rfl, hx⟩
            clear yN_0 yN_1 yN_2 yN_3 yR_0 yR_1 yR_2 yR_3 yR_4 yR_5 yR_6 yR_7
            replace fY := mkHid (fY.out.ext hx)
            replace fU := mkHid (fU.out.ext hx)
            replace hE := mkHid (hE.out.trans hx)
            replace zR := mkHid (hx.blk zR.out)
            replace hP := mkHid (hP.out.ext hx)
            replace zV := mkHid (hx.blk zV.out)
            replace hQ := mkHid (hQ.out.ext hx)
            replace zN := mkHid (hx.blk zN.out)
            clear hx
            by_cases u4 : S4 = 0
            · have p4 : Q = u := i4.out.1 u4
              subst u4
              replace p4 := mkHid p4
              obtain rfl : R = 1 := by rw [hR.out]; rw [if_pos ⟨p3.out, p4.out⟩]
              go_wp2_with fail
              go_ret2
              exact ⟨rfl, hE.out⟩
            · have hb4 : (S4 == 0) = false := by rw [beq_eq_false_iff_ne]; exact u4
              replace u4 := mkHid u4
              replace hR : Hid (R = if P = my ∧ Q = mu then 2 else 0) := mkHid (by rw [hR.out, if_neg (fun h => u4.out (i4.out.2 h.2))])
              go_wp2_with fail
              have yV_0 : ∀ W, Ext w16 W → W.cell? ⟨gp1, 0, none⟩ = some (.bool V1) := fun W e => by simp [World.cell?, e.blk zV.out]
              have yV_1 : ∀ W, Ext w16 W → W.cell? ⟨gp1, 1, none⟩ = some (.slice V2 V3 V4) := fun W e => by simp [World.cell?, e.blk zV.out]
              have yV_2 : ∀ W, Ext w16 W → W.cell? ⟨gp1, 2, none⟩ = some (.bool V5) := fun W e => by simp [World.cell?, e.blk zV.out]
              have yV_3 : ∀ W, Ext w16 W → W.cell? ⟨gp1, 3, none⟩ = some (.slice V6 V7 V8) := fun W e => by simp [World.cell?, e.blk zV.out]
              have yN_0 : ∀ W, Ext w16 W → W.cell? ⟨gp2, 0, none⟩ = some (.bool N1) := fun W e => by simp [World.cell?, e.blk zN.out]
              have yN_1 : ∀ W, Ext w16 W → W.cell? ⟨gp2, 1, none⟩ = some (.slice N2 N3 N4) := fun W e => by simp [World.cell?, e.blk zN.out]
              have yN_2 : ∀ W, Ext w16 W → W.cell? ⟨gp2, 2, none⟩ = some (.bool N5) := fun W e => by simp [World.cell?, e.blk zN.out]
              have yN_3 : ∀ W, Ext w16 W → W.cell? ⟨gp2, 3, none⟩ = some (.slice N6 N7 N8) := fun W e => by simp [World.cell?, e.blk zN.out]
              have yR_0 : ∀ W, Ext w16 W → W.cell? ⟨g2 + 1, 0, none⟩ = some (.bool Y1) := fun W e => by simp [World.cell?, e.blk zR.out]
              have yR_1 : ∀ W, Ext w16 W → W.cell? ⟨g2 + 1, 1, none⟩ = some (.slice Y2 Y3 Y4) := fun W e => by simp [World.cell?, e.blk zR.out]
              have yR_2 : ∀ W, Ext w16 W → W.cell? ⟨g2 + 1, 2, none⟩ = some (.bool Y5) := fun W e => by simp [World.cell?, e.blk zR.out]
              have yR_3 : ∀ W, Ext w16 W → W.cell? ⟨g2 + 1, 3, none⟩ = some (.slice Y6 Y7 Y8) := fun W e => by simp [World.cell?, e.blk zR.out]
              have yR_4 : ∀ W, Ext w16 W → W.cell? ⟨g2 + 1, 4, none⟩ = some (.bool U1) := fun W e => by simp [World.cell?, e.blk zR.out]
              have yR_5 : ∀ W, Ext w16 W → W.cell? ⟨g2 + 1, 5, none⟩ = some (.slice U2 U3 U4) := fun W e => by simp [World.cell?, e.blk zR.out]
              have yR_6 : ∀ W, Ext w16 W → W.cell? ⟨g2 + 1, 6, none⟩ = some (.bool U5) := fun W e => by simp [World.cell?, e.blk zR.out]
              have yR_7 : ∀ W, Ext w16 W → W.cell? ⟨g2 + 1, 7, none⟩ = some (.slice U6 U7 U8) := fun W e => by simp [World.cell?, e.blk zR.out]
              by_cases u5 : S5 = 0
              · have p5 : P = my := i5.out.1 u5
                subst u5
                by_cases u6 : S6 = 0
                · have p6 : Q = mu := i6.out.1 u6
                  subst u6
                  have hR2 := mkHid (show R = 2 by rw [hR.out, if_pos ⟨p5, p6⟩])
                  clear p5 p6 i5 i6
                  apply region_ext [.val _, .val _, .val _, .pred (fun W v => FracR W v my), .val _, .val _, .val _, .val _, .val _, .val _, .pred (fun W v => FracR W v mu), .val _, .val _, .val _] (by kernel_rfl) (stable_vals _ (stable_vals _ (stable_vals _ (st_fracR _ (stable_vals _ (stable_vals _ (stable_vals _ (stable_vals _ (stable_vals _ (stable_vals _ (st_fracR _ (stable_vals _ (stable_vals _ (stable_vals _ trivial))))))))))))))
                  iterate 3 (refine ⟨fun W hW _ => by go_simp; first | exact ⟨Ext.refl _, rfl⟩ | rfl, ?_⟩)
                  refine ⟨fun W hW _ => ?a3, fun x3 => ⟨fun W hW hF => ?a4, ?_⟩⟩
                  case a3 =>
                    go_simp
                    refine (kt1.out W (fY.out.ext hW)).mono ?_
                    rintro e w' ⟨v, rfl, e1, e2⟩
                    exact ⟨v, rfl, e1, e2.r⟩
                  case a4 =>
                    have dd : FracR W x3 my := hF.1 (by kernel_rfl)
                    replace dd := mkHid dd
                    clear hF
                    go_simp
                    refine (kq3.out _ _ W (hP.out.ext hW) dd.out).mono ?_
                    rintro e w' ⟨rfl, e1⟩
                    exact ⟨rfl, e1⟩
                  iterate 5 (refine ⟨fun W hW _ => by go_simp; first | exact ⟨Ext.refl _, rfl⟩ | rfl, ?_⟩)
                  refine ⟨fun W hW _ => ?a10, fun x10 => ⟨fun W hW hF => ?a11, ?_⟩⟩
                  case a10 =>
                    go_simp
                    refine (kt2.out W (fU.out.ext hW)).mono ?_
                    rintro e w' ⟨v, rfl, e1, e2⟩
                    exact ⟨v, rfl, e1, e2.r⟩
                  case a11 =>
                    have dd : FracR W x10 mu := hF.1 (by kernel_rfl)
                    replace dd := mkHid dd
                    clear hF
                    go_simp
                    refine (kq4.out _ _ W (hQ.out.ext hW) dd.out).mono ?_
                    rintro e w' ⟨rfl, e1⟩
                    exact ⟨rfl, e1⟩
                  iterate 2 (refine ⟨fun W hW _ => by go_simp; first | exact ⟨Ext.refl _, rfl⟩ | rfl, ?_⟩)
                  intro W hW _
                  clear yV_0 yV_1 yV_2 yV_3 yN_0 yN_1 yN_2 yN_3 yR_0 yR_1 yR_2 yR_3 yR_4 yR_5 yR_6 yR_7
                  replace hE := mkHid (hE.out.trans hW)
                  clear hW
                  go_simp
                  obtain rfl := hR2.out
                  go_wp2_with fail
                  go_ret2
                  exact ⟨rfl, hE.out⟩
                · have hR2 := mkHid (show R = 0 by rw [hR.out, if_neg (fun h => u6 (i6.out.2 h.2))])
                  have hb : (S6 == 0) = false := by rw [beq_eq_false_iff_ne]; exact u6
                  clear u6 p5 i5 i6
                  apply region_ext [.val _, .val _, .val _, .pred (fun W v => FracR W v my), .val _, .val _, .val _, .val _, .val _, .val _, .pred (fun W v => FracR W v mu), .val _, .val _, .val _] (by kernel_rfl) (stable_vals _ (stable_vals _ (stable_vals _ (st_fracR _ (stable_vals _ (stable_vals _ (stable_vals _ (stable_vals _ (stable_vals _ (stable_vals _ (st_fracR _ (stable_vals _ (stable_vals _ (stable_vals _ trivial))))))))))))))
                  iterate 3 (refine ⟨fun W hW _ => by go_simp; first | exact ⟨Ext.refl _, rfl⟩ | rfl, ?_⟩)
                  refine ⟨fun W hW _ => ?a3, fun x3 => ⟨fun W hW hF => ?a4, ?_⟩⟩
                  case a3 =>
                    go_simp
                    refine (kt1.out W (fY.out.ext hW)).mono ?_
                    rintro e w' ⟨v, rfl, e1, e2⟩
                    exact ⟨v, rfl, e1, e2.r⟩
                  case a4 =>
                    have dd : FracR W x3 my := hF.1 (by kernel_rfl)
                    replace dd := mkHid dd
                    clear hF
                    go_simp
                    refine (kq3.out _ _ W (hP.out.ext hW) dd.out).mono ?_
                    rintro e w' ⟨rfl, e1⟩
                    exact ⟨rfl, e1⟩
                  iterate 5 (refine ⟨fun W hW _ => by go_simp; first | exact ⟨Ext.refl _, rfl⟩ | rfl, ?_⟩)
                  refine ⟨fun W hW _ => ?a10, fun x10 => ⟨fun W hW hF => ?a11, ?_⟩⟩
                  case a10 =>
                    go_simp
                    refine (kt2.out W (fU.out.ext hW)).mono ?_
                    rintro e w' ⟨v, rfl, e1, e2⟩
                    exact ⟨v, rfl, e1, e2.r⟩
                  case a11 =>
                    have dd : FracR W x10 mu := hF.1 (by kernel_rfl)
                    replace dd := mkHid dd
                    clear hF
                    go_simp
                    refine (kq4.out _ _ W (hQ.out.ext hW) dd.out).mono ?_
                    rintro e w' ⟨rfl, e1⟩
                    exact ⟨rfl, e1⟩
                  iterate 2 (refine ⟨fun W hW _ => by go_simp; first | exact ⟨Ext.refl _, rfl⟩ | rfl, ?_⟩)
                  intro W hW _
                  clear yV_0 yV_1 yV_2 yV_3 yN_0 yN_1 yN_2 yN_3 yR_0 yR_1 yR_2 yR_3 yR_4 yR_5 yR_6 yR_7
                  replace hE := mkHid (hE.out.trans hW)
                  clear hW
                  go_simp
                  obtain rfl := hR2.out
                  go_wp2_with fail
                  go_ret2
                  exact ⟨rfl, hE.out⟩
              · have hR2 := mkHid (show R = 0 by rw [hR.out, if_neg (fun h => u5 (i5.out.2 h.1))])
                have hb : (S5 == 0) = false := by rw [beq_eq_false_iff_ne]; exact u5
                clear u5 i5 i6
                apply region_ext [.val _, .val _, .val _, .pred (fun W v => FracR W v my), .val _, .val _, .val _, .val _, .val _, .val _, .val _, .val _, .val _, .val _] (by kernel_rfl) (stable_vals _ (stable_vals _ (stable_vals _ (st_fracR _ (stable_vals _ (stable_vals _ (stable_vals _ (stable_vals _ (stable_vals _ (stable_vals _ (stable_vals _ (stable_vals _ (stable_vals _ (stable_vals _ trivial))))))))))))))
                iterate 3 (refine ⟨fun W hW _ => by go_simp; first | exact ⟨Ext.refl _, rfl⟩ | rfl, ?_⟩)
                refine ⟨fun W hW _ => ?a3, fun x3 => ⟨fun W hW hF => ?a4, ?_⟩⟩
                case a3 =>
                  go_simp
                  refine (kt1.out W (fY.out.ext hW)).mono ?_
                  rintro e w' ⟨v, rfl, e1, e2⟩
                  exact ⟨v, rfl, e1, e2.r⟩
                case a4 =>
                  have dd : FracR W x3 my := hF.1 (by kernel_rfl)
                  replace dd := mkHid dd
                  clear hF
                  go_simp
                  refine (kq3.out _ _ W (hP.out.ext hW) dd.out).mono ?_
                  rintro e w' ⟨rfl, e1⟩
                  exact ⟨rfl, e1⟩
                iterate 9 (refine ⟨fun W hW _ => by go_simp; first | exact ⟨Ext.refl _, rfl⟩ | rfl, ?_⟩)
                intro W hW _
                clear yV_0 yV_1 yV_2 yV_3 yN_0 yN_1 yN_2 yN_3 yR_0 yR_1 yR_2 yR_3 yR_4 yR_5 yR_6 yR_7
                replace hE := mkHid (hE.out.trans hW)
                clear hW
                go_simp
                obtain rfl := hR2.out
                go_wp2_with fail
                go_ret2
                exact ⟨rfl, hE.out⟩
          · have hb3 : (S3 == 0) = false := by rw [beq_eq_false_iff_ne]; exact u3
            replace u3 := mkHid u3
            replace hR : Hid (R = if P = my ∧ Q = mu then 2 else 0) := mkHid (by rw [hR.out, if_neg (fun h => u3.out (i3.out.2 h.1))])
            go_wp2_with fail
            have yV_0 : ∀ W, Ext w15 W → W.cell? ⟨gp1, 0, none⟩ = some (.bool V1) := fun W e => by simp [World.cell?, e.blk zV.out]
            have yV_1 : ∀ W, Ext w15 W → W.cell? ⟨gp1, 1, none⟩ = some (.slice V2 V3 V4) := fun W e => by simp [World.cell?, e.blk zV.out]
            have yV_2 : ∀ W, Ext w15 W → W.cell? ⟨gp1, 2, none⟩ = some (.bool V5) := fun W e => by simp [World.cell?, e.blk zV.out]
            have yV_3 : ∀ W, Ext w15 W → W.cell? ⟨gp1, 3, none⟩ = some (.slice V6 V7 V8) := fun W e => by simp [World.cell?, e.blk zV.out]
            have yN_0 : ∀ W, Ext w15 W → W.cell? ⟨gp2, 0, none⟩ = some (.bool N1) := fun W e => by simp [World.cell?, e.blk zN.out]
            have yN_1 : ∀ W, Ext w15 W → W.cell? ⟨gp2, 1, none⟩ = some (.slice N2 N3 N4) := fun W e => by simp [World.cell?, e.blk zN.out]
            have yN_2 : ∀ W, Ext w15 W → W.cell? ⟨gp2, 2, none⟩ = some (.bool N5) := fun W e => by simp [World.cell?, e.blk zN.out]
            have yN_3 : ∀ W, Ext w15 W → W.cell? ⟨gp2, 3, none⟩ = some (.slice N6 N7 N8) := fun W e => by simp [World.cell?, e.blk zN.out]
            have yR_0 : ∀ W, Ext w15 W → W.cell? ⟨g2 + 1, 0, none⟩ = some (.bool Y1) := fun W e => by simp [World.cell?, e.blk zR.out]
            have yR_1 : ∀ W, Ext w15 W → W.cell? ⟨g2 + 1, 1, none⟩ = some (.slice Y2 Y3 Y4) := fun W e => by simp [World.cell?, e.blk zR.out]
            have yR_2 : ∀ W, Ext w15 W → W.cell? ⟨g2 + 1, 2, none⟩ = some (.bool Y5) := fun W e => by simp [World.cell?, e.blk zR.out]
            have yR_3 : ∀ W, Ext w15 W → W.cell? ⟨g2 + 1, 3, none⟩ = some (.slice Y6 Y7 Y8) := fun W e => by simp [World.cell?, e.blk zR.out]
            have yR_4 : ∀ W, Ext w15 W → W.cell? ⟨g2 + 1, 4, none⟩ = some (.bool U1) := fun W e => by simp [World.cell?, e.blk zR.out]
            have yR_5 : ∀ W, Ext w15 W → W.cell? ⟨g2 + 1, 5, none⟩ = some (.slice U2 U3 U4) := fun W e => by simp [World.cell?, e.blk zR.out]
            have yR_6 : ∀ W, Ext w15 W → W.cell? ⟨g2 + 1, 6, none⟩ = some (.bool U5) := fun W e => by simp [World.cell?, e.blk zR.out]
            have yR_7 : ∀ W, Ext w15 W → W.cell? ⟨g2 + 1, 7, none⟩ = some (.slice U6 U7 U8) := fun W e => by simp [World.cell?, e.blk zR.out]
            by_cases u5 : S5 = 0
            · have p5 : P = my := i5.out.1 u5
              subst u5
              by_cases u6 : S6 = 0
              · have p6 : Q = mu := i6.out.1 u6
                subst u6
                have hR2 := mkHid (show R = 2 by rw [hR.out, if_pos ⟨p5, p6⟩])
                clear p5 p6 i5 i6
                apply region_ext [.val _, .val _, .val _, .pred (fun W v => FracR W v my), .val _, .val _, .val _, .val _, .val _, .val _, .pred (fun W v => FracR W v mu), .val _, .val _, .val _] (by kernel_rfl) (stable_vals _ (stable_vals _ (stable_vals _ (st_fracR _ (stable_vals _ (stable_vals _ (stable_vals _ (stable_vals _ (stable_vals _ (stable_vals _ (st_fracR _ (stable_vals _ (stable_vals _ (stable_vals _ trivial))))))))))))))
                iterate 3 (refine ⟨fun W hW _ => by go_simp; first | exact ⟨Ext.refl _, rfl⟩ | rfl, ?_⟩)
                refine ⟨fun W hW _ => ?a3, fun x3 => ⟨fun W hW hF => ?a4, ?_⟩⟩
                case a3 =>
                  go_simp
                  refine (kt1.out W (fY.out.ext hW)).mono ?_
                  rintro e w' ⟨v, rfl, e1, e2⟩
                  exact ⟨v, rfl, e1, e2.r⟩
                case a4 =>
                  have dd : FracR W x3 my := hF.1 (by kernel_rfl)
                  replace dd := mkHid dd
                  clear hF
                  go_simp
                  refine (kq3.out _ _ W (hP.out.ext hW) dd.out).mono ?_
                  rintro e w' ⟨rfl, e1⟩
                  exact ⟨rfl, e1⟩
                iterate 5 (refine ⟨fun W hW _ => by go_simp; first | exact ⟨Ext.refl _, rfl⟩ | rfl, ?_⟩)
                refine ⟨fun W hW _ => ?a10, fun x10 => ⟨fun W hW hF => ?a11, ?_⟩⟩
                case a10 =>
                  go_simp
                  refine (kt2.out W (fU.out.ext hW)).mono ?_
                  rintro e w' ⟨v, rfl, e1, e2⟩
                  exact ⟨v, rfl, e1, e2.r⟩
                case a11 =>
                  have dd : FracR W x10 mu := hF.1 (by kernel_rfl)
                  replace dd := mkHid dd
                  clear hF
                  go_simp
                  refine (kq4.out _ _ W (hQ.out.ext hW) dd.out).mono ?_
                  rintro e w' ⟨rfl, e1⟩
                  exact ⟨rfl, e1⟩
                iterate 2 (refine ⟨fun W hW _ => by go_simp; first | exact ⟨Ext.refl _, rfl⟩ | rfl, ?_⟩)
                intro W hW _
                clear yV_0 yV_1 yV_2 yV_3 yN_0 yN_1 yN_2 yN_3 yR_0 yR_1 yR_2 yR_3 yR_4 yR_5 yR_6 yR_7
                replace hE := mkHid (hE.out.trans hW)
                clear hW
                go_simp
                obtain rfl := hR2.out
                go_wp2_with fail
                go_ret2
                exact ⟨rfl, hE.out⟩
              · have hR2 := mkHid (show R = 0 by rw [hR.out, if_neg (fun h => u6 (i6.out.2 h.2))])
                have hb : (S6 == 0) = false := by rw [beq_eq_false_iff_ne]; exact u6
                clear u6 p5 i5 i6
                apply region_ext [.val _, .val _, .val _, .pred (fun W v => FracR W v my), .val _, .val _, .val _, .val _, .val _, .val _, .pred (fun W v => FracR W v mu), .val _, .val _, .val _] (by kernel_rfl) (stable_vals _ (stable_vals _ (stable_vals _ (st_fracR _ (stable_vals _ (stable_vals _ (stable_vals _ (stable_vals _ (stable_vals _ (stable_vals _ (st_fracR _ (stable_vals _ (stable_vals _ (stable_vals _ trivial))))))))))))))
                iterate 3 (refine ⟨fun W hW _ => by go_simp; first | exact ⟨Ext.refl _, rfl⟩ | rfl, ?_⟩)
                refine ⟨fun W hW _ => ?a3, fun x3 => ⟨fun W hW hF => ?a4, ?_⟩⟩
                case a3 =>
                  go_simp
                  refine (kt1.out W (fY.out.ext hW)).mono ?_
                  rintro e w' ⟨v, rfl, e1, e2⟩
                  exact ⟨v, rfl, e1, e2.r⟩
                case a4 =>
                  have dd : FracR W x3 my := hF.1 (by kernel_rfl)
                  replace dd := mkHid dd
                  clear hF
                  go_simp
                  refine (kq3.out _ _ W (hP.out.ext hW) dd.out).mono ?_
                  rintro e w' ⟨rfl, e1⟩
                  exact ⟨rfl, e1⟩
                iterate 5 (refine ⟨fun W hW _ => by go_simp; first | exact ⟨Ext.refl _, rfl⟩ | rfl, ?_⟩)
                refine ⟨fun W hW _ => ?a10, fun x10 => ⟨fun W hW hF => ?a11, ?_⟩⟩
                case a10 =>
                  go_simp
                  refine (kt2.out W (fU.out.ext hW)).mono ?_
                  rintro e w' ⟨v, rfl, e1, e2⟩
                  exact ⟨v, rfl, e1, e2.r⟩
                case a11 =>
                  have dd : FracR W x10 mu := hF.1 (by kernel_rfl)
                  replace dd := mkHid dd
                  clear hF
                  go_simp
                  refine (kq4.out _ _ W (hQ.out.ext hW) dd.out).mono ?_
                  rintro e w' ⟨rfl, e1⟩
                  exact ⟨rfl, e1⟩
                iterate 2 (refine ⟨fun W hW _ => by go_simp; first | exact ⟨Ext.refl _, rfl⟩ | rfl, ?_⟩)
                intro W hW _
                clear yV_0 yV_1 yV_2 yV_3 yN_0 yN_1 yN_2 yN_3 yR_0 yR_1 yR_2 yR_3 yR_4 yR_5 yR_6 yR_7
                replace hE := mkHid (hE.out.trans hW)
                clear hW
                go_simp
                obtain rfl := hR2.out
                go_wp2_with fail
                go_ret2
                exact ⟨rfl, hE.out⟩
            · have hR2 := mkHid (show R = 0 by rw [hR.out, if_neg (fun h => u5 (i5.out.2 h.1))])
              have hb : (S5 == 0) = false := by rw [beq_eq_false_iff_ne]; exact u5
              clear u5 i5 i6
              apply region_ext [.val _, .val _, .val _, .pred (fun W v => FracR W v my), .val _, .val _, .val _, .val _, .val _, .val _, .val _, .val _, .val _, .val _] (by kernel_rfl) (stable_vals _ (stable_vals _ (stable_vals _ (st_fracR _ (stable_vals _ (stable_vals _ (stable_vals _ (stable_vals _ (stable_vals _ (stable_vals _ (stable_vals _ (stable_vals _ (stable_vals _ (stable_vals _ trivial))))))))))))))
              iterate 3 (refine ⟨fun W hW _ => by go_simp; first | exact ⟨Ext.refl _, rfl⟩ | rfl, ?_⟩)
              refine ⟨fun W hW _ => ?a3, fun x3 => ⟨fun W hW hF => ?a4, ?_⟩⟩
              case a3 =>
                go_simp
                refine (kt1.out W (fY.out.ext hW)).mono ?_
                rintro e w' ⟨v, rfl, e1, e2⟩
                exact ⟨v, rfl, e1, e2.r⟩
              case a4 =>
                have dd : FracR W x3 my := hF.1 (by kernel_rfl)
                replace dd := mkHid dd
                clear hF
                go_simp
                refine (kq3.out _ _ W (hP.out.ext hW) dd.out).mono ?_
                rintro e w' ⟨rfl, e1⟩
                exact ⟨rfl, e1⟩
              iterate 9 (refine ⟨fun W hW _ => by go_simp; first | exact ⟨Ext.refl _, rfl⟩ | rfl, ?_⟩)
              intro W hW _
              clear yV_0 yV_1 yV_2 yV_3 yN_0 yN_1 yN_2 yN_3 yR_0 yR_1 yR_2 yR_3 yR_4 yR_5 yR_6 yR_7
              replace hE := mkHid (hE.out.trans hW)
              clear hW
              go_simp
              obtain rfl := hR2.out
              go_wp2_with fail
              go_ret2
              exact ⟨rfl, hE.out⟩
end Go.Proofs.YtpmfohhpaoagfaaGreat
