/-
  PeriodNames, walked: printed by tools/gen_names.py.
-/
import Derived.Test.YtpmfohhpaoagfaaMQ
import Derived.Test.YtpmfohhpaoagfaaMM
import Derived.Test.YtpmfohhpaoagfaaMS
namespace Go.Proofs.Ytpmfohhpaoagfaa
open Go Go.RowKit Go.Proofs
theorem cheb_val (n : Nat) (q U V : Rat) (hn : n ≤ 4096) (hU : chebU n q = U) (hV : chebT n q = V) (nU : nf U ≤ 2048) (nV : nf V ≤ 2048) (w : World) (v : Value) (h : AnyF w v (some q)) :
    Calls Try.prog 11 #[.int .i64 (n : Nat), v] w fun e w' => ∃ u t, e = .returned (.tuple #[u, t, .int .i64 0]) ∧ Ext w w' ∧ AnyF w' u (some U) ∧ AnyF w' t (some V) := by
  have h2 := cheb_fine n q v w h hn
  unfold chebE chebOU chebOT at h2
  rw [hU, hV, if_pos ⟨nU, nV⟩, if_pos ⟨nU, nV⟩, if_pos ⟨nU, nV⟩] at h2
  exact h2
theorem power_val (n : Nat) (a b c d A B C D : Rat) (hn : n ≤ 4096) (hk : okM (some a) (some b) (some c) (some d) = true) (hA : pwA n a d = A) (hB : pwX n a d b = B) (hC : pwX n a d c = C) (hD : pwA n d a = D) (hf : fine4 A B C D = true) (w : World) (v : Value) (h : AnyM w v (some a) (some b) (some c) (some d)) :
    Calls Try.prog 16 #[v, .int .i64 (n : Nat)] w fun e w' => ∃ p, e = .returned (.tuple #[p, .int .i64 0]) ∧ Ext w w' ∧ AnyM w' p (some A) (some B) (some C) (some D) := by
  have h2 := power_fine n v a b c d w h hk hn
  unfold powE powOA powOB powOC powOD fineE fineO at h2
  rw [hA, hB, hC, hD, hf] at h2
  exact h2
theorem order_val (a b c d : Rat) (k e : Int) (hk : ordO (some a) (some b) (some c) (some d) = k) (he : ordE (some a) (some b) (some c) (some d) = e) (w : World) (v : Value) (h : AnyM w v (some a) (some b) (some c) (some d)) :
    Calls Try.prog 18 #[v] w fun x w' => x = .returned (.tuple #[.int .i64 k, .int .i64 e]) ∧ Ext w w' := by
  have h2 := order_c v _ _ _ _ w h
  rw [hk, he] at h2
  exact h2
theorem again_val (a b c d y u : Rat) (k : Int) (hm : okM (some a) (some b) (some c) (some d) = true) (hk : agM a b c d y u = k) (w : World) (v r : Value) (h : AnyM w v (some a) (some b) (some c) (some d)) (hr : AnyY w r (some y) (some u)) :
    Calls Try.prog 19 #[v, r] w fun x w' => x = .returned (.tuple #[.int .i64 k, .int .i64 0]) ∧ Ext w w' := by
  have h2 := again_fine v r a b c d y u w h hr hm
  rw [hk] at h2
  exact h2
theorem it_ones (k : Nat) : itR (1 + 1) k (0, 1) = ((k : Rat), (k : Rat) + 1) ∧ itR (1 + 1) k (1, 1) = (1, 1) := by
  induction k with
  | zero =>
    refine ⟨?_, rfl⟩
    show ((0 : Rat), (1 : Rat)) = _
    rw [show ((0 : Nat) : Rat) = 0 from rfl, show (0 : Rat) + 1 = 1 by grind]
  | succ k ih =>
    have e : ((k + 1 : Nat) : Rat) = (k : Rat) + 1 := by push_cast; rfl
    simp only [itR, ih.1, ih.2, e]
    generalize (k : Rat) = x
    constructor
    · rw [show (1 + 1) * (x + 1) - x = x + 1 + 1 by grind]
    · rw [show ((1 : Rat) + 1) * 1 - 1 = 1 by grind]
theorem names_u : chebU 4096 1 = 4097 := by
  unfold chebU
  rw [(it_ones 4096).1]
  kernel_rfl
theorem names_t : chebT 4096 1 = 1 := by
  unfold chebT
  rw [(it_ones 4096).2]
theorem small_ok {x : Rat} (h : decide (x.num.natAbs < 4294967296) = true) (h' : decide (x.den < 4294967296) = true) : nf x ≤ 2048 := nf_small x (of_decide_eq_true h) (of_decide_eq_true h')
theorem AnyY.make {w : World} {oy ou : Option Rat} {A1 : Bool} {A2 : Option Addr} {A3 A4 : Nat} {A5 : Bool} {A6 : Option Addr} {A7 A8 : Nat} {B1 : Bool} {B2 : Option Addr} {B3 B4 : Nat} {B5 : Bool} {B6 : Option Addr} {B7 B8 : Nat} (h : AnyF w (.agg #[.bool A1, .slice A2 A3 A4, .bool A5, .slice A6 A7 A8]) oy) (h' : AnyF w (.agg #[.bool B1, .slice B2 B3 B4, .bool B5, .slice B6 B7 B8]) ou) : AnyY w (.agg #[.bool A1, .slice A2 A3 A4, .bool A5, .slice A6 A7 A8, .bool B1, .slice B2 B3 B4, .bool B5, .slice B6 B7 B8]) oy ou :=
  ⟨_, _, _, _, _, _, _, _, _, _, _, _, _, _, _, _, rfl, h, h'⟩
set_option maxRecDepth 100000 in
set_option maxHeartbeats 25600000 in
theorem names_c (w : World) : Calls Try.prog 4 #[] w fun e w' => e = .returned (.bool true) ∧ Ext w w' := by
  have kl := mkHid lives_c
  have hE := mkHid (Ext.refl w)
  go_enter Try.func4, Try.ntmps4
  go_wp2_with fail
  have kw := mkHid (fun w => whole_f 5 1 w (by omega) (by omega) (by omega) (by omega) (by omega))
  refine (kw.out _).mono ?_
  rintro e w1 ⟨v1, rfl, hx, hv⟩
  replace hE := mkHid (hE.out.trans hx)
  clear hx
  replace hv := mkHid hv
  clear kw
  go_wp2_with fail
  have kc := mkHid (fun w v h => cheb_val 0 (Rat.divInt 5 1) 1 1 (by omega) (by kernel_rfl) (by kernel_rfl) (small_ok (by kernel_rfl) (by kernel_rfl)) (small_ok (by kernel_rfl) (by kernel_rfl)) w v h)
  refine (kc.out _ _ hv.out).mono ?_
  rintro e w2 ⟨u1, t1, rfl, hx, hA, hB⟩
  clear hv
  replace hE := mkHid (hE.out.trans hx)
  clear hx
  replace hA := mkHid hA
  replace hB := mkHid hB
  clear kc
  obtain ⟨A1, A2, A3, A4, A5, A6, A7, A8, rfl⟩ := hA.out.shape
  obtain ⟨B1, B2, B3, B4, B5, B6, B7, B8, rfl⟩ := hB.out.shape
  obtain ⟨w3, hw3⟩ : ∃ w3, w3 = (w2.alloc (.cells #[.bool A1, .slice A2 A3 A4, .bool A5, .slice A6 A7 A8] 26)).alloc (.cells #[.bool B1, .slice B2 B3 B4, .bool B5, .slice B6 B7 B8] 26) := ⟨_, rfl⟩
  have hx : Ext w2 w3 := by rw [hw3]; exact (((Ext.refl w2).al _).al _)
  have zA : w3.heap[w2.heap.size]? = some (.cells #[.bool A1, .slice A2 A3 A4, .bool A5, .slice A6 A7 A8] 26 (0, 0)) := by rw [hw3]; exact (heap_alloc_old _ _ (by simp <;> omega)).trans (heap_at _ _ _ (by simp))
  have zB : w3.heap[w2.heap.size + 1]? = some (.cells #[.bool B1, .slice B2 B3 B4, .bool B5, .slice B6 B7 B8] 26 (0, 0)) := by rw [hw3]; exact heap_at _ _ _ (by simp)
  obtain ⟨g4, hg4⟩ : ∃ g4, g4 = w2.heap.size := ⟨_, rfl⟩
  rw [← hg4] at zA zB
  go_wp2_with fail
  rw [← hg4, ← hw3]
  clear hg4 hw3
  replace hE := mkHid (hE.out.trans hx)
  replace hA := mkHid (hA.out.ext hx)
  replace hB := mkHid (hB.out.ext hx)
  clear hx
  replace zA := mkHid zA
  replace zB := mkHid zB
  have kw := mkHid (fun w => whole_f 1 2 w (by omega) (by omega) (by omega) (by omega) (by omega))
  refine (kw.out _).mono ?_
  rintro e w5 ⟨v1, rfl, hx, hv⟩
  replace hE := mkHid (hE.out.trans hx)
  replace hA := mkHid (hA.out.ext hx)
  replace hB := mkHid (hB.out.ext hx)
  replace zA := mkHid (hx.blk zA.out)
  replace zB := mkHid (hx.blk zB.out)
  clear hx
  replace hv := mkHid hv
  clear kw
  go_wp2_with fail
  have kc := mkHid (fun w v h => cheb_val 4 (Rat.divInt 1 2) (-1) (-1/2) (by omega) (by kernel_rfl) (by kernel_rfl) (small_ok (by kernel_rfl) (by kernel_rfl)) (small_ok (by kernel_rfl) (by kernel_rfl)) w v h)
  refine (kc.out _ _ hv.out).mono ?_
  rintro e w6 ⟨u1, t1, rfl, hx, hC, hD⟩
  clear hv
  replace hE := mkHid (hE.out.trans hx)
  replace hA := mkHid (hA.out.ext hx)
  replace hB := mkHid (hB.out.ext hx)
  replace zA := mkHid (hx.blk zA.out)
  replace zB := mkHid (hx.blk zB.out)
  clear hx
  replace hC := mkHid hC
  replace hD := mkHid hD
  clear kc
  obtain ⟨C1, C2, C3, C4, C5, C6, C7, C8, rfl⟩ := hC.out.shape
  obtain ⟨D1, D2, D3, D4, D5, D6, D7, D8, rfl⟩ := hD.out.shape
  obtain ⟨w7, hw7⟩ : ∃ w7, w7 = (w6.alloc (.cells #[.bool C1, .slice C2 C3 C4, .bool C5, .slice C6 C7 C8] 26)).alloc (.cells #[.bool D1, .slice D2 D3 D4, .bool D5, .slice D6 D7 D8] 26) := ⟨_, rfl⟩
  have hx : Ext w6 w7 := by rw [hw7]; exact (((Ext.refl w6).al _).al _)
  have zC : w7.heap[w6.heap.size]? = some (.cells #[.bool C1, .slice C2 C3 C4, .bool C5, .slice C6 C7 C8] 26 (0, 0)) := by rw [hw7]; exact (heap_alloc_old _ _ (by simp <;> omega)).trans (heap_at _ _ _ (by simp))
  have zD : w7.heap[w6.heap.size + 1]? = some (.cells #[.bool D1, .slice D2 D3 D4, .bool D5, .slice D6 D7 D8] 26 (0, 0)) := by rw [hw7]; exact heap_at _ _ _ (by simp)
  obtain ⟨g8, hg8⟩ : ∃ g8, g8 = w6.heap.size := ⟨_, rfl⟩
  rw [← hg8] at zC zD
  go_wp2_with fail
  rw [← hg8, ← hw7]
  clear hg8 hw7
  replace hE := mkHid (hE.out.trans hx)
  replace hA := mkHid (hA.out.ext hx)
  replace hB := mkHid (hB.out.ext hx)
  replace zA := mkHid (hx.blk zA.out)
  replace zB := mkHid (hx.blk zB.out)
  replace hC := mkHid (hC.out.ext hx)
  replace hD := mkHid (hD.out.ext hx)
  clear hx
  replace zC := mkHid zC
  replace zD := mkHid zD
  have kw := mkHid (fun w => whole_f 0 1 w (by omega) (by omega) (by omega) (by omega) (by omega))
  refine (kw.out _).mono ?_
  rintro e w9 ⟨v1, rfl, hx, hv⟩
  replace hE := mkHid (hE.out.trans hx)
  replace hA := mkHid (hA.out.ext hx)
  replace hB := mkHid (hB.out.ext hx)
  replace zA := mkHid (hx.blk zA.out)
  replace zB := mkHid (hx.blk zB.out)
  replace hC := mkHid (hC.out.ext hx)
  replace hD := mkHid (hD.out.ext hx)
  replace zC := mkHid (hx.blk zC.out)
  replace zD := mkHid (hx.blk zD.out)
  clear hx
  replace hv := mkHid hv
  clear kw
  go_wp2_with fail
  have kc := mkHid (fun w v h => cheb_count (-1) (Rat.divInt 0 1) v w h (by omega))
  rw [show countE (-1) = 1 by kernel_rfl] at kc
  refine (kc.out _ _ hv.out).mono ?_
  rintro e w10 ⟨u1, t1, rfl, hx, hL, hG⟩
  clear hv
  replace hE := mkHid (hE.out.trans hx)
  replace hA := mkHid (hA.out.ext hx)
  replace hB := mkHid (hB.out.ext hx)
  replace zA := mkHid (hx.blk zA.out)
  replace zB := mkHid (hx.blk zB.out)
  replace hC := mkHid (hC.out.ext hx)
  replace hD := mkHid (hD.out.ext hx)
  replace zC := mkHid (hx.blk zC.out)
  replace zD := mkHid (hx.blk zD.out)
  clear hx
  replace hL := mkHid hL
  replace hG := mkHid hG
  clear kc
  obtain ⟨L1, L2, L3, L4, L5, L6, L7, L8, rfl⟩ := hL.out.shape
  obtain ⟨G1, G2, G3, G4, G5, G6, G7, G8, rfl⟩ := hG.out.shape
  obtain ⟨w11, hw11⟩ : ∃ w11, w11 = (w10.alloc (.cells #[.bool L1, .slice L2 L3 L4, .bool L5, .slice L6 L7 L8] 26)).alloc (.cells #[.bool G1, .slice G2 G3 G4, .bool G5, .slice G6 G7 G8] 26) := ⟨_, rfl⟩
  have hx : Ext w10 w11 := by rw [hw11]; exact (((Ext.refl w10).al _).al _)
  have zL : w11.heap[w10.heap.size]? = some (.cells #[.bool L1, .slice L2 L3 L4, .bool L5, .slice L6 L7 L8] 26 (0, 0)) := by rw [hw11]; exact (heap_alloc_old _ _ (by simp <;> omega)).trans (heap_at _ _ _ (by simp))
  have zG : w11.heap[w10.heap.size + 1]? = some (.cells #[.bool G1, .slice G2 G3 G4, .bool G5, .slice G6 G7 G8] 26 (0, 0)) := by rw [hw11]; exact heap_at _ _ _ (by simp)
  obtain ⟨g12, hg12⟩ : ∃ g12, g12 = w10.heap.size := ⟨_, rfl⟩
  rw [← hg12] at zL zG
  go_wp2_with fail
  rw [← hg12, ← hw11]
  clear hg12 hw11
  replace hE := mkHid (hE.out.trans hx)
  replace hA := mkHid (hA.out.ext hx)
  replace hB := mkHid (hB.out.ext hx)
  replace zA := mkHid (hx.blk zA.out)
  replace zB := mkHid (hx.blk zB.out)
  replace hC := mkHid (hC.out.ext hx)
  replace hD := mkHid (hD.out.ext hx)
  replace zC := mkHid (hx.blk zC.out)
  replace zD := mkHid (hx.blk zD.out)
  replace hL := mkHid (hL.out.ext hx)
  replace hG := mkHid (hG.out.ext hx)
  clear hx
  replace zL := mkHid zL
  replace zG := mkHid zG
  clear hL hG zL zG
  have kw := mkHid (fun w => whole_f 0 1 w (by omega) (by omega) (by omega) (by omega) (by omega))
  refine (kw.out _).mono ?_
  rintro e w13 ⟨v1, rfl, hx, hv⟩
  replace hE := mkHid (hE.out.trans hx)
  replace hA := mkHid (hA.out.ext hx)
  replace hB := mkHid (hB.out.ext hx)
  replace zA := mkHid (hx.blk zA.out)
  replace zB := mkHid (hx.blk zB.out)
  replace hC := mkHid (hC.out.ext hx)
  replace hD := mkHid (hD.out.ext hx)
  replace zC := mkHid (hx.blk zC.out)
  replace zD := mkHid (hx.blk zD.out)
  clear hx
  replace hv := mkHid hv
  clear kw
  go_wp2_with fail
  have kc := mkHid (fun w v h => cheb_count 4097 (Rat.divInt 0 1) v w h (by omega))
  rw [show countE 4097 = 4 by kernel_rfl] at kc
  refine (kc.out _ _ hv.out).mono ?_
  rintro e w14 ⟨u1, t1, rfl, hx, hH, hI⟩
  clear hv
  replace hE := mkHid (hE.out.trans hx)
  replace hA := mkHid (hA.out.ext hx)
  replace hB := mkHid (hB.out.ext hx)
  replace zA := mkHid (hx.blk zA.out)
  replace zB := mkHid (hx.blk zB.out)
  replace hC := mkHid (hC.out.ext hx)
  replace hD := mkHid (hD.out.ext hx)
  replace zC := mkHid (hx.blk zC.out)
  replace zD := mkHid (hx.blk zD.out)
  clear hx
  replace hH := mkHid hH
  replace hI := mkHid hI
  clear kc
  obtain ⟨H1, H2, H3, H4, H5, H6, H7, H8, rfl⟩ := hH.out.shape
  obtain ⟨I1, I2, I3, I4, I5, I6, I7, I8, rfl⟩ := hI.out.shape
  obtain ⟨w15, hw15⟩ : ∃ w15, w15 = (w14.alloc (.cells #[.bool H1, .slice H2 H3 H4, .bool H5, .slice H6 H7 H8] 26)).alloc (.cells #[.bool I1, .slice I2 I3 I4, .bool I5, .slice I6 I7 I8] 26) := ⟨_, rfl⟩
  have hx : Ext w14 w15 := by rw [hw15]; exact (((Ext.refl w14).al _).al _)
  have zH : w15.heap[w14.heap.size]? = some (.cells #[.bool H1, .slice H2 H3 H4, .bool H5, .slice H6 H7 H8] 26 (0, 0)) := by rw [hw15]; exact (heap_alloc_old _ _ (by simp <;> omega)).trans (heap_at _ _ _ (by simp))
  have zI : w15.heap[w14.heap.size + 1]? = some (.cells #[.bool I1, .slice I2 I3 I4, .bool I5, .slice I6 I7 I8] 26 (0, 0)) := by rw [hw15]; exact heap_at _ _ _ (by simp)
  obtain ⟨g16, hg16⟩ : ∃ g16, g16 = w14.heap.size := ⟨_, rfl⟩
  rw [← hg16] at zH zI
  go_wp2_with fail
  rw [← hg16, ← hw15]
  clear hg16 hw15
  replace hE := mkHid (hE.out.trans hx)
  replace hA := mkHid (hA.out.ext hx)
  replace hB := mkHid (hB.out.ext hx)
  replace zA := mkHid (hx.blk zA.out)
  replace zB := mkHid (hx.blk zB.out)
  replace hC := mkHid (hC.out.ext hx)
  replace hD := mkHid (hD.out.ext hx)
  replace zC := mkHid (hx.blk zC.out)
  replace zD := mkHid (hx.blk zD.out)
  replace hH := mkHid (hH.out.ext hx)
  replace hI := mkHid (hI.out.ext hx)
  clear hx
  replace zH := mkHid zH
  replace zI := mkHid zI
  clear hH hI zH zI
  have kw := mkHid (fun w => whole_f 1 1 w (by omega) (by omega) (by omega) (by omega) (by omega))
  refine (kw.out _).mono ?_
  rintro e w17 ⟨v1, rfl, hx, hv⟩
  replace hE := mkHid (hE.out.trans hx)
  replace hA := mkHid (hA.out.ext hx)
  replace hB := mkHid (hB.out.ext hx)
  replace zA := mkHid (hx.blk zA.out)
  replace zB := mkHid (hx.blk zB.out)
  replace hC := mkHid (hC.out.ext hx)
  replace hD := mkHid (hD.out.ext hx)
  replace zC := mkHid (hx.blk zC.out)
  replace zD := mkHid (hx.blk zD.out)
  clear hx
  replace hv := mkHid hv
  clear kw
  go_wp2_with fail
  have kc := mkHid (fun w v h => cheb_val 4096 (Rat.divInt 1 1) 4097 1 (by omega) (by rw [show Rat.divInt 1 1 = 1 by kernel_rfl]; exact names_u) (by rw [show Rat.divInt 1 1 = 1 by kernel_rfl]; exact names_t) (small_ok (by kernel_rfl) (by kernel_rfl)) (small_ok (by kernel_rfl) (by kernel_rfl)) w v h)
  refine (kc.out _ _ hv.out).mono ?_
  rintro e w18 ⟨u1, t1, rfl, hx, hJ, hK⟩
  clear hv
  replace hE := mkHid (hE.out.trans hx)
  replace hA := mkHid (hA.out.ext hx)
  replace hB := mkHid (hB.out.ext hx)
  replace zA := mkHid (hx.blk zA.out)
  replace zB := mkHid (hx.blk zB.out)
  replace hC := mkHid (hC.out.ext hx)
  replace hD := mkHid (hD.out.ext hx)
  replace zC := mkHid (hx.blk zC.out)
  replace zD := mkHid (hx.blk zD.out)
  clear hx
  replace hJ := mkHid hJ
  replace hK := mkHid hK
  clear kc
  obtain ⟨J1, J2, J3, J4, J5, J6, J7, J8, rfl⟩ := hJ.out.shape
  obtain ⟨K1, K2, K3, K4, K5, K6, K7, K8, rfl⟩ := hK.out.shape
  obtain ⟨w19, hw19⟩ : ∃ w19, w19 = (w18.alloc (.cells #[.bool J1, .slice J2 J3 J4, .bool J5, .slice J6 J7 J8] 26)).alloc (.cells #[.bool K1, .slice K2 K3 K4, .bool K5, .slice K6 K7 K8] 26) := ⟨_, rfl⟩
  have hx : Ext w18 w19 := by rw [hw19]; exact (((Ext.refl w18).al _).al _)
  have zJ : w19.heap[w18.heap.size]? = some (.cells #[.bool J1, .slice J2 J3 J4, .bool J5, .slice J6 J7 J8] 26 (0, 0)) := by rw [hw19]; exact (heap_alloc_old _ _ (by simp <;> omega)).trans (heap_at _ _ _ (by simp))
  have zK : w19.heap[w18.heap.size + 1]? = some (.cells #[.bool K1, .slice K2 K3 K4, .bool K5, .slice K6 K7 K8] 26 (0, 0)) := by rw [hw19]; exact heap_at _ _ _ (by simp)
  obtain ⟨g20, hg20⟩ : ∃ g20, g20 = w18.heap.size := ⟨_, rfl⟩
  rw [← hg20] at zJ zK
  go_wp2_with fail
  rw [← hg20, ← hw19]
  clear hg20 hw19
  replace hE := mkHid (hE.out.trans hx)
  replace hA := mkHid (hA.out.ext hx)
  replace hB := mkHid (hB.out.ext hx)
  replace zA := mkHid (hx.blk zA.out)
  replace zB := mkHid (hx.blk zB.out)
  replace hC := mkHid (hC.out.ext hx)
  replace hD := mkHid (hD.out.ext hx)
  replace zC := mkHid (hx.blk zC.out)
  replace zD := mkHid (hx.blk zD.out)
  replace hJ := mkHid (hJ.out.ext hx)
  replace hK := mkHid (hK.out.ext hx)
  clear hx
  replace zJ := mkHid zJ
  replace zK := mkHid zK
  have kw := mkHid (fun w => matrix_f 1 1 0 1 w (by omega) (by omega) (by omega) (by omega) (by omega) (by omega) (by omega) (by omega))
  refine (kw.out _).mono ?_
  rintro e w21 ⟨v1, rfl, hx, hv⟩
  replace hE := mkHid (hE.out.trans hx)
  replace hA := mkHid (hA.out.ext hx)
  replace hB := mkHid (hB.out.ext hx)
  replace zA := mkHid (hx.blk zA.out)
  replace zB := mkHid (hx.blk zB.out)
  replace hC := mkHid (hC.out.ext hx)
  replace hD := mkHid (hD.out.ext hx)
  replace zC := mkHid (hx.blk zC.out)
  replace zD := mkHid (hx.blk zD.out)
  replace hJ := mkHid (hJ.out.ext hx)
  replace hK := mkHid (hK.out.ext hx)
  replace zJ := mkHid (hx.blk zJ.out)
  replace zK := mkHid (hx.blk zK.out)
  clear hx
  replace hv := mkHid hv
  clear kw
  go_wp2_with fail
  have kc := mkHid (fun w v h => power_val 5 (Rat.divInt 1 1) (Rat.divInt 1 1) (Rat.divInt 0 1) (Rat.divInt 1 1) 1 5 0 1 (by omega) (by kernel_rfl) (by kernel_rfl) (by kernel_rfl) (by kernel_rfl) (by kernel_rfl) (fine_small (small_ok (by kernel_rfl) (by kernel_rfl)) (small_ok (by kernel_rfl) (by kernel_rfl)) (small_ok (by kernel_rfl) (by kernel_rfl)) (small_ok (by kernel_rfl) (by kernel_rfl))) w v h)
  refine (kc.out _ _ hv.out).mono ?_
  rintro e w22 ⟨p1, rfl, hx, mp⟩
  clear hv
  replace hE := mkHid (hE.out.trans hx)
  replace hA := mkHid (hA.out.ext hx)
  replace hB := mkHid (hB.out.ext hx)
  replace zA := mkHid (hx.blk zA.out)
  replace zB := mkHid (hx.blk zB.out)
  replace hC := mkHid (hC.out.ext hx)
  replace hD := mkHid (hD.out.ext hx)
  replace zC := mkHid (hx.blk zC.out)
  replace zD := mkHid (hx.blk zD.out)
  replace hJ := mkHid (hJ.out.ext hx)
  replace hK := mkHid (hK.out.ext hx)
  replace zJ := mkHid (hx.blk zJ.out)
  replace zK := mkHid (hx.blk zK.out)
  clear hx
  replace mp := mkHid mp
  clear kc
  have hs := mp.out
  obtain ⟨P1, P2, P3, P4, P5, P6, P7, P8, Q1, Q2, Q3, Q4, Q5, Q6, Q7, Q8, S1, S2, S3, S4, S5, S6, S7, S8, T1, T2, T3, T4, T5, T6, T7, T8, rfl, -⟩ := hs
  obtain ⟨w23, hw23⟩ : ∃ w23, w23 = (w22.alloc (.cells #[.bool false, .slice none 0 0, .bool false, .slice none 0 0, .bool false, .slice none 0 0, .bool false, .slice none 0 0, .bool false, .slice none 0 0, .bool false, .slice none 0 0, .bool false, .slice none 0 0, .bool false, .slice none 0 0] 40)).setRow w22.heap.size #[.bool P1, .slice P2 P3 P4, .bool P5, .slice P6 P7 P8, .bool Q1, .slice Q2 Q3 Q4, .bool Q5, .slice Q6 Q7 Q8, .bool S1, .slice S2 S3 S4, .bool S5, .slice S6 S7 S8, .bool T1, .slice T2 T3 T4, .bool T5, .slice T6 T7 T8] := ⟨_, rfl⟩
  have hx : Ext w22 w23 := by rw [hw23]; exact (((Ext.refl w22).al _).row (Nat.le_refl _) _)
  have zmp : w23.heap[w22.heap.size]? = some (.cells #[.bool P1, .slice P2 P3 P4, .bool P5, .slice P6 P7 P8, .bool Q1, .slice Q2 Q3 Q4, .bool Q5, .slice Q6 Q7 Q8, .bool S1, .slice S2 S3 S4, .bool S5, .slice S6 S7 S8, .bool T1, .slice T2 T3 T4, .bool T5, .slice T6 T7 T8] 40 (0, 0)) := by rw [hw23]; exact setRow_heap _ _ _ _ _ _ (heap_alloc_new _ _)
  obtain ⟨g24, hg24⟩ : ∃ g24, g24 = w22.heap.size := ⟨_, rfl⟩
  rw [← hg24] at zmp
  go_wp2_with (first
    | (refine wpList_store_row rfl 40 (.tmp 16) (.tmp 74) rfl w22.heap.size #[.bool P1, .slice P2 P3 P4, .bool P5, .slice P6 P7 P8, .bool Q1, .slice Q2 Q3 Q4, .bool Q5, .slice Q6 Q7 Q8, .bool S1, .slice S2 S3 S4, .bool S5, .slice S6 S7 S8, .bool T1, .slice T2 T3 T4, .bool T5, .slice T6 T7 T8] rfl rfl 40 _ (heap_alloc_new _ _) (by kernel_rfl) rfl (by kernel_rfl) ?_)
    | (refine wpList_load_row rfl 40 (.tmp 16) rfl (w22.heap.size) rfl 40 #[.bool P1, .slice P2 P3 P4, .bool P5, .slice P6 P7 P8, .bool Q1, .slice Q2 Q3 Q4, .bool Q5, .slice Q6 Q7 Q8, .bool S1, .slice S2 S3 S4, .bool S5, .slice S6 S7 S8, .bool T1, .slice T2 T3 T4, .bool T5, .slice T6 T7 T8] (0, 0) _ (heap_at _ _ _ (by simp)) Try.underlying40 rfl (by kernel_rfl) ?_))
  rw [← hw23, ← hg24]
  clear hg24 hw23
  replace hE := mkHid (hE.out.trans hx)
  replace hA := mkHid (hA.out.ext hx)
  replace hB := mkHid (hB.out.ext hx)
  replace zA := mkHid (hx.blk zA.out)
  replace zB := mkHid (hx.blk zB.out)
  replace hC := mkHid (hC.out.ext hx)
  replace hD := mkHid (hD.out.ext hx)
  replace zC := mkHid (hx.blk zC.out)
  replace zD := mkHid (hx.blk zD.out)
  replace hJ := mkHid (hJ.out.ext hx)
  replace hK := mkHid (hK.out.ext hx)
  replace zJ := mkHid (hx.blk zJ.out)
  replace zK := mkHid (hx.blk zK.out)
  replace mp := mkHid (mp.out.ext hx)
  clear hx
  replace zmp := mkHid zmp
  have kw := mkHid (fun w => matrix_f 2 1 1 1 w (by omega) (by omega) (by omega) (by omega) (by omega) (by omega) (by omega) (by omega))
  refine (kw.out _).mono ?_
  rintro e w25 ⟨v1, rfl, hx, hv⟩
  replace hE := mkHid (hE.out.trans hx)
  replace hA := mkHid (hA.out.ext hx)
  replace hB := mkHid (hB.out.ext hx)
  replace zA := mkHid (hx.blk zA.out)
  replace zB := mkHid (hx.blk zB.out)
  replace hC := mkHid (hC.out.ext hx)
  replace hD := mkHid (hD.out.ext hx)
  replace zC := mkHid (hx.blk zC.out)
  replace zD := mkHid (hx.blk zD.out)
  replace hJ := mkHid (hJ.out.ext hx)
  replace hK := mkHid (hK.out.ext hx)
  replace zJ := mkHid (hx.blk zJ.out)
  replace zK := mkHid (hx.blk zK.out)
  replace mp := mkHid (mp.out.ext hx)
  replace zmp := mkHid (hx.blk zmp.out)
  clear hx
  replace hv := mkHid hv
  clear kw
  go_wp2_with fail
  have kc := mkHid (fun w v h => power_val 0 (Rat.divInt 2 1) (Rat.divInt 1 1) (Rat.divInt 1 1) (Rat.divInt 1 1) 1 0 0 1 (by omega) (by kernel_rfl) (by kernel_rfl) (by kernel_rfl) (by kernel_rfl) (by kernel_rfl) (fine_small (small_ok (by kernel_rfl) (by kernel_rfl)) (small_ok (by kernel_rfl) (by kernel_rfl)) (small_ok (by kernel_rfl) (by kernel_rfl)) (small_ok (by kernel_rfl) (by kernel_rfl))) w v h)
  refine (kc.out _ _ hv.out).mono ?_
  rintro e w26 ⟨p1, rfl, hx, mq⟩
  clear hv
  replace hE := mkHid (hE.out.trans hx)
  replace hA := mkHid (hA.out.ext hx)
  replace hB := mkHid (hB.out.ext hx)
  replace zA := mkHid (hx.blk zA.out)
  replace zB := mkHid (hx.blk zB.out)
  replace hC := mkHid (hC.out.ext hx)
  replace hD := mkHid (hD.out.ext hx)
  replace zC := mkHid (hx.blk zC.out)
  replace zD := mkHid (hx.blk zD.out)
  replace hJ := mkHid (hJ.out.ext hx)
  replace hK := mkHid (hK.out.ext hx)
  replace zJ := mkHid (hx.blk zJ.out)
  replace zK := mkHid (hx.blk zK.out)
  replace mp := mkHid (mp.out.ext hx)
  replace zmp := mkHid (hx.blk zmp.out)
  clear hx
  replace mq := mkHid mq
  clear kc
  have hs := mq.out
  obtain ⟨U1, U2, U3, U4, U5, U6, U7, U8, V1, V2, V3, V4, V5, V6, V7, V8, X1, X2, X3, X4, X5, X6, X7, X8, Y1, Y2, Y3, Y4, Y5, Y6, Y7, Y8, rfl, -⟩ := hs
  obtain ⟨w27, hw27⟩ : ∃ w27, w27 = (w26.alloc (.cells #[.bool false, .slice none 0 0, .bool false, .slice none 0 0, .bool false, .slice none 0 0, .bool false, .slice none 0 0, .bool false, .slice none 0 0, .bool false, .slice none 0 0, .bool false, .slice none 0 0, .bool false, .slice none 0 0] 40)).setRow w26.heap.size #[.bool U1, .slice U2 U3 U4, .bool U5, .slice U6 U7 U8, .bool V1, .slice V2 V3 V4, .bool V5, .slice V6 V7 V8, .bool X1, .slice X2 X3 X4, .bool X5, .slice X6 X7 X8, .bool Y1, .slice Y2 Y3 Y4, .bool Y5, .slice Y6 Y7 Y8] := ⟨_, rfl⟩
  have hx : Ext w26 w27 := by rw [hw27]; exact (((Ext.refl w26).al _).row (Nat.le_refl _) _)
  have zmq : w27.heap[w26.heap.size]? = some (.cells #[.bool U1, .slice U2 U3 U4, .bool U5, .slice U6 U7 U8, .bool V1, .slice V2 V3 V4, .bool V5, .slice V6 V7 V8, .bool X1, .slice X2 X3 X4, .bool X5, .slice X6 X7 X8, .bool Y1, .slice Y2 Y3 Y4, .bool Y5, .slice Y6 Y7 Y8] 40 (0, 0)) := by rw [hw27]; exact setRow_heap _ _ _ _ _ _ (heap_alloc_new _ _)
  obtain ⟨g28, hg28⟩ : ∃ g28, g28 = w26.heap.size := ⟨_, rfl⟩
  rw [← hg28] at zmq
  go_wp2_with (first
    | (refine wpList_store_row rfl 40 (.tmp 18) (.tmp 79) rfl w26.heap.size #[.bool U1, .slice U2 U3 U4, .bool U5, .slice U6 U7 U8, .bool V1, .slice V2 V3 V4, .bool V5, .slice V6 V7 V8, .bool X1, .slice X2 X3 X4, .bool X5, .slice X6 X7 X8, .bool Y1, .slice Y2 Y3 Y4, .bool Y5, .slice Y6 Y7 Y8] rfl rfl 40 _ (heap_alloc_new _ _) (by kernel_rfl) rfl (by kernel_rfl) ?_)
    | (refine wpList_load_row rfl 40 (.tmp 18) rfl (w26.heap.size) rfl 40 #[.bool U1, .slice U2 U3 U4, .bool U5, .slice U6 U7 U8, .bool V1, .slice V2 V3 V4, .bool V5, .slice V6 V7 V8, .bool X1, .slice X2 X3 X4, .bool X5, .slice X6 X7 X8, .bool Y1, .slice Y2 Y3 Y4, .bool Y5, .slice Y6 Y7 Y8] (0, 0) _ (heap_at _ _ _ (by simp)) Try.underlying40 rfl (by kernel_rfl) ?_))
  rw [← hw27, ← hg28]
  clear hg28 hw27
  replace hE := mkHid (hE.out.trans hx)
  replace hA := mkHid (hA.out.ext hx)
  replace hB := mkHid (hB.out.ext hx)
  replace zA := mkHid (hx.blk zA.out)
  replace zB := mkHid (hx.blk zB.out)
  replace hC := mkHid (hC.out.ext hx)
  replace hD := mkHid (hD.out.ext hx)
  replace zC := mkHid (hx.blk zC.out)
  replace zD := mkHid (hx.blk zD.out)
  replace hJ := mkHid (hJ.out.ext hx)
  replace hK := mkHid (hK.out.ext hx)
  replace zJ := mkHid (hx.blk zJ.out)
  replace zK := mkHid (hx.blk zK.out)
  replace mp := mkHid (mp.out.ext hx)
  replace zmp := mkHid (hx.blk zmp.out)
  replace mq := mkHid (mq.out.ext hx)
  clear hx
  replace zmq := mkHid zmq
  have kw := mkHid (fun w => matrix_f 1 0 0 1 w (by omega) (by omega) (by omega) (by omega) (by omega) (by omega) (by omega) (by omega))
  refine (kw.out _).mono ?_
  rintro e w29 ⟨v1, rfl, hx, hv⟩
  replace hE := mkHid (hE.out.trans hx)
  replace hA := mkHid (hA.out.ext hx)
  replace hB := mkHid (hB.out.ext hx)
  replace zA := mkHid (hx.blk zA.out)
  replace zB := mkHid (hx.blk zB.out)
  replace hC := mkHid (hC.out.ext hx)
  replace hD := mkHid (hD.out.ext hx)
  replace zC := mkHid (hx.blk zC.out)
  replace zD := mkHid (hx.blk zD.out)
  replace hJ := mkHid (hJ.out.ext hx)
  replace hK := mkHid (hK.out.ext hx)
  replace zJ := mkHid (hx.blk zJ.out)
  replace zK := mkHid (hx.blk zK.out)
  replace mp := mkHid (mp.out.ext hx)
  replace zmp := mkHid (hx.blk zmp.out)
  replace mq := mkHid (mq.out.ext hx)
  replace zmq := mkHid (hx.blk zmq.out)
  clear hx
  replace hv := mkHid hv
  clear kw
  go_wp2_with fail
  have kc := mkHid (fun w v h => order_val (Rat.divInt 1 1) (Rat.divInt 0 1) (Rat.divInt 0 1) (Rat.divInt 1 1) 1 0 (by kernel_rfl) (by kernel_rfl) w v h)
  refine (kc.out _ _ hv.out).mono ?_
  rintro e w30 ⟨rfl, hx⟩
  clear hv
  replace hE := mkHid (hE.out.trans hx)
  replace hA := mkHid (hA.out.ext hx)
  replace hB := mkHid (hB.out.ext hx)
  replace zA := mkHid (hx.blk zA.out)
  replace zB := mkHid (hx.blk zB.out)
  replace hC := mkHid (hC.out.ext hx)
  replace hD := mkHid (hD.out.ext hx)
  replace zC := mkHid (hx.blk zC.out)
  replace zD := mkHid (hx.blk zD.out)
  replace hJ := mkHid (hJ.out.ext hx)
  replace hK := mkHid (hK.out.ext hx)
  replace zJ := mkHid (hx.blk zJ.out)
  replace zK := mkHid (hx.blk zK.out)
  replace mp := mkHid (mp.out.ext hx)
  replace zmp := mkHid (hx.blk zmp.out)
  replace mq := mkHid (mq.out.ext hx)
  replace zmq := mkHid (hx.blk zmq.out)
  clear hx
  clear kc
  go_wp2_with fail
  have kw := mkHid (fun w => matrix_f (-1) 0 0 (-1) w (by omega) (by omega) (by omega) (by omega) (by omega) (by omega) (by omega) (by omega))
  refine (kw.out _).mono ?_
  rintro e w31 ⟨v1, rfl, hx, hv⟩
  replace hE := mkHid (hE.out.trans hx)
  replace hA := mkHid (hA.out.ext hx)
  replace hB := mkHid (hB.out.ext hx)
  replace zA := mkHid (hx.blk zA.out)
  replace zB := mkHid (hx.blk zB.out)
  replace hC := mkHid (hC.out.ext hx)
  replace hD := mkHid (hD.out.ext hx)
  replace zC := mkHid (hx.blk zC.out)
  replace zD := mkHid (hx.blk zD.out)
  replace hJ := mkHid (hJ.out.ext hx)
  replace hK := mkHid (hK.out.ext hx)
  replace zJ := mkHid (hx.blk zJ.out)
  replace zK := mkHid (hx.blk zK.out)
  replace mp := mkHid (mp.out.ext hx)
  replace zmp := mkHid (hx.blk zmp.out)
  replace mq := mkHid (mq.out.ext hx)
  replace zmq := mkHid (hx.blk zmq.out)
  clear hx
  replace hv := mkHid hv
  clear kw
  go_wp2_with fail
  have kc := mkHid (fun w v h => order_val (Rat.divInt (-1) 1) (Rat.divInt 0 1) (Rat.divInt 0 1) (Rat.divInt (-1) 1) 2 0 (by kernel_rfl) (by kernel_rfl) w v h)
  refine (kc.out _ _ hv.out).mono ?_
  rintro e w32 ⟨rfl, hx⟩
  clear hv
  replace hE := mkHid (hE.out.trans hx)
  replace hA := mkHid (hA.out.ext hx)
  replace hB := mkHid (hB.out.ext hx)
  replace zA := mkHid (hx.blk zA.out)
  replace zB := mkHid (hx.blk zB.out)
  replace hC := mkHid (hC.out.ext hx)
  replace hD := mkHid (hD.out.ext hx)
  replace zC := mkHid (hx.blk zC.out)
  replace zD := mkHid (hx.blk zD.out)
  replace hJ := mkHid (hJ.out.ext hx)
  replace hK := mkHid (hK.out.ext hx)
  replace zJ := mkHid (hx.blk zJ.out)
  replace zK := mkHid (hx.blk zK.out)
  replace mp := mkHid (mp.out.ext hx)
  replace zmp := mkHid (hx.blk zmp.out)
  replace mq := mkHid (mq.out.ext hx)
  replace zmq := mkHid (hx.blk zmq.out)
  clear hx
  clear kc
  go_wp2_with fail
  have kw := mkHid (fun w => matrix_f 0 1 (-1) (-1) w (by omega) (by omega) (by omega) (by omega) (by omega) (by omega) (by omega) (by omega))
  refine (kw.out _).mono ?_
  rintro e w33 ⟨v1, rfl, hx, hv⟩
  replace hE := mkHid (hE.out.trans hx)
  replace hA := mkHid (hA.out.ext hx)
  replace hB := mkHid (hB.out.ext hx)
  replace zA := mkHid (hx.blk zA.out)
  replace zB := mkHid (hx.blk zB.out)
  replace hC := mkHid (hC.out.ext hx)
  replace hD := mkHid (hD.out.ext hx)
  replace zC := mkHid (hx.blk zC.out)
  replace zD := mkHid (hx.blk zD.out)
  replace hJ := mkHid (hJ.out.ext hx)
  replace hK := mkHid (hK.out.ext hx)
  replace zJ := mkHid (hx.blk zJ.out)
  replace zK := mkHid (hx.blk zK.out)
  replace mp := mkHid (mp.out.ext hx)
  replace zmp := mkHid (hx.blk zmp.out)
  replace mq := mkHid (mq.out.ext hx)
  replace zmq := mkHid (hx.blk zmq.out)
  clear hx
  replace hv := mkHid hv
  clear kw
  go_wp2_with fail
  have kc := mkHid (fun w v h => order_val (Rat.divInt 0 1) (Rat.divInt 1 1) (Rat.divInt (-1) 1) (Rat.divInt (-1) 1) 3 0 (by kernel_rfl) (by kernel_rfl) w v h)
  refine (kc.out _ _ hv.out).mono ?_
  rintro e w34 ⟨rfl, hx⟩
  clear hv
  replace hE := mkHid (hE.out.trans hx)
  replace hA := mkHid (hA.out.ext hx)
  replace hB := mkHid (hB.out.ext hx)
  replace zA := mkHid (hx.blk zA.out)
  replace zB := mkHid (hx.blk zB.out)
  replace hC := mkHid (hC.out.ext hx)
  replace hD := mkHid (hD.out.ext hx)
  replace zC := mkHid (hx.blk zC.out)
  replace zD := mkHid (hx.blk zD.out)
  replace hJ := mkHid (hJ.out.ext hx)
  replace hK := mkHid (hK.out.ext hx)
  replace zJ := mkHid (hx.blk zJ.out)
  replace zK := mkHid (hx.blk zK.out)
  replace mp := mkHid (mp.out.ext hx)
  replace zmp := mkHid (hx.blk zmp.out)
  replace mq := mkHid (mq.out.ext hx)
  replace zmq := mkHid (hx.blk zmq.out)
  clear hx
  clear kc
  go_wp2_with fail
  have kw := mkHid (fun w => matrix_f 0 1 (-1) 1 w (by omega) (by omega) (by omega) (by omega) (by omega) (by omega) (by omega) (by omega))
  refine (kw.out _).mono ?_
  rintro e w35 ⟨v1, rfl, hx, hv⟩
  replace hE := mkHid (hE.out.trans hx)
  replace hA := mkHid (hA.out.ext hx)
  replace hB := mkHid (hB.out.ext hx)
  replace zA := mkHid (hx.blk zA.out)
  replace zB := mkHid (hx.blk zB.out)
  replace hC := mkHid (hC.out.ext hx)
  replace hD := mkHid (hD.out.ext hx)
  replace zC := mkHid (hx.blk zC.out)
  replace zD := mkHid (hx.blk zD.out)
  replace hJ := mkHid (hJ.out.ext hx)
  replace hK := mkHid (hK.out.ext hx)
  replace zJ := mkHid (hx.blk zJ.out)
  replace zK := mkHid (hx.blk zK.out)
  replace mp := mkHid (mp.out.ext hx)
  replace zmp := mkHid (hx.blk zmp.out)
  replace mq := mkHid (mq.out.ext hx)
  replace zmq := mkHid (hx.blk zmq.out)
  clear hx
  replace hv := mkHid hv
  clear kw
  go_wp2_with fail
  have kc := mkHid (fun w v h => order_val (Rat.divInt 0 1) (Rat.divInt 1 1) (Rat.divInt (-1) 1) (Rat.divInt 1 1) 6 0 (by kernel_rfl) (by kernel_rfl) w v h)
  refine (kc.out _ _ hv.out).mono ?_
  rintro e w36 ⟨rfl, hx⟩
  clear hv
  replace hE := mkHid (hE.out.trans hx)
  replace hA := mkHid (hA.out.ext hx)
  replace hB := mkHid (hB.out.ext hx)
  replace zA := mkHid (hx.blk zA.out)
  replace zB := mkHid (hx.blk zB.out)
  replace hC := mkHid (hC.out.ext hx)
  replace hD := mkHid (hD.out.ext hx)
  replace zC := mkHid (hx.blk zC.out)
  replace zD := mkHid (hx.blk zD.out)
  replace hJ := mkHid (hJ.out.ext hx)
  replace hK := mkHid (hK.out.ext hx)
  replace zJ := mkHid (hx.blk zJ.out)
  replace zK := mkHid (hx.blk zK.out)
  replace mp := mkHid (mp.out.ext hx)
  replace zmp := mkHid (hx.blk zmp.out)
  replace mq := mkHid (mq.out.ext hx)
  replace zmq := mkHid (hx.blk zmq.out)
  clear hx
  clear kc
  go_wp2_with fail
  have kw := mkHid (fun w => matrix_f 1 1 0 1 w (by omega) (by omega) (by omega) (by omega) (by omega) (by omega) (by omega) (by omega))
  refine (kw.out _).mono ?_
  rintro e w37 ⟨v1, rfl, hx, hv⟩
  replace hE := mkHid (hE.out.trans hx)
  replace hA := mkHid (hA.out.ext hx)
  replace hB := mkHid (hB.out.ext hx)
  replace zA := mkHid (hx.blk zA.out)
  replace zB := mkHid (hx.blk zB.out)
  replace hC := mkHid (hC.out.ext hx)
  replace hD := mkHid (hD.out.ext hx)
  replace zC := mkHid (hx.blk zC.out)
  replace zD := mkHid (hx.blk zD.out)
  replace hJ := mkHid (hJ.out.ext hx)
  replace hK := mkHid (hK.out.ext hx)
  replace zJ := mkHid (hx.blk zJ.out)
  replace zK := mkHid (hx.blk zK.out)
  replace mp := mkHid (mp.out.ext hx)
  replace zmp := mkHid (hx.blk zmp.out)
  replace mq := mkHid (mq.out.ext hx)
  replace zmq := mkHid (hx.blk zmq.out)
  clear hx
  replace hv := mkHid hv
  clear kw
  go_wp2_with fail
  have kc := mkHid (fun w v h => order_val (Rat.divInt 1 1) (Rat.divInt 1 1) (Rat.divInt 0 1) (Rat.divInt 1 1) 0 0 (by kernel_rfl) (by kernel_rfl) w v h)
  refine (kc.out _ _ hv.out).mono ?_
  rintro e w38 ⟨rfl, hx⟩
  clear hv
  replace hE := mkHid (hE.out.trans hx)
  replace hA := mkHid (hA.out.ext hx)
  replace hB := mkHid (hB.out.ext hx)
  replace zA := mkHid (hx.blk zA.out)
  replace zB := mkHid (hx.blk zB.out)
  replace hC := mkHid (hC.out.ext hx)
  replace hD := mkHid (hD.out.ext hx)
  replace zC := mkHid (hx.blk zC.out)
  replace zD := mkHid (hx.blk zD.out)
  replace hJ := mkHid (hJ.out.ext hx)
  replace hK := mkHid (hK.out.ext hx)
  replace zJ := mkHid (hx.blk zJ.out)
  replace zK := mkHid (hx.blk zK.out)
  replace mp := mkHid (mp.out.ext hx)
  replace zmp := mkHid (hx.blk zmp.out)
  replace mq := mkHid (mq.out.ext hx)
  replace zmq := mkHid (hx.blk zmq.out)
  clear hx
  clear kc
  go_wp2_with fail
  have kw := mkHid (fun w => matrix_f 1 0 0 2 w (by omega) (by omega) (by omega) (by omega) (by omega) (by omega) (by omega) (by omega))
  refine (kw.out _).mono ?_
  rintro e w39 ⟨v1, rfl, hx, hv⟩
  replace hE := mkHid (hE.out.trans hx)
  replace hA := mkHid (hA.out.ext hx)
  replace hB := mkHid (hB.out.ext hx)
  replace zA := mkHid (hx.blk zA.out)
  replace zB := mkHid (hx.blk zB.out)
  replace hC := mkHid (hC.out.ext hx)
  replace hD := mkHid (hD.out.ext hx)
  replace zC := mkHid (hx.blk zC.out)
  replace zD := mkHid (hx.blk zD.out)
  replace hJ := mkHid (hJ.out.ext hx)
  replace hK := mkHid (hK.out.ext hx)
  replace zJ := mkHid (hx.blk zJ.out)
  replace zK := mkHid (hx.blk zK.out)
  replace mp := mkHid (mp.out.ext hx)
  replace zmp := mkHid (hx.blk zmp.out)
  replace mq := mkHid (mq.out.ext hx)
  replace zmq := mkHid (hx.blk zmq.out)
  clear hx
  replace hv := mkHid hv
  clear kw
  go_wp2_with fail
  have kc := mkHid (fun w v h => order_val (Rat.divInt 1 1) (Rat.divInt 0 1) (Rat.divInt 0 1) (Rat.divInt 2 1) 0 1 (by kernel_rfl) (by kernel_rfl) w v h)
  refine (kc.out _ _ hv.out).mono ?_
  rintro e w40 ⟨rfl, hx⟩
  clear hv
  replace hE := mkHid (hE.out.trans hx)
  replace hA := mkHid (hA.out.ext hx)
  replace hB := mkHid (hB.out.ext hx)
  replace zA := mkHid (hx.blk zA.out)
  replace zB := mkHid (hx.blk zB.out)
  replace hC := mkHid (hC.out.ext hx)
  replace hD := mkHid (hD.out.ext hx)
  replace zC := mkHid (hx.blk zC.out)
  replace zD := mkHid (hx.blk zD.out)
  replace hJ := mkHid (hJ.out.ext hx)
  replace hK := mkHid (hK.out.ext hx)
  replace zJ := mkHid (hx.blk zJ.out)
  replace zK := mkHid (hx.blk zK.out)
  replace mp := mkHid (mp.out.ext hx)
  replace zmp := mkHid (hx.blk zmp.out)
  replace mq := mkHid (mq.out.ext hx)
  replace zmq := mkHid (hx.blk zmq.out)
  clear hx
  clear kc
  go_wp2_with fail
  have kw := mkHid (fun w => matrix_f 1 1 0 1 w (by omega) (by omega) (by omega) (by omega) (by omega) (by omega) (by omega) (by omega))
  refine (kw.out _).mono ?_
  rintro e w41 ⟨v1, rfl, hx, hv⟩
  replace hE := mkHid (hE.out.trans hx)
  replace hA := mkHid (hA.out.ext hx)
  replace hB := mkHid (hB.out.ext hx)
  replace zA := mkHid (hx.blk zA.out)
  replace zB := mkHid (hx.blk zB.out)
  replace hC := mkHid (hC.out.ext hx)
  replace hD := mkHid (hD.out.ext hx)
  replace zC := mkHid (hx.blk zC.out)
  replace zD := mkHid (hx.blk zD.out)
  replace hJ := mkHid (hJ.out.ext hx)
  replace hK := mkHid (hK.out.ext hx)
  replace zJ := mkHid (hx.blk zJ.out)
  replace zK := mkHid (hx.blk zK.out)
  replace mp := mkHid (mp.out.ext hx)
  replace zmp := mkHid (hx.blk zmp.out)
  replace mq := mkHid (mq.out.ext hx)
  replace zmq := mkHid (hx.blk zmq.out)
  clear hx
  replace hv := mkHid hv
  clear kw
  go_wp2_with fail
  have kw := mkHid (fun w => whole_f 5 1 w (by omega) (by omega) (by omega) (by omega) (by omega))
  refine (kw.out _).mono ?_
  rintro e w42 ⟨v2, rfl, hx, hy⟩
  replace hE := mkHid (hE.out.trans hx)
  replace hA := mkHid (hA.out.ext hx)
  replace hB := mkHid (hB.out.ext hx)
  replace zA := mkHid (hx.blk zA.out)
  replace zB := mkHid (hx.blk zB.out)
  replace hC := mkHid (hC.out.ext hx)
  replace hD := mkHid (hD.out.ext hx)
  replace zC := mkHid (hx.blk zC.out)
  replace zD := mkHid (hx.blk zD.out)
  replace hJ := mkHid (hJ.out.ext hx)
  replace hK := mkHid (hK.out.ext hx)
  replace zJ := mkHid (hx.blk zJ.out)
  replace zK := mkHid (hx.blk zK.out)
  replace mp := mkHid (mp.out.ext hx)
  replace zmp := mkHid (hx.blk zmp.out)
  replace mq := mkHid (mq.out.ext hx)
  replace zmq := mkHid (hx.blk zmq.out)
  replace hv := mkHid (hv.out.ext hx)
  clear hx
  replace hy := mkHid hy
  clear kw
  go_wp2_with fail
  have kw := mkHid (fun w => whole_f 0 1 w (by omega) (by omega) (by omega) (by omega) (by omega))
  refine (kw.out _).mono ?_
  rintro e w43 ⟨v3, rfl, hx, hu⟩
  replace hE := mkHid (hE.out.trans hx)
  replace hA := mkHid (hA.out.ext hx)
  replace hB := mkHid (hB.out.ext hx)
  replace zA := mkHid (hx.blk zA.out)
  replace zB := mkHid (hx.blk zB.out)
  replace hC := mkHid (hC.out.ext hx)
  replace hD := mkHid (hD.out.ext hx)
  replace zC := mkHid (hx.blk zC.out)
  replace zD := mkHid (hx.blk zD.out)
  replace hJ := mkHid (hJ.out.ext hx)
  replace hK := mkHid (hK.out.ext hx)
  replace zJ := mkHid (hx.blk zJ.out)
  replace zK := mkHid (hx.blk zK.out)
  replace mp := mkHid (mp.out.ext hx)
  replace zmp := mkHid (hx.blk zmp.out)
  replace mq := mkHid (mq.out.ext hx)
  replace zmq := mkHid (hx.blk zmq.out)
  replace hv := mkHid (hv.out.ext hx)
  replace hy := mkHid (hy.out.ext hx)
  clear hx
  replace hu := mkHid hu
  clear kw
  obtain ⟨M1, M2, M3, M4, M5, M6, M7, M8, rfl⟩ := hy.out.shape
  obtain ⟨N1, N2, N3, N4, N5, N6, N7, N8, rfl⟩ := hu.out.shape
  go_wp2_with fail
  have kc := mkHid (fun w v r h hr => again_val (Rat.divInt 1 1) (Rat.divInt 1 1) (Rat.divInt 0 1) (Rat.divInt 1 1) (Rat.divInt 5 1) (Rat.divInt 0 1) 1 (by kernel_rfl) (by kernel_rfl) w v r h hr)
  refine (kc.out _ _ _ hv.out (AnyY.make hy.out hu.out)).mono ?_
  rintro e w44 ⟨rfl, hx⟩
  clear hv hy hu
  replace hE := mkHid (hE.out.trans hx)
  replace hA := mkHid (hA.out.ext hx)
  replace hB := mkHid (hB.out.ext hx)
  replace zA := mkHid (hx.blk zA.out)
  replace zB := mkHid (hx.blk zB.out)
  replace hC := mkHid (hC.out.ext hx)
  replace hD := mkHid (hD.out.ext hx)
  replace zC := mkHid (hx.blk zC.out)
  replace zD := mkHid (hx.blk zD.out)
  replace hJ := mkHid (hJ.out.ext hx)
  replace hK := mkHid (hK.out.ext hx)
  replace zJ := mkHid (hx.blk zJ.out)
  replace zK := mkHid (hx.blk zK.out)
  replace mp := mkHid (mp.out.ext hx)
  replace zmp := mkHid (hx.blk zmp.out)
  replace mq := mkHid (mq.out.ext hx)
  replace zmq := mkHid (hx.blk zmq.out)
  clear hx
  clear kc
  go_wp2_with fail
  have kw := mkHid (fun w => matrix_f 1 1 0 1 w (by omega) (by omega) (by omega) (by omega) (by omega) (by omega) (by omega) (by omega))
  refine (kw.out _).mono ?_
  rintro e w45 ⟨v1, rfl, hx, hv⟩
  replace hE := mkHid (hE.out.trans hx)
  replace hA := mkHid (hA.out.ext hx)
  replace hB := mkHid (hB.out.ext hx)
  replace zA := mkHid (hx.blk zA.out)
  replace zB := mkHid (hx.blk zB.out)
  replace hC := mkHid (hC.out.ext hx)
  replace hD := mkHid (hD.out.ext hx)
  replace zC := mkHid (hx.blk zC.out)
  replace zD := mkHid (hx.blk zD.out)
  replace hJ := mkHid (hJ.out.ext hx)
  replace hK := mkHid (hK.out.ext hx)
  replace zJ := mkHid (hx.blk zJ.out)
  replace zK := mkHid (hx.blk zK.out)
  replace mp := mkHid (mp.out.ext hx)
  replace zmp := mkHid (hx.blk zmp.out)
  replace mq := mkHid (mq.out.ext hx)
  replace zmq := mkHid (hx.blk zmq.out)
  clear hx
  replace hv := mkHid hv
  clear kw
  go_wp2_with fail
  have kw := mkHid (fun w => whole_f 0 1 w (by omega) (by omega) (by omega) (by omega) (by omega))
  refine (kw.out _).mono ?_
  rintro e w46 ⟨v2, rfl, hx, hy⟩
  replace hE := mkHid (hE.out.trans hx)
  replace hA := mkHid (hA.out.ext hx)
  replace hB := mkHid (hB.out.ext hx)
  replace zA := mkHid (hx.blk zA.out)
  replace zB := mkHid (hx.blk zB.out)
  replace hC := mkHid (hC.out.ext hx)
  replace hD := mkHid (hD.out.ext hx)
  replace zC := mkHid (hx.blk zC.out)
  replace zD := mkHid (hx.blk zD.out)
  replace hJ := mkHid (hJ.out.ext hx)
  replace hK := mkHid (hK.out.ext hx)
  replace zJ := mkHid (hx.blk zJ.out)
  replace zK := mkHid (hx.blk zK.out)
  replace mp := mkHid (mp.out.ext hx)
  replace zmp := mkHid (hx.blk zmp.out)
  replace mq := mkHid (mq.out.ext hx)
  replace zmq := mkHid (hx.blk zmq.out)
  replace hv := mkHid (hv.out.ext hx)
  clear hx
  replace hy := mkHid hy
  clear kw
  go_wp2_with fail
  have kw := mkHid (fun w => whole_f 5 1 w (by omega) (by omega) (by omega) (by omega) (by omega))
  refine (kw.out _).mono ?_
  rintro e w47 ⟨v3, rfl, hx, hu⟩
  replace hE := mkHid (hE.out.trans hx)
  replace hA := mkHid (hA.out.ext hx)
  replace hB := mkHid (hB.out.ext hx)
  replace zA := mkHid (hx.blk zA.out)
  replace zB := mkHid (hx.blk zB.out)
  replace hC := mkHid (hC.out.ext hx)
  replace hD := mkHid (hD.out.ext hx)
  replace zC := mkHid (hx.blk zC.out)
  replace zD := mkHid (hx.blk zD.out)
  replace hJ := mkHid (hJ.out.ext hx)
  replace hK := mkHid (hK.out.ext hx)
  replace zJ := mkHid (hx.blk zJ.out)
  replace zK := mkHid (hx.blk zK.out)
  replace mp := mkHid (mp.out.ext hx)
  replace zmp := mkHid (hx.blk zmp.out)
  replace mq := mkHid (mq.out.ext hx)
  replace zmq := mkHid (hx.blk zmq.out)
  replace hv := mkHid (hv.out.ext hx)
  replace hy := mkHid (hy.out.ext hx)
  clear hx
  replace hu := mkHid hu
  clear kw
  obtain ⟨M1, M2, M3, M4, M5, M6, M7, M8, rfl⟩ := hy.out.shape
  obtain ⟨N1, N2, N3, N4, N5, N6, N7, N8, rfl⟩ := hu.out.shape
  go_wp2_with fail
  have kc := mkHid (fun w v r h hr => again_val (Rat.divInt 1 1) (Rat.divInt 1 1) (Rat.divInt 0 1) (Rat.divInt 1 1) (Rat.divInt 0 1) (Rat.divInt 5 1) 0 (by kernel_rfl) (by kernel_rfl) w v r h hr)
  refine (kc.out _ _ _ hv.out (AnyY.make hy.out hu.out)).mono ?_
  rintro e w48 ⟨rfl, hx⟩
  clear hv hy hu
  replace hE := mkHid (hE.out.trans hx)
  replace hA := mkHid (hA.out.ext hx)
  replace hB := mkHid (hB.out.ext hx)
  replace zA := mkHid (hx.blk zA.out)
  replace zB := mkHid (hx.blk zB.out)
  replace hC := mkHid (hC.out.ext hx)
  replace hD := mkHid (hD.out.ext hx)
  replace zC := mkHid (hx.blk zC.out)
  replace zD := mkHid (hx.blk zD.out)
  replace hJ := mkHid (hJ.out.ext hx)
  replace hK := mkHid (hK.out.ext hx)
  replace zJ := mkHid (hx.blk zJ.out)
  replace zK := mkHid (hx.blk zK.out)
  replace mp := mkHid (mp.out.ext hx)
  replace zmp := mkHid (hx.blk zmp.out)
  replace mq := mkHid (mq.out.ext hx)
  replace zmq := mkHid (hx.blk zmq.out)
  clear hx
  clear kc
  go_wp2_with fail
  have kw := mkHid (fun w => matrix_f (-1) 1 0 (-1) w (by omega) (by omega) (by omega) (by omega) (by omega) (by omega) (by omega) (by omega))
  refine (kw.out _).mono ?_
  rintro e w49 ⟨v1, rfl, hx, hv⟩
  replace hE := mkHid (hE.out.trans hx)
  replace hA := mkHid (hA.out.ext hx)
  replace hB := mkHid (hB.out.ext hx)
  replace zA := mkHid (hx.blk zA.out)
  replace zB := mkHid (hx.blk zB.out)
  replace hC := mkHid (hC.out.ext hx)
  replace hD := mkHid (hD.out.ext hx)
  replace zC := mkHid (hx.blk zC.out)
  replace zD := mkHid (hx.blk zD.out)
  replace hJ := mkHid (hJ.out.ext hx)
  replace hK := mkHid (hK.out.ext hx)
  replace zJ := mkHid (hx.blk zJ.out)
  replace zK := mkHid (hx.blk zK.out)
  replace mp := mkHid (mp.out.ext hx)
  replace zmp := mkHid (hx.blk zmp.out)
  replace mq := mkHid (mq.out.ext hx)
  replace zmq := mkHid (hx.blk zmq.out)
  clear hx
  replace hv := mkHid hv
  clear kw
  go_wp2_with fail
  have kw := mkHid (fun w => whole_f 1 1 w (by omega) (by omega) (by omega) (by omega) (by omega))
  refine (kw.out _).mono ?_
  rintro e w50 ⟨v2, rfl, hx, hy⟩
  replace hE := mkHid (hE.out.trans hx)
  replace hA := mkHid (hA.out.ext hx)
  replace hB := mkHid (hB.out.ext hx)
  replace zA := mkHid (hx.blk zA.out)
  replace zB := mkHid (hx.blk zB.out)
  replace hC := mkHid (hC.out.ext hx)
  replace hD := mkHid (hD.out.ext hx)
  replace zC := mkHid (hx.blk zC.out)
  replace zD := mkHid (hx.blk zD.out)
  replace hJ := mkHid (hJ.out.ext hx)
  replace hK := mkHid (hK.out.ext hx)
  replace zJ := mkHid (hx.blk zJ.out)
  replace zK := mkHid (hx.blk zK.out)
  replace mp := mkHid (mp.out.ext hx)
  replace zmp := mkHid (hx.blk zmp.out)
  replace mq := mkHid (mq.out.ext hx)
  replace zmq := mkHid (hx.blk zmq.out)
  replace hv := mkHid (hv.out.ext hx)
  clear hx
  replace hy := mkHid hy
  clear kw
  go_wp2_with fail
  have kw := mkHid (fun w => whole_f 0 1 w (by omega) (by omega) (by omega) (by omega) (by omega))
  refine (kw.out _).mono ?_
  rintro e w51 ⟨v3, rfl, hx, hu⟩
  replace hE := mkHid (hE.out.trans hx)
  replace hA := mkHid (hA.out.ext hx)
  replace hB := mkHid (hB.out.ext hx)
  replace zA := mkHid (hx.blk zA.out)
  replace zB := mkHid (hx.blk zB.out)
  replace hC := mkHid (hC.out.ext hx)
  replace hD := mkHid (hD.out.ext hx)
  replace zC := mkHid (hx.blk zC.out)
  replace zD := mkHid (hx.blk zD.out)
  replace hJ := mkHid (hJ.out.ext hx)
  replace hK := mkHid (hK.out.ext hx)
  replace zJ := mkHid (hx.blk zJ.out)
  replace zK := mkHid (hx.blk zK.out)
  replace mp := mkHid (mp.out.ext hx)
  replace zmp := mkHid (hx.blk zmp.out)
  replace mq := mkHid (mq.out.ext hx)
  replace zmq := mkHid (hx.blk zmq.out)
  replace hv := mkHid (hv.out.ext hx)
  replace hy := mkHid (hy.out.ext hx)
  clear hx
  replace hu := mkHid hu
  clear kw
  obtain ⟨M1, M2, M3, M4, M5, M6, M7, M8, rfl⟩ := hy.out.shape
  obtain ⟨N1, N2, N3, N4, N5, N6, N7, N8, rfl⟩ := hu.out.shape
  go_wp2_with fail
  have kc := mkHid (fun w v r h hr => again_val (Rat.divInt (-1) 1) (Rat.divInt 1 1) (Rat.divInt 0 1) (Rat.divInt (-1) 1) (Rat.divInt 1 1) (Rat.divInt 0 1) 2 (by kernel_rfl) (by kernel_rfl) w v r h hr)
  refine (kc.out _ _ _ hv.out (AnyY.make hy.out hu.out)).mono ?_
  rintro e w52 ⟨rfl, hx⟩
  clear hv hy hu
  replace hE := mkHid (hE.out.trans hx)
  replace hA := mkHid (hA.out.ext hx)
  replace hB := mkHid (hB.out.ext hx)
  replace zA := mkHid (hx.blk zA.out)
  replace zB := mkHid (hx.blk zB.out)
  replace hC := mkHid (hC.out.ext hx)
  replace hD := mkHid (hD.out.ext hx)
  replace zC := mkHid (hx.blk zC.out)
  replace zD := mkHid (hx.blk zD.out)
  replace hJ := mkHid (hJ.out.ext hx)
  replace hK := mkHid (hK.out.ext hx)
  replace zJ := mkHid (hx.blk zJ.out)
  replace zK := mkHid (hx.blk zK.out)
  replace mp := mkHid (mp.out.ext hx)
  replace zmp := mkHid (hx.blk zmp.out)
  replace mq := mkHid (mq.out.ext hx)
  replace zmq := mkHid (hx.blk zmq.out)
  clear hx
  clear kc
  go_wp2_with fail
  have yA_0 : ∀ W, Ext w52 W → W.cell? ⟨g4, 0, none⟩ = some (.bool A1) := fun W e => by simp [World.cell?, e.blk zA.out]
  have yA_1 : ∀ W, Ext w52 W → W.cell? ⟨g4, 1, none⟩ = some (.slice A2 A3 A4) := fun W e => by simp [World.cell?, e.blk zA.out]
  have yA_2 : ∀ W, Ext w52 W → W.cell? ⟨g4, 2, none⟩ = some (.bool A5) := fun W e => by simp [World.cell?, e.blk zA.out]
  have yA_3 : ∀ W, Ext w52 W → W.cell? ⟨g4, 3, none⟩ = some (.slice A6 A7 A8) := fun W e => by simp [World.cell?, e.blk zA.out]
  have yB_0 : ∀ W, Ext w52 W → W.cell? ⟨g4 + 1, 0, none⟩ = some (.bool B1) := fun W e => by simp [World.cell?, e.blk zB.out]
  have yB_1 : ∀ W, Ext w52 W → W.cell? ⟨g4 + 1, 1, none⟩ = some (.slice B2 B3 B4) := fun W e => by simp [World.cell?, e.blk zB.out]
  have yB_2 : ∀ W, Ext w52 W → W.cell? ⟨g4 + 1, 2, none⟩ = some (.bool B5) := fun W e => by simp [World.cell?, e.blk zB.out]
  have yB_3 : ∀ W, Ext w52 W → W.cell? ⟨g4 + 1, 3, none⟩ = some (.slice B6 B7 B8) := fun W e => by simp [World.cell?, e.blk zB.out]
  have yC_0 : ∀ W, Ext w52 W → W.cell? ⟨g8, 0, none⟩ = some (.bool C1) := fun W e => by simp [World.cell?, e.blk zC.out]
  have yC_1 : ∀ W, Ext w52 W → W.cell? ⟨g8, 1, none⟩ = some (.slice C2 C3 C4) := fun W e => by simp [World.cell?, e.blk zC.out]
  have yC_2 : ∀ W, Ext w52 W → W.cell? ⟨g8, 2, none⟩ = some (.bool C5) := fun W e => by simp [World.cell?, e.blk zC.out]
  have yC_3 : ∀ W, Ext w52 W → W.cell? ⟨g8, 3, none⟩ = some (.slice C6 C7 C8) := fun W e => by simp [World.cell?, e.blk zC.out]
  have yD_0 : ∀ W, Ext w52 W → W.cell? ⟨g8 + 1, 0, none⟩ = some (.bool D1) := fun W e => by simp [World.cell?, e.blk zD.out]
  have yD_1 : ∀ W, Ext w52 W → W.cell? ⟨g8 + 1, 1, none⟩ = some (.slice D2 D3 D4) := fun W e => by simp [World.cell?, e.blk zD.out]
  have yD_2 : ∀ W, Ext w52 W → W.cell? ⟨g8 + 1, 2, none⟩ = some (.bool D5) := fun W e => by simp [World.cell?, e.blk zD.out]
  have yD_3 : ∀ W, Ext w52 W → W.cell? ⟨g8 + 1, 3, none⟩ = some (.slice D6 D7 D8) := fun W e => by simp [World.cell?, e.blk zD.out]
  have yJ_0 : ∀ W, Ext w52 W → W.cell? ⟨g20, 0, none⟩ = some (.bool J1) := fun W e => by simp [World.cell?, e.blk zJ.out]
  have yJ_1 : ∀ W, Ext w52 W → W.cell? ⟨g20, 1, none⟩ = some (.slice J2 J3 J4) := fun W e => by simp [World.cell?, e.blk zJ.out]
  have yJ_2 : ∀ W, Ext w52 W → W.cell? ⟨g20, 2, none⟩ = some (.bool J5) := fun W e => by simp [World.cell?, e.blk zJ.out]
  have yJ_3 : ∀ W, Ext w52 W → W.cell? ⟨g20, 3, none⟩ = some (.slice J6 J7 J8) := fun W e => by simp [World.cell?, e.blk zJ.out]
  have yK_0 : ∀ W, Ext w52 W → W.cell? ⟨g20 + 1, 0, none⟩ = some (.bool K1) := fun W e => by simp [World.cell?, e.blk zK.out]
  have yK_1 : ∀ W, Ext w52 W → W.cell? ⟨g20 + 1, 1, none⟩ = some (.slice K2 K3 K4) := fun W e => by simp [World.cell?, e.blk zK.out]
  have yK_2 : ∀ W, Ext w52 W → W.cell? ⟨g20 + 1, 2, none⟩ = some (.bool K5) := fun W e => by simp [World.cell?, e.blk zK.out]
  have yK_3 : ∀ W, Ext w52 W → W.cell? ⟨g20 + 1, 3, none⟩ = some (.slice K6 K7 K8) := fun W e => by simp [World.cell?, e.blk zK.out]
  have m0 := mkHid (fun w => whole_f 1 1 w (by omega) (by omega) (by omega) (by omega) (by omega))
  rw [show Rat.divInt 1 1 = 1 by kernel_rfl] at m0
  have s0 := mkHid (fun w v1 v2 h1 h2 => sameFrac_f v1 v2 1 1 w h1 h2)
  rw [decide_eq_true (rfl : (1 : Rat) = 1)] at s0
  have m1 := mkHid (fun w => whole_f 1 1 w (by omega) (by omega) (by omega) (by omega) (by omega))
  rw [show Rat.divInt 1 1 = 1 by kernel_rfl] at m1
  have s1 := mkHid (fun w v1 v2 h1 h2 => sameFrac_f v1 v2 1 1 w h1 h2)
  rw [decide_eq_true (rfl : (1 : Rat) = 1)] at s1
  have m2 := mkHid (fun w => whole_f (-1) 1 w (by omega) (by omega) (by omega) (by omega) (by omega))
  rw [show Rat.divInt (-1) 1 = (-1) by kernel_rfl] at m2
  have s2 := mkHid (fun w v1 v2 h1 h2 => sameFrac_f v1 v2 (-1) (-1) w h1 h2)
  rw [decide_eq_true (rfl : ((-1) : Rat) = (-1))] at s2
  have m3 := mkHid (fun w => whole_f (-1) 2 w (by omega) (by omega) (by omega) (by omega) (by omega))
  rw [show Rat.divInt (-1) 2 = (-1/2) by kernel_rfl] at m3
  have s3 := mkHid (fun w v1 v2 h1 h2 => sameFrac_f v1 v2 (-1/2) (-1/2) w h1 h2)
  rw [decide_eq_true (rfl : ((-1/2) : Rat) = (-1/2))] at s3
  have m4 := mkHid (fun w => whole_f 4097 1 w (by omega) (by omega) (by omega) (by omega) (by omega))
  rw [show Rat.divInt 4097 1 = 4097 by kernel_rfl] at m4
  have s4 := mkHid (fun w v1 v2 h1 h2 => sameFrac_f v1 v2 4097 4097 w h1 h2)
  rw [decide_eq_true (rfl : (4097 : Rat) = 4097)] at s4
  have m5 := mkHid (fun w => whole_f 1 1 w (by omega) (by omega) (by omega) (by omega) (by omega))
  rw [show Rat.divInt 1 1 = 1 by kernel_rfl] at m5
  have s5 := mkHid (fun w v1 v2 h1 h2 => sameFrac_f v1 v2 1 1 w h1 h2)
  rw [decide_eq_true (rfl : (1 : Rat) = 1)] at s5
  have hst : StableAll Ext [.val (.agg #[.bool A1, .slice A2 A3 A4, .bool A5, .slice A6 A7 A8]), .pred (fun W v => AnyF W v (some 1)), .val (.bool true), .val (.bool true), .val (.agg #[.bool B1, .slice B2 B3 B4, .bool B5, .slice B6 B7 B8]), .pred (fun W v => AnyF W v (some 1)), .val (.bool true), .val (.bool true), .val (.bool true), .val (.agg #[.bool C1, .slice C2 C3 C4, .bool C5, .slice C6 C7 C8]), .pred (fun W v => AnyF W v (some (-1))), .val (.bool true), .val (.bool true), .val (.bool true), .val (.agg #[.bool D1, .slice D2 D3 D4, .bool D5, .slice D6 D7 D8]), .pred (fun W v => AnyF W v (some (-1/2))), .val (.bool true), .val (.bool true), .val (.bool true), .val (.agg #[.bool J1, .slice J2 J3 J4, .bool J5, .slice J6 J7 J8]), .pred (fun W v => AnyF W v (some 4097)), .val (.bool true), .val (.bool true), .val (.bool true), .val (.agg #[.bool K1, .slice K2 K3 K4, .bool K5, .slice K6 K7 K8]), .pred (fun W v => AnyF W v (some 1)), .val (.bool true), .val (.bool true)] := by
    iterate 1 (refine stable_vals _ ?_)
    refine st_any _ ?_
    iterate 3 (refine stable_vals _ ?_)
    refine st_any _ ?_
    iterate 4 (refine stable_vals _ ?_)
    refine st_any _ ?_
    iterate 4 (refine stable_vals _ ?_)
    refine st_any _ ?_
    iterate 4 (refine stable_vals _ ?_)
    refine st_any _ ?_
    iterate 4 (refine stable_vals _ ?_)
    refine st_any _ ?_
    iterate 2 (refine stable_vals _ ?_)
    exact trivial
  apply region_ext [.val (.agg #[.bool A1, .slice A2 A3 A4, .bool A5, .slice A6 A7 A8]), .pred (fun W v => AnyF W v (some 1)), .val (.bool true), .val (.bool true), .val (.agg #[.bool B1, .slice B2 B3 B4, .bool B5, .slice B6 B7 B8]), .pred (fun W v => AnyF W v (some 1)), .val (.bool true), .val (.bool true), .val (.bool true), .val (.agg #[.bool C1, .slice C2 C3 C4, .bool C5, .slice C6 C7 C8]), .pred (fun W v => AnyF W v (some (-1))), .val (.bool true), .val (.bool true), .val (.bool true), .val (.agg #[.bool D1, .slice D2 D3 D4, .bool D5, .slice D6 D7 D8]), .pred (fun W v => AnyF W v (some (-1/2))), .val (.bool true), .val (.bool true), .val (.bool true), .val (.agg #[.bool J1, .slice J2 J3 J4, .bool J5, .slice J6 J7 J8]), .pred (fun W v => AnyF W v (some 4097)), .val (.bool true), .val (.bool true), .val (.bool true), .val (.agg #[.bool K1, .slice K2 K3 K4, .bool K5, .slice K6 K7 K8]), .pred (fun W v => AnyF W v (some 1)), .val (.bool true), .val (.bool true)] (by kernel_rfl) hst
  clear hst
  refine ⟨fun W hW _ => by go_simp; first | exact ⟨Ext.refl _, rfl⟩ | exact Ext.refl _ | rfl, ?_⟩
  refine ⟨fun W hW _ => ?a0, fun x0 => ⟨fun W hW hF => ?b0, ?_⟩⟩
  case a0 =>
    go_simp
    refine (m0.out W).mono ?_
    rintro e w' ⟨v, rfl, e1, e2⟩
    exact ⟨v, rfl, e1, e2⟩
  case b0 =>
    have dd : AnyF W x0 (some 1) := hF.1 (by kernel_rfl)
    replace dd := mkHid dd
    clear hF
    go_simp
    refine (s0.out W _ _ (hA.out.ext hW) dd.out).mono ?_
    rintro e w' ⟨rfl, e1⟩
    exact ⟨rfl, e1⟩
  refine ⟨fun W hW _ => by go_simp; first | exact ⟨Ext.refl _, rfl⟩ | exact Ext.refl _ | rfl, ?_⟩
  refine ⟨fun W hW _ => by go_simp; first | exact ⟨Ext.refl _, rfl⟩ | exact Ext.refl _ | rfl, ?_⟩
  refine ⟨fun W hW _ => ?a1, fun x1 => ⟨fun W hW hF => ?b1, ?_⟩⟩
  case a1 =>
    go_simp
    refine (m1.out W).mono ?_
    rintro e w' ⟨v, rfl, e1, e2⟩
    exact ⟨v, rfl, e1, e2⟩
  case b1 =>
    have dd : AnyF W x1 (some 1) := hF.1 (by kernel_rfl)
    replace dd := mkHid dd
    clear hF
    go_simp
    refine (s1.out W _ _ (hB.out.ext hW) dd.out).mono ?_
    rintro e w' ⟨rfl, e1⟩
    exact ⟨rfl, e1⟩
  refine ⟨fun W hW _ => by go_simp; first | exact ⟨Ext.refl _, rfl⟩ | exact Ext.refl _ | rfl, ?_⟩
  refine ⟨fun W hW _ => by go_simp; first | exact ⟨Ext.refl _, rfl⟩ | exact Ext.refl _ | rfl, ?_⟩
  refine ⟨fun W hW _ => by go_simp; first | exact ⟨Ext.refl _, rfl⟩ | exact Ext.refl _ | rfl, ?_⟩
  refine ⟨fun W hW _ => ?a2, fun x2 => ⟨fun W hW hF => ?b2, ?_⟩⟩
  case a2 =>
    go_simp
    refine (m2.out W).mono ?_
    rintro e w' ⟨v, rfl, e1, e2⟩
    exact ⟨v, rfl, e1, e2⟩
  case b2 =>
    have dd : AnyF W x2 (some (-1)) := hF.1 (by kernel_rfl)
    replace dd := mkHid dd
    clear hF
    go_simp
    refine (s2.out W _ _ (hC.out.ext hW) dd.out).mono ?_
    rintro e w' ⟨rfl, e1⟩
    exact ⟨rfl, e1⟩
  refine ⟨fun W hW _ => by go_simp; first | exact ⟨Ext.refl _, rfl⟩ | exact Ext.refl _ | rfl, ?_⟩
  refine ⟨fun W hW _ => by go_simp; first | exact ⟨Ext.refl _, rfl⟩ | exact Ext.refl _ | rfl, ?_⟩
  refine ⟨fun W hW _ => by go_simp; first | exact ⟨Ext.refl _, rfl⟩ | exact Ext.refl _ | rfl, ?_⟩
  refine ⟨fun W hW _ => ?a3, fun x3 => ⟨fun W hW hF => ?b3, ?_⟩⟩
  case a3 =>
    go_simp
    refine (m3.out W).mono ?_
    rintro e w' ⟨v, rfl, e1, e2⟩
    exact ⟨v, rfl, e1, e2⟩
  case b3 =>
    have dd : AnyF W x3 (some (-1/2)) := hF.1 (by kernel_rfl)
    replace dd := mkHid dd
    clear hF
    go_simp
    refine (s3.out W _ _ (hD.out.ext hW) dd.out).mono ?_
    rintro e w' ⟨rfl, e1⟩
    exact ⟨rfl, e1⟩
  refine ⟨fun W hW _ => by go_simp; first | exact ⟨Ext.refl _, rfl⟩ | exact Ext.refl _ | rfl, ?_⟩
  refine ⟨fun W hW _ => by go_simp; first | exact ⟨Ext.refl _, rfl⟩ | exact Ext.refl _ | rfl, ?_⟩
  refine ⟨fun W hW _ => by go_simp; first | exact ⟨Ext.refl _, rfl⟩ | exact Ext.refl _ | rfl, ?_⟩
  refine ⟨fun W hW _ => ?a4, fun x4 => ⟨fun W hW hF => ?b4, ?_⟩⟩
  case a4 =>
    go_simp
    refine (m4.out W).mono ?_
    rintro e w' ⟨v, rfl, e1, e2⟩
    exact ⟨v, rfl, e1, e2⟩
  case b4 =>
    have dd : AnyF W x4 (some 4097) := hF.1 (by kernel_rfl)
    replace dd := mkHid dd
    clear hF
    go_simp
    refine (s4.out W _ _ (hJ.out.ext hW) dd.out).mono ?_
    rintro e w' ⟨rfl, e1⟩
    exact ⟨rfl, e1⟩
  refine ⟨fun W hW _ => by go_simp; first | exact ⟨Ext.refl _, rfl⟩ | exact Ext.refl _ | rfl, ?_⟩
  refine ⟨fun W hW _ => by go_simp; first | exact ⟨Ext.refl _, rfl⟩ | exact Ext.refl _ | rfl, ?_⟩
  refine ⟨fun W hW _ => by go_simp; first | exact ⟨Ext.refl _, rfl⟩ | exact Ext.refl _ | rfl, ?_⟩
  refine ⟨fun W hW _ => ?a5, fun x5 => ⟨fun W hW hF => ?b5, ?_⟩⟩
  case a5 =>
    go_simp
    refine (m5.out W).mono ?_
    rintro e w' ⟨v, rfl, e1, e2⟩
    exact ⟨v, rfl, e1, e2⟩
  case b5 =>
    have dd : AnyF W x5 (some 1) := hF.1 (by kernel_rfl)
    replace dd := mkHid dd
    clear hF
    go_simp
    refine (s5.out W _ _ (hK.out.ext hW) dd.out).mono ?_
    rintro e w' ⟨rfl, e1⟩
    exact ⟨rfl, e1⟩
  refine ⟨fun W hW _ => by go_simp; first | exact ⟨Ext.refl _, rfl⟩ | exact Ext.refl _ | rfl, ?_⟩
  intro W18 hW _
  clear yA_0 yA_1 yA_2 yA_3 yB_0 yB_1 yB_2 yB_3 yC_0 yC_1 yC_2 yC_3 yD_0 yD_1 yD_2 yD_3 yJ_0 yJ_1 yJ_2 yJ_3 yK_0 yK_1 yK_2 yK_3
  clear m0 s0 m1 s1 m2 s2 m3 s3 m4 s4 m5 s5
  clear zA hA zB hB zC hC zD hD zJ hJ zK hK
  replace hE := mkHid (hE.out.trans hW)
  replace mp := mkHid (mp.out.ext hW)
  replace zmp := mkHid (hW.blk zmp.out)
  replace mq := mkHid (mq.out.ext hW)
  replace zmq := mkHid (hW.blk zmq.out)
  clear hW
  go_simp
  go_wp2_with fail
  have n0 := mkHid (fun w => matrix_f 1 5 0 1 w (by omega) (by omega) (by omega) (by omega) (by omega) (by omega) (by omega) (by omega))
  rw [show Rat.divInt 0 1 = 0 by kernel_rfl] at n0
  rw [show Rat.divInt 1 1 = 1 by kernel_rfl] at n0
  rw [show Rat.divInt 5 1 = 5 by kernel_rfl] at n0
  have t0 := mkHid (fun w v1 v2 h1 h2 => sameMatrix_f v1 v2 1 5 0 1 1 5 0 1 w h1 h2)
  rw [decide_eq_true (show (1 : Rat) = 1 ∧ (5 : Rat) = 5 ∧ (0 : Rat) = 0 ∧ (1 : Rat) = 1 from ⟨rfl, rfl, rfl, rfl⟩)] at t0
  have n1 := mkHid (fun w => matrix_f 1 0 0 1 w (by omega) (by omega) (by omega) (by omega) (by omega) (by omega) (by omega) (by omega))
  rw [show Rat.divInt 0 1 = 0 by kernel_rfl] at n1
  rw [show Rat.divInt 1 1 = 1 by kernel_rfl] at n1
  have t1 := mkHid (fun w v1 v2 h1 h2 => sameMatrix_f v1 v2 1 0 0 1 1 0 0 1 w h1 h2)
  rw [decide_eq_true (show (1 : Rat) = 1 ∧ (0 : Rat) = 0 ∧ (0 : Rat) = 0 ∧ (1 : Rat) = 1 from ⟨rfl, rfl, rfl, rfl⟩)] at t1
  have hst : StableAll Ext [.val (.agg #[.bool P1, .slice P2 P3 P4, .bool P5, .slice P6 P7 P8, .bool Q1, .slice Q2 Q3 Q4, .bool Q5, .slice Q6 Q7 Q8, .bool S1, .slice S2 S3 S4, .bool S5, .slice S6 S7 S8, .bool T1, .slice T2 T3 T4, .bool T5, .slice T6 T7 T8]), .pred (fun W v => AnyM W v (some 1) (some 5) (some 0) (some 1)), .val (.bool true), .val (.bool true), .val (.agg #[.bool U1, .slice U2 U3 U4, .bool U5, .slice U6 U7 U8, .bool V1, .slice V2 V3 V4, .bool V5, .slice V6 V7 V8, .bool X1, .slice X2 X3 X4, .bool X5, .slice X6 X7 X8, .bool Y1, .slice Y2 Y3 Y4, .bool Y5, .slice Y6 Y7 Y8]), .pred (fun W v => AnyM W v (some 1) (some 0) (some 0) (some 1)), .val (.bool true), .val (.bool true), .val (.bool true), .val (.int .i64 1), .val (.bool true), .val (.bool true), .val (.bool true), .val (.int .i64 2), .val (.bool true), .val (.bool true), .val (.bool true), .val (.int .i64 3), .val (.bool true), .val (.bool true), .val (.bool true), .val (.int .i64 6), .val (.bool true), .val (.bool true), .val (.bool true), .val (.int .i64 0), .val (.bool true), .val (.bool true), .val (.bool true), .val (.int .i64 1), .val (.bool true), .val (.bool true), .val (.bool true), .val (.int .i64 0), .val (.bool true), .val (.bool true), .val (.bool true), .val (.int .i64 2), .val (.bool true), .val (.bool true)] := by
    iterate 1 (refine stable_vals _ ?_)
    refine st_anyM _ _ _ _ ?_
    iterate 3 (refine stable_vals _ ?_)
    refine st_anyM _ _ _ _ ?_
    iterate 34 (refine stable_vals _ ?_)
    exact trivial
  apply region_ext [.val (.agg #[.bool P1, .slice P2 P3 P4, .bool P5, .slice P6 P7 P8, .bool Q1, .slice Q2 Q3 Q4, .bool Q5, .slice Q6 Q7 Q8, .bool S1, .slice S2 S3 S4, .bool S5, .slice S6 S7 S8, .bool T1, .slice T2 T3 T4, .bool T5, .slice T6 T7 T8]), .pred (fun W v => AnyM W v (some 1) (some 5) (some 0) (some 1)), .val (.bool true), .val (.bool true), .val (.agg #[.bool U1, .slice U2 U3 U4, .bool U5, .slice U6 U7 U8, .bool V1, .slice V2 V3 V4, .bool V5, .slice V6 V7 V8, .bool X1, .slice X2 X3 X4, .bool X5, .slice X6 X7 X8, .bool Y1, .slice Y2 Y3 Y4, .bool Y5, .slice Y6 Y7 Y8]), .pred (fun W v => AnyM W v (some 1) (some 0) (some 0) (some 1)), .val (.bool true), .val (.bool true), .val (.bool true), .val (.int .i64 1), .val (.bool true), .val (.bool true), .val (.bool true), .val (.int .i64 2), .val (.bool true), .val (.bool true), .val (.bool true), .val (.int .i64 3), .val (.bool true), .val (.bool true), .val (.bool true), .val (.int .i64 6), .val (.bool true), .val (.bool true), .val (.bool true), .val (.int .i64 0), .val (.bool true), .val (.bool true), .val (.bool true), .val (.int .i64 1), .val (.bool true), .val (.bool true), .val (.bool true), .val (.int .i64 0), .val (.bool true), .val (.bool true), .val (.bool true), .val (.int .i64 2), .val (.bool true), .val (.bool true)] (by kernel_rfl) hst
  clear hst
  refine ⟨fun W hW _ => fr_load rfl 40 (.tmp 16) rfl (g24) rfl 40 #[.bool P1, .slice P2 P3 P4, .bool P5, .slice P6 P7 P8, .bool Q1, .slice Q2 Q3 Q4, .bool Q5, .slice Q6 Q7 Q8, .bool S1, .slice S2 S3 S4, .bool S5, .slice S6 S7 S8, .bool T1, .slice T2 T3 T4, .bool T5, .slice T6 T7 T8] (0, 0) _ (hW.blk zmp.out) Try.underlying40 rfl (by kernel_rfl) ⟨Ext.refl _, rfl⟩, ?_⟩
  refine ⟨fun W hW _ => ?a0, fun x0 => ⟨fun W hW hF => ?b0, ?_⟩⟩
  case a0 =>
    go_simp
    refine (n0.out W).mono ?_
    rintro e w' ⟨v, rfl, e1, e2⟩
    exact ⟨v, rfl, e1, e2⟩
  case b0 =>
    have dd : AnyM W x0 (some 1) (some 5) (some 0) (some 1) := hF.1 (by kernel_rfl)
    replace dd := mkHid dd
    clear hF
    go_simp
    refine (t0.out W _ _ (mp.out.ext hW) dd.out).mono ?_
    rintro e w' ⟨rfl, e1⟩
    exact ⟨rfl, e1⟩
  refine ⟨fun W hW _ => by go_simp; first | exact ⟨Ext.refl _, rfl⟩ | exact Ext.refl _ | rfl, ?_⟩
  refine ⟨fun W hW _ => fr_load rfl 40 (.tmp 18) rfl (g28) rfl 40 #[.bool U1, .slice U2 U3 U4, .bool U5, .slice U6 U7 U8, .bool V1, .slice V2 V3 V4, .bool V5, .slice V6 V7 V8, .bool X1, .slice X2 X3 X4, .bool X5, .slice X6 X7 X8, .bool Y1, .slice Y2 Y3 Y4, .bool Y5, .slice Y6 Y7 Y8] (0, 0) _ (hW.blk zmq.out) Try.underlying40 rfl (by kernel_rfl) ⟨Ext.refl _, rfl⟩, ?_⟩
  refine ⟨fun W hW _ => ?a1, fun x1 => ⟨fun W hW hF => ?b1, ?_⟩⟩
  case a1 =>
    go_simp
    refine (n1.out W).mono ?_
    rintro e w' ⟨v, rfl, e1, e2⟩
    exact ⟨v, rfl, e1, e2⟩
  case b1 =>
    have dd : AnyM W x1 (some 1) (some 0) (some 0) (some 1) := hF.1 (by kernel_rfl)
    replace dd := mkHid dd
    clear hF
    go_simp
    refine (t1.out W _ _ (mq.out.ext hW) dd.out).mono ?_
    rintro e w' ⟨rfl, e1⟩
    exact ⟨rfl, e1⟩
  refine ⟨fun W hW _ => by go_simp; first | exact ⟨Ext.refl _, rfl⟩ | exact Ext.refl _ | rfl, ?_⟩
  refine ⟨fun W hW _ => by go_simp; first | exact ⟨Ext.refl _, rfl⟩ | exact Ext.refl _ | rfl, ?_⟩
  refine ⟨fun W hW _ => by go_simp; first | exact ⟨Ext.refl _, rfl⟩ | exact Ext.refl _ | rfl, ?_⟩
  refine ⟨fun W hW _ => by go_simp; first | exact ⟨Ext.refl _, rfl⟩ | exact Ext.refl _ | rfl, ?_⟩
  refine ⟨fun W hW _ => by go_simp; first | exact ⟨Ext.refl _, rfl⟩ | exact Ext.refl _ | rfl, ?_⟩
  refine ⟨fun W hW _ => by go_simp; first | exact ⟨Ext.refl _, rfl⟩ | exact Ext.refl _ | rfl, ?_⟩
  refine ⟨fun W hW _ => by go_simp; first | exact ⟨Ext.refl _, rfl⟩ | exact Ext.refl _ | rfl, ?_⟩
  refine ⟨fun W hW _ => by go_simp; first | exact ⟨Ext.refl _, rfl⟩ | exact Ext.refl _ | rfl, ?_⟩
  refine ⟨fun W hW _ => by go_simp; first | exact ⟨Ext.refl _, rfl⟩ | exact Ext.refl _ | rfl, ?_⟩
  refine ⟨fun W hW _ => by go_simp; first | exact ⟨Ext.refl _, rfl⟩ | exact Ext.refl _ | rfl, ?_⟩
  refine ⟨fun W hW _ => by go_simp; first | exact ⟨Ext.refl _, rfl⟩ | exact Ext.refl _ | rfl, ?_⟩
  refine ⟨fun W hW _ => by go_simp; first | exact ⟨Ext.refl _, rfl⟩ | exact Ext.refl _ | rfl, ?_⟩
  refine ⟨fun W hW _ => by go_simp; first | exact ⟨Ext.refl _, rfl⟩ | exact Ext.refl _ | rfl, ?_⟩
  refine ⟨fun W hW _ => by go_simp; first | exact ⟨Ext.refl _, rfl⟩ | exact Ext.refl _ | rfl, ?_⟩
  refine ⟨fun W hW _ => by go_simp; first | exact ⟨Ext.refl _, rfl⟩ | exact Ext.refl _ | rfl, ?_⟩
  refine ⟨fun W hW _ => by go_simp; first | exact ⟨Ext.refl _, rfl⟩ | exact Ext.refl _ | rfl, ?_⟩
  refine ⟨fun W hW _ => by go_simp; first | exact ⟨Ext.refl _, rfl⟩ | exact Ext.refl _ | rfl, ?_⟩
  refine ⟨fun W hW _ => by go_simp; first | exact ⟨Ext.refl _, rfl⟩ | exact Ext.refl _ | rfl, ?_⟩
  refine ⟨fun W hW _ => by go_simp; first | exact ⟨Ext.refl _, rfl⟩ | exact Ext.refl _ | rfl, ?_⟩
  refine ⟨fun W hW _ => by go_simp; first | exact ⟨Ext.refl _, rfl⟩ | exact Ext.refl _ | rfl, ?_⟩
  refine ⟨fun W hW _ => by go_simp; first | exact ⟨Ext.refl _, rfl⟩ | exact Ext.refl _ | rfl, ?_⟩
  refine ⟨fun W hW _ => by go_simp; first | exact ⟨Ext.refl _, rfl⟩ | exact Ext.refl _ | rfl, ?_⟩
  refine ⟨fun W hW _ => by go_simp; first | exact ⟨Ext.refl _, rfl⟩ | exact Ext.refl _ | rfl, ?_⟩
  refine ⟨fun W hW _ => by go_simp; first | exact ⟨Ext.refl _, rfl⟩ | exact Ext.refl _ | rfl, ?_⟩
  refine ⟨fun W hW _ => by go_simp; first | exact ⟨Ext.refl _, rfl⟩ | exact Ext.refl _ | rfl, ?_⟩
  refine ⟨fun W hW _ => by go_simp; first | exact ⟨Ext.refl _, rfl⟩ | exact Ext.refl _ | rfl, ?_⟩
  refine ⟨fun W hW _ => by go_simp; first | exact ⟨Ext.refl _, rfl⟩ | exact Ext.refl _ | rfl, ?_⟩
  refine ⟨fun W hW _ => by go_simp; first | exact ⟨Ext.refl _, rfl⟩ | exact Ext.refl _ | rfl, ?_⟩
  refine ⟨fun W hW _ => by go_simp; first | exact ⟨Ext.refl _, rfl⟩ | exact Ext.refl _ | rfl, ?_⟩
  refine ⟨fun W hW _ => by go_simp; first | exact ⟨Ext.refl _, rfl⟩ | exact Ext.refl _ | rfl, ?_⟩
  refine ⟨fun W hW _ => by go_simp; first | exact ⟨Ext.refl _, rfl⟩ | exact Ext.refl _ | rfl, ?_⟩
  refine ⟨fun W hW _ => by go_simp; first | exact ⟨Ext.refl _, rfl⟩ | exact Ext.refl _ | rfl, ?_⟩
  refine ⟨fun W hW _ => by go_simp; first | exact ⟨Ext.refl _, rfl⟩ | exact Ext.refl _ | rfl, ?_⟩
  intro W19 hW _
  clear n0 n1 t0 t1
  clear zmp zmq mp mq
  replace hE := mkHid (hE.out.trans hW)
  clear hW
  go_simp
  go_wp2_with fail
  refine (kl.out _).mono ?_
  rintro e w53 ⟨rfl, hx⟩
  replace hE := mkHid (hE.out.trans hx)
  clear hx
  go_wp2_with fail
  go_ret
  exact ⟨rfl, hE.out⟩
end Go.Proofs.Ytpmfohhpaoagfaa
