/-
  PeriodPell, walked: printed by tools/gen_pell.py.
-/
import Derived.Test.YtpmfohhpaoagfaaMM
import Derived.Test.YtpmfohhpaoagfaaMK
namespace Go.Proofs.Ytpmfohhpaoagfaa
open Go Go.RowKit Go.Proofs
/-- A value of api.Frac with limbs of whatever number. -/
def RawF (w : World) (v : Value) : Prop :=
  ∃ b1 a1 c1 b2 a2 c2, ∃ l1 l2 : List Nat, v = .agg #[.bool b1, .slice a1 l1.length c1, .bool b2, .slice a2 l2.length c2] ∧ l1.length ≤ 140737488355328 ∧ l2.length ≤ 140737488355328 ∧
    AnyR w (.agg #[.bool b1, .slice a1 l1.length c1]) b1 l1 ∧ AnyR w (.agg #[.bool b2, .slice a2 l2.length c2]) b2 l2
theorem RawF.opened {w : World} {v : Value} (h : RawF w v) : ∃ b1 a1 n1 c1 b2 a2 n2 c2, v = .agg #[.bool b1, .slice a1 n1 c1, .bool b2, .slice a2 n2 c2] ∧ n1 ≤ 140737488355328 ∧ n2 ≤ 140737488355328 ∧
    (n1 ≤ 4294967296 → n2 ≤ 4294967296 → ∃ o, AnyF w (.agg #[.bool b1, .slice a1 n1 c1, .bool b2, .slice a2 n2 c2]) o) := by
  obtain ⟨b1, a1, c1, b2, a2, c2, l1, l2, h0, h1, h2, h3, h4⟩ := h
  exact ⟨b1, a1, _, c1, b2, a2, _, c2, h0, h1, h2, fun g1 g2 => ⟨_, b1, l1, b2, l2, ⟨a1, c1, a2, c2, rfl, g1, g2, h3, h4⟩, rfl⟩⟩
theorem lf_one {w : World} {g : Nat} {b1 b2 : Bool} {a1 a2 : Option Addr} {n1 c1 n2 c2 : Nat} {o : Option Rat} {T : Nat} (hg : w.heap[g]? = some (.cells #[.bool b1, .slice a1 n1 c1, .bool b2, .slice a2 n2 c2] T (0, 0)))
    (h : AnyF w (.agg #[.bool b1, .slice a1 n1 c1, .bool b2, .slice a2 n2 c2]) o) : LF w g [o] := by
  intro k hk
  obtain rfl : k = 0 := by simpa using hk
  have := row4_cells hg
  exact ⟨_, _, _, _, _, _, _, _, this.1, this.2.1, this.2.2.1, this.2.2.2, h⟩
theorem fst_any {ss : List Fresh.FSpec} (o : Option Rat) (h : Fresh.StableAll Ext ss) : Fresh.StableAll Ext (.pred (fun W v => AnyF W v o) :: ss) := ⟨fun _ _ _ e h => AnyF.ext h e, h⟩
theorem fst_pair {ss : List Fresh.FSpec} (o : Option Rat) (c : Int) (h : Fresh.StableAll Ext ss) : Fresh.StableAll Ext (.pred (PairF o c) :: ss) := ⟨fun _ _ _ e h => by obtain ⟨x, h1, h2⟩ := h; exact ⟨x, h1, h2.ext e⟩, h⟩
theorem st_var {ss : List FSpec} (b : Nat) (cs : Array Value) (T : TypeId) (h : StableAll Ext ss) : StableAll Ext (.pred (VarAt b cs T) :: ss) := ⟨fun _ _ _ e h => VarAt.ext h e, h⟩
theorem whole_one : Rat.divInt 1 1 = 1 := by kernel_rfl
/-- What Pell's law rests on: where nothing is refused, the difference is one. -/
theorem pell_plain {n : Int} {o : Option Rat} (hn : 1 ≤ n) (e1 : chE n o = 0) (e2 : chE (n - 1) o = 0) (e3 : opE (fun x y => x * y) (chT n o) (chT n o) = 0) (e4 : opE (fun x y => x * y) (chU (n - 1) o) (chU (n - 1) o) = 0)
    (e5 : opE (fun x y => x * y) o o = 0) (e6 : opE (fun x y => x - y) (opO (fun x y => x * y) o o) (some 1) = 0) (e7 : opE (fun x y => x * y) (opO (fun x y => x - y) (opO (fun x y => x * y) o o) (some 1)) (opO (fun x y => x * y) (chU (n - 1) o) (chU (n - 1) o)) = 0)
    (e8 : opE (fun x y => x - y) (opO (fun x y => x * y) (chT n o) (chT n o)) (opO (fun x y => x * y) (opO (fun x y => x - y) (opO (fun x y => x * y) o o) (some 1)) (opO (fun x y => x * y) (chU (n - 1) o) (chU (n - 1) o))) = 0) :
    opO (fun x y => x - y) (opO (fun x y => x * y) (chT n o) (chT n o)) (opO (fun x y => x * y) (opO (fun x y => x - y) (opO (fun x y => x * y) o o) (some 1)) (opO (fun x y => x * y) (chU (n - 1) o) (chU (n - 1) o))) = some 1 := by
  obtain ⟨x, rfl, _, _, _, h1⟩ := chE_ok e1
  obtain ⟨x', hx', _, _, h2, _⟩ := chE_ok e2
  cases hx'
  rw [h1] at e3 e8 ⊢
  rw [h2] at e4 e7 e8 ⊢
  obtain ⟨_, _, q1, q2, h3⟩ := opE_ok e3
  cases q1
  cases q2
  obtain ⟨_, _, q1, q2, h4⟩ := opE_ok e4
  cases q1
  cases q2
  obtain ⟨_, _, q1, q2, h5⟩ := opE_ok e5
  cases q1
  cases q2
  rw [h5] at e6 e7 e8 ⊢
  obtain ⟨_, _, q1, q2, h6⟩ := opE_ok e6
  cases q1
  cases q2
  rw [h3] at e8 ⊢
  rw [h4, h6] at e7 e8 ⊢
  obtain ⟨_, _, q1, q2, h7⟩ := opE_ok e7
  cases q1
  cases q2
  rw [h7] at e8 ⊢
  obtain ⟨_, _, q1, q2, h8⟩ := opE_ok e8
  cases q1
  cases q2
  rw [h8]
  obtain ⟨k, rfl⟩ : ∃ k : Nat, n = ((k + 1 : Nat) : Int) := ⟨(n - 1).toNat, by omega⟩
  have hp := cheb_pell x k
  rw [show ((k + 1 : Nat) : Int).toNat = k + 1 by omega, show (((k + 1 : Nat) : Int) - 1).toNat = k by omega]
  rw [hp]
theorem pell_plain2 {n m NM : Int} {o : Option Rat} (hn : 0 ≤ n) (hm : 0 ≤ m) (hNM : n * m = NM) (e1 : chE n o = 0) (e9 : chE NM o = 0) (e10 : chE m (chT n o) = 0) : ∃ y, chT NM o = some y ∧ chT m (chT n o) = some y := by
  obtain ⟨x, rfl, _, _, _, h1⟩ := chE_ok e1
  obtain ⟨x', hx', _, _, _, h2⟩ := chE_ok e9
  cases hx'
  rw [h1] at e10 ⊢
  obtain ⟨x', hx', _, _, _, h3⟩ := chE_ok e10
  cases hx'
  refine ⟨_, h2, ?_⟩
  rw [h3]
  obtain ⟨a, rfl⟩ := Int.eq_ofNat_of_zero_le hn
  obtain ⟨b, rfl⟩ := Int.eq_ofNat_of_zero_le hm
  have e : NM.toNat = a * b := by
    rw [← hNM, ← Int.natCast_mul]
    rfl
  have := (chebT_mul x a b).1
  rw [e]
  show some (chebT b (chebT a x)) = _
  rw [this]
set_option maxRecDepth 100000 in
set_option maxHeartbeats 12800000 in
theorem pell_c (n m : Int) (v : Value) (w : World) (n0 : -9223372036854775808 ≤ n) (n1 : n ≤ 9223372036854775807) (h : RawF w v) :
    Calls Try.prog 3 #[.int .i64 n, .int .i64 m, v] w fun e w' => e = .returned (.bool true) ∧ Ext w w' := by
  obtain ⟨X1, X2, X3, X4, X5, X6, X7, X8, rfl, l1, l2, hF⟩ := h.opened
  have kl := mkHid lives_c
  have kc := mkHid (fun w => fracCost_c X1 X5 X2 X6 X3 X4 X7 X8 w l1 l2)
  obtain ⟨cb1, cb2, cb3, cb4⟩ := costV_b X3 X7 l1 l2
  generalize costV X3 X7 = C at *
  have kb := mkHid (fun g w h => beyond1_c g 1 C w cb1 (by omega) h)
  replace hF := mkHid hF
  replace cb3 := mkHid cb3
  replace cb4 := mkHid cb4
  clear h l1 l2 cb1 cb2
  go_enter Try.func3, Try.ntmps3
  have hE := mkHid (Ext.refl w)
  obtain ⟨w1, hw1⟩ : ∃ w1, w1 = w.alloc (.cells #[.bool X1, .slice X2 X3 X4, .bool X5, .slice X6 X7 X8] 26) := ⟨_, rfl⟩
  have hx : Ext w w1 := by rw [hw1]; exact ((Ext.refl w).al _)
  have zX : w1.heap[w.heap.size]? = some (.cells #[.bool X1, .slice X2 X3 X4, .bool X5, .slice X6 X7 X8] 26 (0, 0)) := by rw [hw1]; exact heap_at _ _ _ (by simp)
  obtain ⟨g2, hg2⟩ : ∃ g2, g2 = w.heap.size := ⟨_, rfl⟩
  rw [← hg2] at zX
  go_wp2_with fail
  rw [← hg2, ← hw1]
  clear hg2 hw1
  replace hE := mkHid (hE.out.trans hx)
  clear hx
  replace zX := mkHid zX
  refine (kc.out _).mono ?_
  rintro e w3 ⟨rfl, hx⟩
  replace hE := mkHid (hE.out.trans hx)
  replace zX := mkHid (hx.blk zX.out)
  clear hx
  clear kc
  obtain ⟨w4, hw4⟩ : ∃ w4, w4 = w3.alloc (.cells #[.int .i64 C] 3) := ⟨_, rfl⟩
  have hx : Ext w3 w4 := by rw [hw4]; exact ((Ext.refl w3).al _)
  have zS : w4.heap[w3.heap.size]? = some (.cells #[.int .i64 C] 3 (0, 0)) := by rw [hw4]; exact heap_at _ _ _ (by simp)
  obtain ⟨g5, hg5⟩ : ∃ g5, g5 = w3.heap.size := ⟨_, rfl⟩
  rw [← hg5] at zS
  go_wp2_with fail
  rw [← hg5, ← hw4]
  clear hg5 hw4
  replace hE := mkHid (hE.out.trans hx)
  replace zX := mkHid (hx.blk zX.out)
  clear hx
  replace zS := mkHid zS
  refine (kb.out _ _ (by simp [World.cell?, zS.out])).mono ?_
  rintro e w6 ⟨vb, rfl, hx, r, rfl, hr⟩
  replace hE := mkHid (hE.out.trans hx)
  replace zX := mkHid (hx.blk zX.out)
  replace zS := mkHid (hx.blk zS.out)
  clear hx
  clear zS
  clear kb
  cases r with
  | true =>
    go_wp2_with fail
    refine (kl.out _).mono ?_
    rintro e wl ⟨rfl, hl⟩
    go_wp2_with fail
    go_ret
    exact ⟨rfl, hE.out.trans hl⟩
  | false =>
    obtain ⟨o, ho⟩ := hF.out (by have := hr rfl; have := cb3.out; omega) (by have := hr rfl; have := cb4.out; omega)
    clear hF hr cb3 cb4
    replace ho := mkHid (ho.ext hE.out)
    by_cases c0 : n < 1
    · go_wp2_with fail
      refine (kl.out _).mono ?_
      rintro e wl ⟨rfl, hl⟩
      go_wp2_with fail
      go_ret
      exact ⟨rfl, hE.out.trans hl⟩
    · by_cases c1 : m < 0
      · go_wp2_with fail
        refine (kl.out _).mono ?_
        rintro e wl ⟨rfl, hl⟩
        go_wp2_with fail
        go_ret
        exact ⟨rfl, hE.out.trans hl⟩
      · by_cases c2 : 200 < n
        · go_wp2_with fail
          refine (kl.out _).mono ?_
          rintro e wl ⟨rfl, hl⟩
          go_wp2_with fail
          go_ret
          exact ⟨rfl, hE.out.trans hl⟩
        · by_cases c3 : 20 < m
          · go_wp2_with fail
            refine (kl.out _).mono ?_
            rintro e wl ⟨rfl, hl⟩
            go_wp2_with fail
            go_ret
            exact ⟨rfl, hE.out.trans hl⟩
          · have yX_0 : w6.cell? ⟨g2, 0, none⟩ = some (.bool X1) := by simp [World.cell?, zX.out]
            have yX_1 : w6.cell? ⟨g2, 1, none⟩ = some (.slice X2 X3 X4) := by simp [World.cell?, zX.out]
            have yX_2 : w6.cell? ⟨g2, 2, none⟩ = some (.bool X5) := by simp [World.cell?, zX.out]
            have yX_3 : w6.cell? ⟨g2, 3, none⟩ = some (.slice X6 X7 X8) := by simp [World.cell?, zX.out]
            go_wp2_with fail
            clear yX_0 yX_1 yX_2 yX_3
            have hs := (Ext.refl w6).al (.cells #[.bool X1, .slice X2 X3 X4, .bool X5, .slice X6 X7 X8] 26)
            refine (trips_c _ _ 1 o _ (lf_one (heap_alloc_new w6 _) (ho.out.ext hs))).mono ?_
            rintro e w7 ⟨vb, rfl, hx, r, rfl⟩
            replace hx := hs.trans hx
            clear hs
            replace hE := mkHid (hE.out.trans hx)
            replace zX := mkHid (hx.blk zX.out)
            replace ho := mkHid (ho.out.ext hx)
            clear hx
            cases r with
            | true =>
              go_wp2_with fail
              refine (kl.out _).mono ?_
              rintro e wl ⟨rfl, hl⟩
              go_wp2_with fail
              go_ret
              exact ⟨rfl, hE.out.trans hl⟩
            | false =>
              have hm2 : 0 ≤ m ∧ m ≤ 20 := by omega
              have hn2 : 1 ≤ n ∧ n ≤ 200 := by omega
              clear c0 c1 c2 c3 n0 n1
              obtain ⟨n0, n1⟩ := hn2
              obtain ⟨m0, m1⟩ := hm2
              obtain ⟨NM, hNM⟩ : ∃ NM, n * m = NM := ⟨_, rfl⟩
              have hb1 : 0 ≤ NM := by rw [← hNM]; exact Int.mul_nonneg (by omega) m0
              have hb2 : NM ≤ 4000 := by rw [← hNM]; exact Int.mul_le_mul n1 m1 m0 (by omega)
              have hfin := @pell_plain n o n0
              have hfin2 := @pell_plain2 n m NM o (by omega) m0 hNM
              have k1 := mkHid (fun W h => cheb_c n (.agg #[.bool X1, .slice X2 X3 X4, .bool X5, .slice X6 X7 X8]) o W h)
              have k2 := mkHid (fun W h => cheb_c (n - 1) (.agg #[.bool X1, .slice X2 X3 X4, .bool X5, .slice X6 X7 X8]) o W h)
              have k9 := mkHid (fun W h => cheb_c NM (.agg #[.bool X1, .slice X2 X3 X4, .bool X5, .slice X6 X7 X8]) o W h)
              generalize chE n o = E1 at *
              generalize chU n o = O1 at *
              generalize hT : chT n o = OT at *
              generalize chE (n - 1) o = E2 at *
              generalize chU (n - 1) o = OU at *
              generalize chT (n - 1) o = O2 at *
              generalize chE NM o = E9 at *
              generalize chU NM o = O9 at *
              generalize chT NM o = OP at *
              have k3 := mkHid (fun W v h => mul_o v v OT OT W h h)
              have k4 := mkHid (fun W v h => mul_o v v OU OU W h h)
              have k5 := mkHid (fun W h => mul_o (.agg #[.bool X1, .slice X2 X3 X4, .bool X5, .slice X6 X7 X8]) (.agg #[.bool X1, .slice X2 X3 X4, .bool X5, .slice X6 X7 X8]) o o W h h)
              generalize opE (fun x y => x * y) OT OT = E3 at *
              generalize opO (fun x y => x * y) OT OT = OA at *
              generalize opE (fun x y => x * y) OU OU = E4 at *
              generalize opO (fun x y => x * y) OU OU = OB at *
              generalize opE (fun x y => x * y) o o = E5 at *
              generalize opO (fun x y => x * y) o o = OC at *
              have k6 := mkHid (fun W v v' h h' => sub_o v v' OC (some 1) W h h')
              generalize opE (fun x y => x - y) OC (some 1) = E6 at *
              generalize opO (fun x y => x - y) OC (some 1) = OD at *
              have k7 := mkHid (fun W v v' h h' => mul_o v v' OD OB W h h')
              generalize opE (fun x y => x * y) OD OB = E7 at *
              generalize opO (fun x y => x * y) OD OB = OK at *
              have k8 := mkHid (fun W v v' h h' => sub_o v v' OA OK W h h')
              generalize opE (fun x y => x - y) OA OK = E8 at *
              generalize opO (fun x y => x - y) OA OK = OS at *
              have k10 := mkHid (fun W v h => cheb_c m v OT W h)
              generalize chE m OT = E10 at *
              generalize chU m OT = O10 at *
              generalize chT m OT = OQ at *
              have kw := mkHid (fun w => whole_f 1 1 w (by omega) (by omega) (by omega) (by omega) (by omega))
              rw [whole_one] at kw
              replace hfin := mkHid hfin
              replace hfin2 := mkHid hfin2
              clear hT
              have yX_0 : w7.cell? ⟨g2, 0, none⟩ = some (.bool X1) := by simp [World.cell?, zX.out]
              have yX_1 : w7.cell? ⟨g2, 1, none⟩ = some (.slice X2 X3 X4) := by simp [World.cell?, zX.out]
              have yX_2 : w7.cell? ⟨g2, 2, none⟩ = some (.bool X5) := by simp [World.cell?, zX.out]
              have yX_3 : w7.cell? ⟨g2, 3, none⟩ = some (.slice X6 X7 X8) := by simp [World.cell?, zX.out]
              go_wp2_with fail
              refine (k1.out _ ho.out).mono ?_
              rintro e w8 ⟨v1, v2, rfl, hx, hU1, hT⟩
              clear yX_0 yX_1 yX_2 yX_3
              replace hE := mkHid (hE.out.trans hx)
              replace zX := mkHid (hx.blk zX.out)
              replace ho := mkHid (ho.out.ext hx)
              clear hx
              replace hU1 := mkHid hU1
              replace hT := mkHid hT
              clear k1
              obtain ⟨A1, A2, A3, A4, A5, A6, A7, A8, rfl⟩ := hU1.out.shape
              obtain ⟨B1, B2, B3, B4, B5, B6, B7, B8, rfl⟩ := hT.out.shape
              clear hU1
              obtain ⟨w9, hw9⟩ : ∃ w9, w9 = (w8.alloc (.cells #[.bool A1, .slice A2 A3 A4, .bool A5, .slice A6 A7 A8] 26)).alloc (.cells #[.bool B1, .slice B2 B3 B4, .bool B5, .slice B6 B7 B8] 26) := ⟨_, rfl⟩
              have hx : Ext w8 w9 := by rw [hw9]; exact (((Ext.refl w8).al _).al _)
              have zA : w9.heap[w8.heap.size]? = some (.cells #[.bool A1, .slice A2 A3 A4, .bool A5, .slice A6 A7 A8] 26 (0, 0)) := by rw [hw9]; exact (heap_alloc_old _ _ (by simp <;> omega)).trans (heap_at _ _ _ (by simp))
              have zB : w9.heap[w8.heap.size + 1]? = some (.cells #[.bool B1, .slice B2 B3 B4, .bool B5, .slice B6 B7 B8] 26 (0, 0)) := by rw [hw9]; exact heap_at _ _ _ (by simp)
              obtain ⟨g10, hg10⟩ : ∃ g10, g10 = w8.heap.size := ⟨_, rfl⟩
              rw [← hg10] at zA zB
              have ltX : g2 < w8.heap.size := (Array.getElem?_eq_some_iff.1 zX.out).1
              have ltX_1 : g2 < w8.heap.size + 1 := by omega
              have yX_0 : w8.cell? ⟨g2, 0, none⟩ = some (.bool X1) := by simp [World.cell?, zX.out]
              have yX_1 : w8.cell? ⟨g2, 1, none⟩ = some (.slice X2 X3 X4) := by simp [World.cell?, zX.out]
              have yX_2 : w8.cell? ⟨g2, 2, none⟩ = some (.bool X5) := by simp [World.cell?, zX.out]
              have yX_3 : w8.cell? ⟨g2, 3, none⟩ = some (.slice X6 X7 X8) := by simp [World.cell?, zX.out]
              go_wp2_with fail
              rw [← hg10, ← hw9]
              clear yX_0 yX_1 yX_2 yX_3
              clear ltX ltX_1
              clear hg10 hw9
              replace hE := mkHid (hE.out.trans hx)
              replace zX := mkHid (hx.blk zX.out)
              replace ho := mkHid (ho.out.ext hx)
              replace hT := mkHid (hT.out.ext hx)
              clear hx
              replace zA := mkHid zA
              replace zB := mkHid zB
              refine (k2.out _ ho.out).mono ?_
              rintro e w11 ⟨v1, v2, rfl, hx, hU, hT2⟩
              replace hE := mkHid (hE.out.trans hx)
              replace zX := mkHid (hx.blk zX.out)
              replace ho := mkHid (ho.out.ext hx)
              replace hT := mkHid (hT.out.ext hx)
              replace zA := mkHid (hx.blk zA.out)
              replace zB := mkHid (hx.blk zB.out)
              clear hx
              replace hU := mkHid hU
              replace hT2 := mkHid hT2
              clear k2
              obtain ⟨C1, C2, C3, C4, C5, C6, C7, C8, rfl⟩ := hU.out.shape
              obtain ⟨D1, D2, D3, D4, D5, D6, D7, D8, rfl⟩ := hT2.out.shape
              clear hT2 zA
              obtain ⟨w12, hw12⟩ : ∃ w12, w12 = (w11.alloc (.cells #[.bool C1, .slice C2 C3 C4, .bool C5, .slice C6 C7 C8] 26)).alloc (.cells #[.bool D1, .slice D2 D3 D4, .bool D5, .slice D6 D7 D8] 26) := ⟨_, rfl⟩
              have hx : Ext w11 w12 := by rw [hw12]; exact (((Ext.refl w11).al _).al _)
              have zC : w12.heap[w11.heap.size]? = some (.cells #[.bool C1, .slice C2 C3 C4, .bool C5, .slice C6 C7 C8] 26 (0, 0)) := by rw [hw12]; exact (heap_alloc_old _ _ (by simp <;> omega)).trans (heap_at _ _ _ (by simp))
              have zD : w12.heap[w11.heap.size + 1]? = some (.cells #[.bool D1, .slice D2 D3 D4, .bool D5, .slice D6 D7 D8] 26 (0, 0)) := by rw [hw12]; exact heap_at _ _ _ (by simp)
              obtain ⟨g13, hg13⟩ : ∃ g13, g13 = w11.heap.size := ⟨_, rfl⟩
              rw [← hg13] at zC zD
              have ltB : g10 + 1 < w11.heap.size := (Array.getElem?_eq_some_iff.1 zB.out).1
              have ltB_1 : g10 + 1 < w11.heap.size + 1 := by omega
              have yB_0 : w11.cell? ⟨g10 + 1, 0, none⟩ = some (.bool B1) := by simp [World.cell?, zB.out]
              have yB_1 : w11.cell? ⟨g10 + 1, 1, none⟩ = some (.slice B2 B3 B4) := by simp [World.cell?, zB.out]
              have yB_2 : w11.cell? ⟨g10 + 1, 2, none⟩ = some (.bool B5) := by simp [World.cell?, zB.out]
              have yB_3 : w11.cell? ⟨g10 + 1, 3, none⟩ = some (.slice B6 B7 B8) := by simp [World.cell?, zB.out]
              go_wp2_with fail
              rw [← hg13, ← hw12]
              clear yB_0 yB_1 yB_2 yB_3
              clear ltB ltB_1
              clear hg13 hw12
              replace hE := mkHid (hE.out.trans hx)
              replace zX := mkHid (hx.blk zX.out)
              replace ho := mkHid (ho.out.ext hx)
              replace hT := mkHid (hT.out.ext hx)
              replace zB := mkHid (hx.blk zB.out)
              replace hU := mkHid (hU.out.ext hx)
              clear hx
              replace zC := mkHid zC
              replace zD := mkHid zD
              refine (k3.out _ _ hT.out).mono ?_
              rintro e w14 ⟨v1, rfl, hx, hA⟩
              replace hE := mkHid (hE.out.trans hx)
              replace zX := mkHid (hx.blk zX.out)
              replace ho := mkHid (ho.out.ext hx)
              replace hT := mkHid (hT.out.ext hx)
              replace zB := mkHid (hx.blk zB.out)
              replace hU := mkHid (hU.out.ext hx)
              replace zC := mkHid (hx.blk zC.out)
              replace zD := mkHid (hx.blk zD.out)
              clear hx
              replace hA := mkHid hA
              clear k3
              obtain ⟨G1, G2, G3, G4, G5, G6, G7, G8, rfl⟩ := hA.out.shape
              clear zD
              obtain ⟨w15, hw15⟩ : ∃ w15, w15 = w14.alloc (.cells #[.bool G1, .slice G2 G3 G4, .bool G5, .slice G6 G7 G8] 26) := ⟨_, rfl⟩
              have hx : Ext w14 w15 := by rw [hw15]; exact ((Ext.refl w14).al _)
              have zG : w15.heap[w14.heap.size]? = some (.cells #[.bool G1, .slice G2 G3 G4, .bool G5, .slice G6 G7 G8] 26 (0, 0)) := by rw [hw15]; exact heap_at _ _ _ (by simp)
              obtain ⟨g16, hg16⟩ : ∃ g16, g16 = w14.heap.size := ⟨_, rfl⟩
              rw [← hg16] at zG
              have ltC : g13 < w14.heap.size := (Array.getElem?_eq_some_iff.1 zC.out).1
              have yC_0 : w14.cell? ⟨g13, 0, none⟩ = some (.bool C1) := by simp [World.cell?, zC.out]
              have yC_1 : w14.cell? ⟨g13, 1, none⟩ = some (.slice C2 C3 C4) := by simp [World.cell?, zC.out]
              have yC_2 : w14.cell? ⟨g13, 2, none⟩ = some (.bool C5) := by simp [World.cell?, zC.out]
              have yC_3 : w14.cell? ⟨g13, 3, none⟩ = some (.slice C6 C7 C8) := by simp [World.cell?, zC.out]
              go_wp2_with fail
              rw [← hg16, ← hw15]
              clear yC_0 yC_1 yC_2 yC_3
              clear ltC
              clear hg16 hw15
              replace hE := mkHid (hE.out.trans hx)
              replace zX := mkHid (hx.blk zX.out)
              replace ho := mkHid (ho.out.ext hx)
              replace hT := mkHid (hT.out.ext hx)
              replace zB := mkHid (hx.blk zB.out)
              replace hU := mkHid (hU.out.ext hx)
              replace zC := mkHid (hx.blk zC.out)
              replace hA := mkHid (hA.out.ext hx)
              clear hx
              replace zG := mkHid zG
              refine (k4.out _ _ hU.out).mono ?_
              rintro e w17 ⟨v1, rfl, hx, hB⟩
              replace hE := mkHid (hE.out.trans hx)
              replace zX := mkHid (hx.blk zX.out)
              replace ho := mkHid (ho.out.ext hx)
              replace hT := mkHid (hT.out.ext hx)
              replace zB := mkHid (hx.blk zB.out)
              replace hU := mkHid (hU.out.ext hx)
              replace zC := mkHid (hx.blk zC.out)
              replace hA := mkHid (hA.out.ext hx)
              replace zG := mkHid (hx.blk zG.out)
              clear hx
              replace hB := mkHid hB
              clear k4
              obtain ⟨H1, H2, H3, H4, H5, H6, H7, H8, rfl⟩ := hB.out.shape
              clear zC hU
              obtain ⟨w18, hw18⟩ : ∃ w18, w18 = w17.alloc (.cells #[.bool H1, .slice H2 H3 H4, .bool H5, .slice H6 H7 H8] 26) := ⟨_, rfl⟩
              have hx : Ext w17 w18 := by rw [hw18]; exact ((Ext.refl w17).al _)
              have zH : w18.heap[w17.heap.size]? = some (.cells #[.bool H1, .slice H2 H3 H4, .bool H5, .slice H6 H7 H8] 26 (0, 0)) := by rw [hw18]; exact heap_at _ _ _ (by simp)
              obtain ⟨g19, hg19⟩ : ∃ g19, g19 = w17.heap.size := ⟨_, rfl⟩
              rw [← hg19] at zH
              have ltX : g2 < w17.heap.size := (Array.getElem?_eq_some_iff.1 zX.out).1
              have yX_0 : w17.cell? ⟨g2, 0, none⟩ = some (.bool X1) := by simp [World.cell?, zX.out]
              have yX_1 : w17.cell? ⟨g2, 1, none⟩ = some (.slice X2 X3 X4) := by simp [World.cell?, zX.out]
              have yX_2 : w17.cell? ⟨g2, 2, none⟩ = some (.bool X5) := by simp [World.cell?, zX.out]
              have yX_3 : w17.cell? ⟨g2, 3, none⟩ = some (.slice X6 X7 X8) := by simp [World.cell?, zX.out]
              go_wp2_with fail
              rw [← hg19, ← hw18]
              clear yX_0 yX_1 yX_2 yX_3
              clear ltX
              clear hg19 hw18
              replace hE := mkHid (hE.out.trans hx)
              replace zX := mkHid (hx.blk zX.out)
              replace ho := mkHid (ho.out.ext hx)
              replace hT := mkHid (hT.out.ext hx)
              replace zB := mkHid (hx.blk zB.out)
              replace hA := mkHid (hA.out.ext hx)
              replace zG := mkHid (hx.blk zG.out)
              replace hB := mkHid (hB.out.ext hx)
              clear hx
              replace zH := mkHid zH
              refine (k5.out _ ho.out).mono ?_
              rintro e w20 ⟨v1, rfl, hx, hC⟩
              replace hE := mkHid (hE.out.trans hx)
              replace zX := mkHid (hx.blk zX.out)
              replace ho := mkHid (ho.out.ext hx)
              replace hT := mkHid (hT.out.ext hx)
              replace zB := mkHid (hx.blk zB.out)
              replace hA := mkHid (hA.out.ext hx)
              replace zG := mkHid (hx.blk zG.out)
              replace hB := mkHid (hB.out.ext hx)
              replace zH := mkHid (hx.blk zH.out)
              clear hx
              replace hC := mkHid hC
              clear k5
              obtain ⟨I1, I2, I3, I4, I5, I6, I7, I8, rfl⟩ := hC.out.shape
              obtain ⟨w21, hw21⟩ : ∃ w21, w21 = w20.alloc (.cells #[.bool I1, .slice I2 I3 I4, .bool I5, .slice I6 I7 I8] 26) := ⟨_, rfl⟩
              have hx : Ext w20 w21 := by rw [hw21]; exact ((Ext.refl w20).al _)
              have zI : w21.heap[w20.heap.size]? = some (.cells #[.bool I1, .slice I2 I3 I4, .bool I5, .slice I6 I7 I8] 26 (0, 0)) := by rw [hw21]; exact heap_at _ _ _ (by simp)
              obtain ⟨g22, hg22⟩ : ∃ g22, g22 = w20.heap.size := ⟨_, rfl⟩
              rw [← hg22] at zI
              go_wp2_with fail
              rw [← hg22, ← hw21]
              clear hg22 hw21
              replace hE := mkHid (hE.out.trans hx)
              replace zX := mkHid (hx.blk zX.out)
              replace ho := mkHid (ho.out.ext hx)
              replace hT := mkHid (hT.out.ext hx)
              replace zB := mkHid (hx.blk zB.out)
              replace hA := mkHid (hA.out.ext hx)
              replace zG := mkHid (hx.blk zG.out)
              replace hB := mkHid (hB.out.ext hx)
              replace zH := mkHid (hx.blk zH.out)
              replace hC := mkHid (hC.out.ext hx)
              clear hx
              replace zI := mkHid zI
              have yI_0 : ∀ W, Ext w21 W → W.cell? ⟨g22, 0, none⟩ = some (.bool I1) := fun W e => by simp [World.cell?, e.blk zI.out]
              have yI_1 : ∀ W, Ext w21 W → W.cell? ⟨g22, 1, none⟩ = some (.slice I2 I3 I4) := fun W e => by simp [World.cell?, e.blk zI.out]
              have yI_2 : ∀ W, Ext w21 W → W.cell? ⟨g22, 2, none⟩ = some (.bool I5) := fun W e => by simp [World.cell?, e.blk zI.out]
              have yI_3 : ∀ W, Ext w21 W → W.cell? ⟨g22, 3, none⟩ = some (.slice I6 I7 I8) := fun W e => by simp [World.cell?, e.blk zI.out]
              apply Late.region_late Ext [.val _, .pred (fun W v => AnyF W v (some 1)), .pred (PairF OD E6), .pred (PairF OD E6), .pred (fun W v => AnyF W v OD), .val (.int .i64 E6), .pred (VarAt w21.heap.size #[.bool false, .slice none 0 0, .bool false, .slice none 0 0] 26)] 5 _ 97 (.int .i64 E6) mixed (by kernel_rfl) rfl rfl rfl (by kernel_rfl) (by kernel_rfl) (fun _ _ _ h => h)
                (fun a W _ hf => by
                  have h3 : PairF OD E6 W (a.tmps.getD 92 undef) := hf 3 _ _ _ rfl rfl rfl (by kernel_rfl)
                  obtain ⟨x, hx, -⟩ := h3
                  refine .inl ⟨rfl, fun w => ?_⟩
                  simp only [execOp, Act.eval, hx]
                  rfl)
                Ext.refl (fun _ _ _ => Ext.trans) (fun w => (Ext.refl w).dr) (stableAll_mem (stable_vals _ (st_any _ (st_pair _ _ (st_pair _ _ (st_any _ (stable_vals _ (st_var _ _ _ trivial))))))))
              refine ⟨fun W hW _ => by go_simp; exact ⟨Ext.refl _, rfl⟩, ?_⟩
              refine ⟨fun W hW _ => ?a1, fun x1 => ⟨fun W hW hF => ?a2, fun x2 => ⟨fun W hW hF => ?a3, fun x3 => ⟨fun W hW hF => ?a4, fun x4 => ⟨fun W hW hF => ?a5, ⟨fun W hW _ => ?a6, fun x6 => fun W hW hF => ?fin⟩⟩⟩⟩⟩⟩
              case a1 =>
                go_simp
                refine (kw.out W).mono ?_
                rintro e w' ⟨v, rfl, e1, e2⟩
                exact ⟨v, rfl, e1, e2⟩
              case a2 =>
                have dd : AnyF W x1 (some 1) := hF.1 (by kernel_rfl)
                replace dd := mkHid dd
                clear hF
                go_simp
                refine (k6.out W _ _ (hC.out.ext hW) dd.out).mono ?_
                rintro e w' ⟨v, rfl, e1, e2⟩
                exact ⟨_, rfl, e1, v, rfl, e2⟩
              case a3 =>
                have dd : PairF OD E6 W x2 := hF.1 (by kernel_rfl)
                replace dd := mkHid dd
                clear hF
                go_simp
                exact ⟨Ext.refl _, dd.out⟩
              case a4 =>
                have dd : PairF OD E6 W x3 := hF.1 (by kernel_rfl)
                obtain ⟨v, rfl, dd⟩ := dd
                replace dd := mkHid dd
                clear hF
                go_simp
                exact ⟨Ext.refl _, dd.out⟩
              case a5 =>
                have dd : PairF OD E6 W x3 := hF.2.1 (by kernel_rfl)
                obtain ⟨v, rfl, dd⟩ := dd
                clear hF dd
                go_simp
                first | exact ⟨Ext.refl _, rfl⟩ | exact Ext.refl _
              case a6 =>
                have hnv := new_var (b := w21.heap.size) (cs := #[.bool false, .slice none 0 0, .bool false, .slice none 0 0]) (T := 26) W hW.size
                replace hnv := mkHid hnv
                go_simp
                exact ⟨hnv.out.1, hnv.out.2.1⟩
              case fin =>
                obtain ⟨f6, f4, -⟩ := hF
                obtain ⟨gd, rfl, hgb, hgd⟩ := f6 rfl
                have hD : AnyF W x4 OD := f4 rfl
                obtain ⟨J1, J2, J3, J4, J5, J6, J7, J8, rfl⟩ := hD.shape
                clear f6 f4
                clear yI_0 yI_1 yI_2 yI_3
                obtain ⟨w23, hw23⟩ : ∃ w23, w23 = W.setRow gd #[.bool J1, .slice J2 J3 J4, .bool J5, .slice J6 J7 J8] := ⟨_, rfl⟩
                have ltw23 := hE.out.size
                have xE : Ext w w23 := by rw [hw23]; exact (hE.out.trans hW).row (by omega) _
                have fl : ∀ v q, AnyF W v q → AnyF w23 v q := fun v q h => by rw [hw23]; exact h.flat hgd (by simp [flatV]) _
                have bl : ∀ g o, w21.heap[g]? = some o → w23.heap[g]? = some o := fun g o h => by
                  have := (Array.getElem?_eq_some_iff.1 h).1
                  rw [hw23, setRow_other _ _ _ _ (by omega)]
                  exact hW.blk h
                have zJ : w23.heap[gd]? = some (.cells #[.bool J1, .slice J2 J3 J4, .bool J5, .slice J6 J7 J8] 26 (0, 0)) := by rw [hw23]; exact setRow_heap _ _ _ _ _ _ hgd
                replace hgd := mkHid hgd
                replace hE := mkHid xE
                replace zX := mkHid (bl _ _ zX.out)
                replace ho := mkHid (fl _ _ (ho.out.ext hW))
                replace hT := mkHid (fl _ _ (hT.out.ext hW))
                replace zB := mkHid (bl _ _ zB.out)
                replace hA := mkHid (fl _ _ (hA.out.ext hW))
                replace zG := mkHid (bl _ _ zG.out)
                replace hB := mkHid (fl _ _ (hB.out.ext hW))
                replace zH := mkHid (bl _ _ zH.out)
                replace hC := mkHid (fl _ _ (hC.out.ext hW))
                replace zI := mkHid (bl _ _ zI.out)
                replace hD := mkHid (fl _ _ hD)
                replace zJ := mkHid zJ
                have hne := Ne.symm (Nat.ne_of_lt (Array.getElem?_eq_some_iff.1 zJ.out).1)
                replace hw23 := mkHid hw23
                clear xE fl bl hW ltw23 hne kw
                have yJ_0 : w23.cell? ⟨gd, 0, none⟩ = some (.bool J1) := by simp [World.cell?, zJ.out]
                have yJ_1 : w23.cell? ⟨gd, 1, none⟩ = some (.slice J2 J3 J4) := by simp [World.cell?, zJ.out]
                have yJ_2 : w23.cell? ⟨gd, 2, none⟩ = some (.bool J5) := by simp [World.cell?, zJ.out]
                have yJ_3 : w23.cell? ⟨gd, 3, none⟩ = some (.slice J6 J7 J8) := by simp [World.cell?, zJ.out]
                have yH_0 : w23.cell? ⟨g19, 0, none⟩ = some (.bool H1) := by simp [World.cell?, zH.out]
                have yH_1 : w23.cell? ⟨g19, 1, none⟩ = some (.slice H2 H3 H4) := by simp [World.cell?, zH.out]
                have yH_2 : w23.cell? ⟨g19, 2, none⟩ = some (.bool H5) := by simp [World.cell?, zH.out]
                have yH_3 : w23.cell? ⟨g19, 3, none⟩ = some (.slice H6 H7 H8) := by simp [World.cell?, zH.out]
                go_simp
                go_wp2_with (refine wpList_store_row rfl 26 (.tmp 19) (.tmp 96) rfl gd #[.bool J1, .slice J2 J3 J4, .bool J5, .slice J6 J7 J8] rfl rfl 26 _ hgd.out (by kernel_rfl) rfl (by kernel_rfl) ?_; rw [← hw23.out])
                clear hw23 hgd
                refine (k7.out _ _ _ hD.out hB.out).mono ?_
                rintro e w24 ⟨v1, rfl, hx, hK⟩
                clear yJ_0 yJ_1 yJ_2 yJ_3 yH_0 yH_1 yH_2 yH_3
                replace hE := mkHid (hE.out.trans hx)
                replace zX := mkHid (hx.blk zX.out)
                replace ho := mkHid (ho.out.ext hx)
                replace hT := mkHid (hT.out.ext hx)
                replace zB := mkHid (hx.blk zB.out)
                replace hA := mkHid (hA.out.ext hx)
                replace zG := mkHid (hx.blk zG.out)
                replace hB := mkHid (hB.out.ext hx)
                replace zH := mkHid (hx.blk zH.out)
                replace hC := mkHid (hC.out.ext hx)
                replace zI := mkHid (hx.blk zI.out)
                replace hD := mkHid (hD.out.ext hx)
                replace zJ := mkHid (hx.blk zJ.out)
                clear hx
                replace hK := mkHid hK
                clear k6 k7
                obtain ⟨K1, K2, K3, K4, K5, K6, K7, K8, rfl⟩ := hK.out.shape
                clear zH zI zJ hD hB hC
                obtain ⟨w25, hw25⟩ : ∃ w25, w25 = w24.alloc (.cells #[.bool K1, .slice K2 K3 K4, .bool K5, .slice K6 K7 K8] 26) := ⟨_, rfl⟩
                have hx : Ext w24 w25 := by rw [hw25]; exact ((Ext.refl w24).al _)
                have zK : w25.heap[w24.heap.size]? = some (.cells #[.bool K1, .slice K2 K3 K4, .bool K5, .slice K6 K7 K8] 26 (0, 0)) := by rw [hw25]; exact heap_at _ _ _ (by simp)
                obtain ⟨g26, hg26⟩ : ∃ g26, g26 = w24.heap.size := ⟨_, rfl⟩
                rw [← hg26] at zK
                have ltG : g16 < w24.heap.size := (Array.getElem?_eq_some_iff.1 zG.out).1
                have yG_0 : w24.cell? ⟨g16, 0, none⟩ = some (.bool G1) := by simp [World.cell?, zG.out]
                have yG_1 : w24.cell? ⟨g16, 1, none⟩ = some (.slice G2 G3 G4) := by simp [World.cell?, zG.out]
                have yG_2 : w24.cell? ⟨g16, 2, none⟩ = some (.bool G5) := by simp [World.cell?, zG.out]
                have yG_3 : w24.cell? ⟨g16, 3, none⟩ = some (.slice G6 G7 G8) := by simp [World.cell?, zG.out]
                go_wp2_with fail
                rw [← hg26, ← hw25]
                clear yG_0 yG_1 yG_2 yG_3
                clear ltG
                clear hg26 hw25
                replace hE := mkHid (hE.out.trans hx)
                replace zX := mkHid (hx.blk zX.out)
                replace ho := mkHid (ho.out.ext hx)
                replace hT := mkHid (hT.out.ext hx)
                replace zB := mkHid (hx.blk zB.out)
                replace hA := mkHid (hA.out.ext hx)
                replace zG := mkHid (hx.blk zG.out)
                replace hK := mkHid (hK.out.ext hx)
                clear hx
                replace zK := mkHid zK
                refine (k8.out _ _ _ hA.out hK.out).mono ?_
                rintro e w27 ⟨v1, rfl, hx, hS⟩
                replace hE := mkHid (hE.out.trans hx)
                replace zX := mkHid (hx.blk zX.out)
                replace ho := mkHid (ho.out.ext hx)
                replace hT := mkHid (hT.out.ext hx)
                replace zB := mkHid (hx.blk zB.out)
                replace hA := mkHid (hA.out.ext hx)
                replace zG := mkHid (hx.blk zG.out)
                replace hK := mkHid (hK.out.ext hx)
                replace zK := mkHid (hx.blk zK.out)
                clear hx
                replace hS := mkHid hS
                clear k8
                obtain ⟨M1, M2, M3, M4, M5, M6, M7, M8, rfl⟩ := hS.out.shape
                clear zG zK hA hK
                by_cases u1 : E1 = 0
                case neg =>
                  have u : (E1 == 0) = false := by rw [beq_eq_false_iff_ne]; exact u1
                  replace u1 := mkHid u1
                  go_wp2_with fail
                  refine (kl.out _).mono ?_
                  rintro e wl ⟨rfl, hl⟩
                  go_wp2_with fail
                  go_ret
                  exact ⟨rfl, hE.out.trans (((Ext.refl _).al _).trans hl)⟩
                subst u1
                by_cases u2 : E2 = 0
                case neg =>
                  have u : (E2 == 0) = false := by rw [beq_eq_false_iff_ne]; exact u2
                  replace u2 := mkHid u2
                  go_wp2_with fail
                  refine (kl.out _).mono ?_
                  rintro e wl ⟨rfl, hl⟩
                  go_wp2_with fail
                  go_ret
                  exact ⟨rfl, hE.out.trans (((Ext.refl _).al _).trans hl)⟩
                subst u2
                by_cases u3 : E3 = 0
                case neg =>
                  have u : (E3 == 0) = false := by rw [beq_eq_false_iff_ne]; exact u3
                  replace u3 := mkHid u3
                  go_wp2_with fail
                  refine (kl.out _).mono ?_
                  rintro e wl ⟨rfl, hl⟩
                  go_wp2_with fail
                  go_ret
                  exact ⟨rfl, hE.out.trans (((Ext.refl _).al _).trans hl)⟩
                subst u3
                by_cases u4 : E4 = 0
                case neg =>
                  have u : (E4 == 0) = false := by rw [beq_eq_false_iff_ne]; exact u4
                  replace u4 := mkHid u4
                  go_wp2_with fail
                  refine (kl.out _).mono ?_
                  rintro e wl ⟨rfl, hl⟩
                  go_wp2_with fail
                  go_ret
                  exact ⟨rfl, hE.out.trans (((Ext.refl _).al _).trans hl)⟩
                subst u4
                by_cases u5 : E5 = 0
                case neg =>
                  have u : (E5 == 0) = false := by rw [beq_eq_false_iff_ne]; exact u5
                  replace u5 := mkHid u5
                  go_wp2_with fail
                  refine (kl.out _).mono ?_
                  rintro e wl ⟨rfl, hl⟩
                  go_wp2_with fail
                  go_ret
                  exact ⟨rfl, hE.out.trans (((Ext.refl _).al _).trans hl)⟩
                subst u5
                by_cases u6 : E6 = 0
                case neg =>
                  have u : (E6 == 0) = false := by rw [beq_eq_false_iff_ne]; exact u6
                  replace u6 := mkHid u6
                  go_wp2_with fail
                  refine (kl.out _).mono ?_
                  rintro e wl ⟨rfl, hl⟩
                  go_wp2_with fail
                  go_ret
                  exact ⟨rfl, hE.out.trans (((Ext.refl _).al _).trans hl)⟩
                subst u6
                by_cases u7 : E7 = 0
                case neg =>
                  have u : (E7 == 0) = false := by rw [beq_eq_false_iff_ne]; exact u7
                  replace u7 := mkHid u7
                  go_wp2_with fail
                  refine (kl.out _).mono ?_
                  rintro e wl ⟨rfl, hl⟩
                  go_wp2_with fail
                  go_ret
                  exact ⟨rfl, hE.out.trans (((Ext.refl _).al _).trans hl)⟩
                subst u7
                by_cases u8 : E8 = 0
                case neg =>
                  have u : (E8 == 0) = false := by rw [beq_eq_false_iff_ne]; exact u8
                  replace u8 := mkHid u8
                  go_wp2_with fail
                  refine (kl.out _).mono ?_
                  rintro e wl ⟨rfl, hl⟩
                  go_wp2_with fail
                  go_ret
                  exact ⟨rfl, hE.out.trans (((Ext.refl _).al _).trans hl)⟩
                subst u8
                obtain rfl := hfin.out rfl rfl rfl rfl rfl rfl rfl rfl
                have kw := mkHid (fun w => whole_f 1 1 w (by omega) (by omega) (by omega) (by omega) (by omega))
                rw [whole_one] at kw
                have ks := mkHid (fun W v v' h h' => sameFrac_f v v' 1 1 W h h')
                rw [decide_eq_true (rfl : (1 : Rat) = 1)] at ks
                obtain ⟨w28, hw28⟩ : ∃ w28, w28 = w27.alloc (.cells #[.bool M1, .slice M2 M3 M4, .bool M5, .slice M6 M7 M8] 26) := ⟨_, rfl⟩
                have hx : Ext w27 w28 := by rw [hw28]; exact ((Ext.refl w27).al _)
                have zM : w28.heap[w27.heap.size]? = some (.cells #[.bool M1, .slice M2 M3 M4, .bool M5, .slice M6 M7 M8] 26 (0, 0)) := by rw [hw28]; exact heap_at _ _ _ (by simp)
                obtain ⟨g29, hg29⟩ : ∃ g29, g29 = w27.heap.size := ⟨_, rfl⟩
                rw [← hg29] at zM
                go_wp2_with fail
                rw [← hg29, ← hw28]
                clear hg29 hw28
                replace hE := mkHid (hE.out.trans hx)
                replace zX := mkHid (hx.blk zX.out)
                replace ho := mkHid (ho.out.ext hx)
                replace hT := mkHid (hT.out.ext hx)
                replace zB := mkHid (hx.blk zB.out)
                replace hS := mkHid (hS.out.ext hx)
                clear hx
                replace zM := mkHid zM
                have yM_0 : ∀ W, Ext w28 W → W.cell? ⟨g29, 0, none⟩ = some (.bool M1) := fun W e => by simp [World.cell?, e.blk zM.out]
                have yM_1 : ∀ W, Ext w28 W → W.cell? ⟨g29, 1, none⟩ = some (.slice M2 M3 M4) := fun W e => by simp [World.cell?, e.blk zM.out]
                have yM_2 : ∀ W, Ext w28 W → W.cell? ⟨g29, 2, none⟩ = some (.bool M5) := fun W e => by simp [World.cell?, e.blk zM.out]
                have yM_3 : ∀ W, Ext w28 W → W.cell? ⟨g29, 3, none⟩ = some (.slice M6 M7 M8) := fun W e => by simp [World.cell?, e.blk zM.out]
                apply region_ext [.val _, .pred (fun W v => AnyF W v (some 1)), .val (.bool true), .val _] (by kernel_rfl) (stable_vals _ (st_any _ (stable_vals _ (stable_vals _ trivial))))
                refine ⟨fun W hW _ => by go_simp; exact ⟨Ext.refl _, rfl⟩, ⟨fun W hW _ => ?b1, fun x1 => ⟨fun W hW hF => ?b2, ⟨fun W hW _ => by go_simp; exact ⟨Ext.refl _, rfl⟩, fun W hW _ => ?fin⟩⟩⟩⟩
                case b1 =>
                  go_simp
                  refine (kw.out W).mono ?_
                  rintro e w' ⟨v, rfl, e1, e2⟩
                  exact ⟨v, rfl, e1, e2⟩
                case b2 =>
                  have dd : AnyF W x1 (some 1) := hF.1 (by kernel_rfl)
                  replace dd := mkHid dd
                  clear hF
                  go_simp
                  refine (ks.out W _ _ (hS.out.ext hW) dd.out).mono ?_
                  rintro e w' ⟨rfl, e1⟩
                  exact ⟨rfl, e1⟩
                case fin =>
                  clear yM_0 yM_1 yM_2 yM_3
                  replace hE := mkHid (hE.out.trans hW)
                  replace zX := mkHid (hW.blk zX.out)
                  replace ho := mkHid (ho.out.ext hW)
                  replace hT := mkHid (hT.out.ext hW)
                  replace zB := mkHid (hW.blk zB.out)
                  replace hS := mkHid (hS.out.ext hW)
                  replace zM := mkHid (hW.blk zM.out)
                  clear hW kw ks
                  clear zM hS
                  have yX_0 : W.cell? ⟨g2, 0, none⟩ = some (.bool X1) := by simp [World.cell?, zX.out]
                  have yX_1 : W.cell? ⟨g2, 1, none⟩ = some (.slice X2 X3 X4) := by simp [World.cell?, zX.out]
                  have yX_2 : W.cell? ⟨g2, 2, none⟩ = some (.bool X5) := by simp [World.cell?, zX.out]
                  have yX_3 : W.cell? ⟨g2, 3, none⟩ = some (.slice X6 X7 X8) := by simp [World.cell?, zX.out]
                  go_simp
                  go_wp2_with fail
                  refine (k9.out _ ho.out).mono ?_
                  rintro e w30 ⟨v1, v2, rfl, hx, hU9, hP⟩
                  clear yX_0 yX_1 yX_2 yX_3
                  replace hE := mkHid (hE.out.trans hx)
                  replace zX := mkHid (hx.blk zX.out)
                  replace ho := mkHid (ho.out.ext hx)
                  replace hT := mkHid (hT.out.ext hx)
                  replace zB := mkHid (hx.blk zB.out)
                  clear hx
                  replace hU9 := mkHid hU9
                  replace hP := mkHid hP
                  clear k9
                  obtain ⟨N1, N2, N3, N4, N5, N6, N7, N8, rfl⟩ := hU9.out.shape
                  obtain ⟨O1, O2, O3, O4, O5, O6, O7, O8, rfl⟩ := hP.out.shape
                  clear hU9 ho zX
                  obtain ⟨w31, hw31⟩ : ∃ w31, w31 = (w30.alloc (.cells #[.bool N1, .slice N2 N3 N4, .bool N5, .slice N6 N7 N8] 26)).alloc (.cells #[.bool O1, .slice O2 O3 O4, .bool O5, .slice O6 O7 O8] 26) := ⟨_, rfl⟩
                  have hx : Ext w30 w31 := by rw [hw31]; exact (((Ext.refl w30).al _).al _)
                  have zN : w31.heap[w30.heap.size]? = some (.cells #[.bool N1, .slice N2 N3 N4, .bool N5, .slice N6 N7 N8] 26 (0, 0)) := by rw [hw31]; exact (heap_alloc_old _ _ (by simp <;> omega)).trans (heap_at _ _ _ (by simp))
                  have zO : w31.heap[w30.heap.size + 1]? = some (.cells #[.bool O1, .slice O2 O3 O4, .bool O5, .slice O6 O7 O8] 26 (0, 0)) := by rw [hw31]; exact heap_at _ _ _ (by simp)
                  obtain ⟨g32, hg32⟩ : ∃ g32, g32 = w30.heap.size := ⟨_, rfl⟩
                  rw [← hg32] at zN zO
                  have ltB : g10 + 1 < w30.heap.size := (Array.getElem?_eq_some_iff.1 zB.out).1
                  have ltB_1 : g10 + 1 < w30.heap.size + 1 := by omega
                  have yB_0 : w30.cell? ⟨g10 + 1, 0, none⟩ = some (.bool B1) := by simp [World.cell?, zB.out]
                  have yB_1 : w30.cell? ⟨g10 + 1, 1, none⟩ = some (.slice B2 B3 B4) := by simp [World.cell?, zB.out]
                  have yB_2 : w30.cell? ⟨g10 + 1, 2, none⟩ = some (.bool B5) := by simp [World.cell?, zB.out]
                  have yB_3 : w30.cell? ⟨g10 + 1, 3, none⟩ = some (.slice B6 B7 B8) := by simp [World.cell?, zB.out]
                  go_wp2_with fail
                  rw [← hg32, ← hw31]
                  clear yB_0 yB_1 yB_2 yB_3
                  clear ltB ltB_1
                  clear hg32 hw31
                  replace hE := mkHid (hE.out.trans hx)
                  replace hT := mkHid (hT.out.ext hx)
                  replace zB := mkHid (hx.blk zB.out)
                  replace hP := mkHid (hP.out.ext hx)
                  clear hx
                  replace zN := mkHid zN
                  replace zO := mkHid zO
                  refine (k10.out _ _ hT.out).mono ?_
                  rintro e w33 ⟨v1, v2, rfl, hx, hU10, hQ⟩
                  replace hE := mkHid (hE.out.trans hx)
                  replace hT := mkHid (hT.out.ext hx)
                  replace zB := mkHid (hx.blk zB.out)
                  replace hP := mkHid (hP.out.ext hx)
                  replace zN := mkHid (hx.blk zN.out)
                  replace zO := mkHid (hx.blk zO.out)
                  clear hx
                  replace hU10 := mkHid hU10
                  replace hQ := mkHid hQ
                  clear k10
                  obtain ⟨P1, P2, P3, P4, P5, P6, P7, P8, rfl⟩ := hU10.out.shape
                  obtain ⟨Q1, Q2, Q3, Q4, Q5, Q6, Q7, Q8, rfl⟩ := hQ.out.shape
                  clear hU10 hT zB zN
                  by_cases u9 : E9 = 0
                  case neg =>
                    have u : (E9 == 0) = false := by rw [beq_eq_false_iff_ne]; exact u9
                    replace u9 := mkHid u9
                    go_wp2_with fail
                    refine (kl.out _).mono ?_
                    rintro e wl ⟨rfl, hl⟩
                    go_wp2_with fail
                    go_ret
                    exact ⟨rfl, hE.out.trans ((((Ext.refl _).al _).al _).trans hl)⟩
                  subst u9
                  by_cases u10 : E10 = 0
                  case neg =>
                    have u : (E10 == 0) = false := by rw [beq_eq_false_iff_ne]; exact u10
                    replace u10 := mkHid u10
                    go_wp2_with fail
                    refine (kl.out _).mono ?_
                    rintro e wl ⟨rfl, hl⟩
                    go_wp2_with fail
                    go_ret
                    exact ⟨rfl, hE.out.trans ((((Ext.refl _).al _).al _).trans hl)⟩
                  subst u10
                  obtain ⟨y, rfl, rfl⟩ := hfin2.out (by trivial) (by trivial) (by trivial)
                  have ks := mkHid (fun W v v' h h' => sameFrac_f v v' y y W h h')
                  rw [decide_eq_true (rfl : y = y)] at ks
                  obtain ⟨w34, hw34⟩ : ∃ w34, w34 = (w33.alloc (.cells #[.bool P1, .slice P2 P3 P4, .bool P5, .slice P6 P7 P8] 26)).alloc (.cells #[.bool Q1, .slice Q2 Q3 Q4, .bool Q5, .slice Q6 Q7 Q8] 26) := ⟨_, rfl⟩
                  have hx : Ext w33 w34 := by rw [hw34]; exact (((Ext.refl w33).al _).al _)
                  have zP : w34.heap[w33.heap.size]? = some (.cells #[.bool P1, .slice P2 P3 P4, .bool P5, .slice P6 P7 P8] 26 (0, 0)) := by rw [hw34]; exact (heap_alloc_old _ _ (by simp <;> omega)).trans (heap_at _ _ _ (by simp))
                  have zQ : w34.heap[w33.heap.size + 1]? = some (.cells #[.bool Q1, .slice Q2 Q3 Q4, .bool Q5, .slice Q6 Q7 Q8] 26 (0, 0)) := by rw [hw34]; exact heap_at _ _ _ (by simp)
                  obtain ⟨g35, hg35⟩ : ∃ g35, g35 = w33.heap.size := ⟨_, rfl⟩
                  rw [← hg35] at zP zQ
                  have ltO : g32 + 1 < w33.heap.size := (Array.getElem?_eq_some_iff.1 zO.out).1
                  have ltO_1 : g32 + 1 < w33.heap.size + 1 := by omega
                  have yO_0 : w33.cell? ⟨g32 + 1, 0, none⟩ = some (.bool O1) := by simp [World.cell?, zO.out]
                  have yO_1 : w33.cell? ⟨g32 + 1, 1, none⟩ = some (.slice O2 O3 O4) := by simp [World.cell?, zO.out]
                  have yO_2 : w33.cell? ⟨g32 + 1, 2, none⟩ = some (.bool O5) := by simp [World.cell?, zO.out]
                  have yO_3 : w33.cell? ⟨g32 + 1, 3, none⟩ = some (.slice O6 O7 O8) := by simp [World.cell?, zO.out]
                  go_wp2_with fail
                  rw [← hg35, ← hw34]
                  clear yO_0 yO_1 yO_2 yO_3
                  clear ltO ltO_1
                  clear hg35 hw34
                  replace hE := mkHid (hE.out.trans hx)
                  replace hP := mkHid (hP.out.ext hx)
                  replace zO := mkHid (hx.blk zO.out)
                  replace hQ := mkHid (hQ.out.ext hx)
                  clear hx
                  replace zP := mkHid zP
                  replace zQ := mkHid zQ
                  refine (ks.out _ _ _ hP.out hQ.out).mono ?_
                  rintro e w36 ⟨rfl, hx⟩
                  replace hE := mkHid (hE.out.trans hx)
                  replace hP := mkHid (hP.out.ext hx)
                  replace zO := mkHid (hx.blk zO.out)
                  replace hQ := mkHid (hQ.out.ext hx)
                  replace zP := mkHid (hx.blk zP.out)
                  replace zQ := mkHid (hx.blk zQ.out)
                  clear hx
                  go_wp2_with fail
                  refine (kl.out _).mono ?_
                  rintro e wl ⟨rfl, hl⟩
                  go_wp2_with fail
                  go_ret
                  exact ⟨rfl, hE.out.trans hl⟩
end Go.Proofs.Ytpmfohhpaoagfaa
