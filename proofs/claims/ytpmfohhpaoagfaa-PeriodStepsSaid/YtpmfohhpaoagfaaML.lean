/-
  period: trace. period: plain, order, Order. period: order, Order.
-/
import Derived.Test.YtpmfohhpaoagfaaMJ
namespace Go.Proofs.Ytpmfohhpaoagfaa
open Go Go.RowKit Go.Proofs
theorem AnyM.fracs {w : World} {v : Value} {a b c d : Rat} (h : AnyM w v (some a) (some b) (some c) (some d)) : MatR w v a b c d ∧ nf a ≤ 2048 ∧ nf b ≤ 2048 ∧ nf c ≤ 2048 ∧ nf d ≤ 2048 := by
  obtain ⟨A1, A2, A3, A4, A5, A6, A7, A8, B1, B2, B3, B4, B5, B6, B7, B8, C1, C2, C3, C4, C5, C6, C7, C8, D1, D2, D3, D4, D5, D6, D7, D8, h0, h1, h2, h3, h4⟩ := h
  exact ⟨⟨A1, A2, A3, A4, A5, A6, A7, A8, B1, B2, B3, B4, B5, B6, B7, B8, C1, C2, C3, C4, C5, C6, C7, C8, D1, D2, D3, D4, D5, D6, D7, D8, h0, h1.frac.1, h2.frac.1, h3.frac.1, h4.frac.1⟩, h1.frac.2, h2.frac.2, h3.frac.2, h4.frac.2⟩
/-- The loop's state: the trace is none of the numbers so far. -/
def TrI (wo : World) (t : Rat) (k : Int) (wr : World) : Prop := Ext wo wr ∧ ∀ j : Int, -2 ≤ j → j < k → t ≠ (j : Rat)
/-- What trace answers. -/
def TrV (t : Rat) (v : Value) : Prop := ∃ (k : Int) (o : Bool), v = .tuple #[.int .i64 k, .bool o] ∧ (o = true → t = (k : Rat) ∧ -2 ≤ k ∧ k ≤ 2) ∧ (o = false → ∀ j : Int, -2 ≤ j → j ≤ 2 → t ≠ (j : Rat))
theorem rat_int {t : Rat} {k : Int} : t = (k : Rat) ↔ (t.den : Int) = 1 ∧ t.num = k := by
  constructor
  · rintro rfl
    simp
  · rintro ⟨h1, h2⟩
    have h := rat_den t
    have h3 : t.den = 1 := by omega
    rw [h3, h2] at h
    simpa using h
theorem st_intR {ss : List FSpec} (x : Int) (h : StableAll Ext ss) : StableAll Ext (.pred (fun W v => IntR W v x) :: ss) := ⟨fun _ _ _ e h => IntR.ext h e, h⟩
theorem sub_sign {X Y : Int} : (X - Y).sign = 0 ↔ X = Y := by
  rw [Int.sign_eq_zero_iff_zero]
  omega
set_option maxRecDepth 100000 in
set_option maxHeartbeats 3200000 in
theorem trace_f (v : Value) (a b c d : Rat) (w : World) (h : AnyM w v (some a) (some b) (some c) (some d)) :
    Calls Try.prog 75 #[v] w fun e w' => ∃ v, e = .returned v ∧ Ext w w' ∧ TrV (a + d) v := by
  obtain ⟨⟨A1, A2, A3, A4, A5, A6, A7, A8, B1, B2, B3, B4, B5, B6, B7, B8, C1, C2, C3, C4, C5, C6, C7, C8, D1, D2, D3, D4, D5, D6, D7, D8, rfl, f1, f2, f3, f4⟩, n1, n2, n3, n4⟩ := h.fracs
  clear h f2 f3 n2 n3
  have kp := mkHid (fun W h h' => plus_f (.agg #[.bool A1, .slice A2 A3 A4, .bool A5, .slice A6 A7 A8]) (.agg #[.bool D1, .slice D2 D3 D4, .bool D5, .slice D6 D7 D8]) a d W (by omega) (by omega) h h')
  have nt : nf (a + d) ≤ 4097 := by have := nf_add_le a d; omega
  have o1 := mkHid (fun w => of_c 1 w (by omega) (by omega))
  have bn : nl (a + d).num ≤ 1073741824 := Nat.le_trans (Nat.le_max_left _ _) (Nat.le_trans nt (by decide))
  have bd : nl ((a + d).den : Int) ≤ 1073741824 := Nat.le_trans (Nat.le_max_right _ _) (Nat.le_trans nt (by decide))
  have hrt : ∀ k : Int, (a + d) = (k : Rat) ↔ ((a + d).den : Int) = 1 ∧ (a + d).num = k := fun k => rat_int
  replace hrt := mkHid hrt
  replace f1 := mkHid f1
  replace f4 := mkHid f4
  clear n1 n4 nt
  go_enter Try.func75, Try.ntmps75
  go_wp2_with fail
  have hEa := (Ext.refl w).al (.cells #[.bool A1, .slice A2 A3 A4, .bool A5, .slice A6 A7 A8, .bool B1, .slice B2 B3 B4, .bool B5, .slice B6 B7 B8, .bool C1, .slice C2 C3 C4, .bool C5, .slice C6 C7 C8, .bool D1, .slice D2 D3 D4, .bool D5, .slice D6 D7 D8] 40)
  refine (kp.out _ (f1.out.ext hEa) (f4.out.ext hEa)).mono ?_
  rintro e w1 ⟨vt, rfl, hE1, hvt⟩
  obtain ⟨T1, T2, T3, T4, T5, T6, T7, T8, rfl⟩ := hvt.r.shape
  have hE := mkHid (hEa.trans hE1)
  replace hvt := mkHid hvt.r
  clear hEa hE1 kp f1 f4
  have h0 : ∀ k : Int, (a + d = (k : Rat)) = ((a + d).den = 1 ∧ (a + d).num = k) := fun k => by
    have := hrt.out k
    apply propext
    rw [this]
    omega
  have zT := heap_alloc_new w1 (.cells #[.bool T1, .slice T2 T3 T4, .bool T5, .slice T6 T7 T8] 26)
  have hEb := (Ext.refl w1).al (.cells #[.bool T1, .slice T2 T3 T4, .bool T5, .slice T6 T7 T8] 26)
  obtain ⟨wo, hwo⟩ : ∃ wo : World, wo = w1.alloc (.cells #[.bool T1, .slice T2 T3 T4, .bool T5, .slice T6 T7 T8] 26) := ⟨_, rfl⟩
  rw [← hwo] at zT hEb
  obtain ⟨gt, hgt⟩ : ∃ gt, gt = w1.heap.size := ⟨_, rfl⟩
  rw [← hgt] at zT
  replace hE := mkHid (hE.out.trans hEb)
  replace hvt := mkHid (hvt.out.ext hEb)
  have hnum := hvt.out.num
  have hden := hvt.out.den
  generalize (a + d).num = N at *
  generalize (a + d).den = D at *
  replace hnum := mkHid hnum
  replace hden := mkHid hden
  replace h0 := mkHid h0
  replace zT := mkHid zT
  clear hvt hrt hEb
  go_wp2_with fail
  rw [← hgt, ← hwo]
  clear hgt hwo
  go_loopw [5] (fun i wr => ∃ k : Int, i = .int .i64 k ∧ -2 ≤ k ∧ k ≤ 3 ∧ Ext wo wr ∧ ∀ j : Int, -2 ≤ j → j < k → ¬ (D = 1 ∧ N = j)) (fun i _ => (3 - intOf i).toNat)
  case atStart => exact ⟨-2, rfl, by omega, by omega, Ext.refl _, fun j h h' => absurd h (by omega)⟩
  case round =>
    obtain ⟨k, rfl, hk1, hk2, hX, hj⟩ := hrel
    by_cases hlt : k ≤ 2
    · have c0 : ∀ W, Ext wr W → W.cell? ⟨gt, 0, none⟩ = some (.bool T1) := fun W e => by simp [World.cell?, (hX.trans e).blk zT.out]
      have c1 : ∀ W, Ext wr W → W.cell? ⟨gt, 1, none⟩ = some (.slice T2 T3 T4) := fun W e => by simp [World.cell?, (hX.trans e).blk zT.out]
      have c2 : ∀ W, Ext wr W → W.cell? ⟨gt, 2, none⟩ = some (.bool T5) := fun W e => by simp [World.cell?, (hX.trans e).blk zT.out]
      have c3 : ∀ W, Ext wr W → W.cell? ⟨gt, 3, none⟩ = some (.slice T6 T7 T8) := fun W e => by simp [World.cell?, (hX.trans e).blk zT.out]
      have kD := mkHid (fun v W (e : Ext wr W) h => cmp_c (.agg #[.bool T5, .slice T6 T7 T8]) v (D : Int) 1 W bd nl_one (hden.out.ext (hX.trans e)) h)
      have oK := mkHid (fun W => of_c k W (by omega) (by omega))
      have kN := mkHid (fun v W (e : Ext wr W) h => cmp_c (.agg #[.bool T1, .slice T2 T3 T4]) v N k W bn (Nat.le_trans (nl_small (show k.natAbs < 4294967296 by omega)) (by decide)) (hnum.out.ext (hX.trans e)) h)
      have hE' := mkHid (hE.out.trans hX)
      by_cases hd : D = 1
      · have sd : ((D : Int) - 1).sign = 0 := sub_sign.2 (by omega)
        rw [sd] at kD
        by_cases hn : N = k
        · have sn : (N - k).sign = 0 := sub_sign.2 hn
          rw [sn] at kN
          have hfin : a + d = (k : Rat) := by rw [h0.out]; exact ⟨hd, hn⟩
          replace hfin := mkHid hfin
          replace hj := mkHid hj
          replace hX := mkHid hX
          clear sd sn hd hn hj
          go_wp2_with fail
          apply region_ext [.val _, .val _, .pred (fun W v => IntR W v 1), .val _, .val _, .val _, .val _, .val _, .val _, .pred (fun W v => IntR W v k), .val _, .val _, .val _] (by kernel_rfl) (stable_vals _ (stable_vals _ (st_intR _ (stable_vals _ (stable_vals _ (stable_vals _ (stable_vals _ (stable_vals _ (stable_vals _ (st_intR _ (stable_vals _ (stable_vals _ (stable_vals _ trivial)))))))))))))
          iterate 2 (refine ⟨fun W hW _ => by go_simp; first | exact ⟨Ext.refl _, rfl⟩ | rfl, ?_⟩)
          refine ⟨fun W hW _ => ?t2, fun v2 => ⟨fun W hW hF => ?t3, ?_⟩⟩
          case t2 =>
            go_simp
            refine (o1.out W).mono ?_
            rintro e w' ⟨v, rfl, e1, e2⟩
            exact ⟨v, rfl, e1, e2.r⟩
          case t3 =>
            have d2 : IntR W v2 1 := hF.1 (by kernel_rfl)
            replace d2 := mkHid d2
            clear hF
            go_simp
            refine (kD.out v2 W hW d2.out).mono ?_
            rintro e w' ⟨rfl, e1⟩
            exact ⟨rfl, e1⟩
          iterate 5 (refine ⟨fun W hW _ => by go_simp; first | exact ⟨Ext.refl _, rfl⟩ | rfl, ?_⟩)
          refine ⟨fun W hW _ => ?t9, fun v9 => ⟨fun W hW hF => ?t10, ?_⟩⟩
          case t9 =>
            go_simp
            refine (oK.out W).mono ?_
            rintro e w' ⟨v, rfl, e1, e2⟩
            exact ⟨v, rfl, e1, e2.r⟩
          case t10 =>
            have d2 : IntR W v9 k := hF.1 (by kernel_rfl)
            replace d2 := mkHid d2
            clear hF
            go_simp
            refine (kN.out v9 W hW d2.out).mono ?_
            rintro e w' ⟨rfl, e1⟩
            exact ⟨rfl, e1⟩
          iterate 2 (refine ⟨fun W hW _ => by go_simp; first | exact ⟨Ext.refl _, rfl⟩ | rfl, ?_⟩)
          intro W hW _
          clear c0 c1 c2 c3
          go_simp
          go_wp2_with fail
          go_ret2
          exact ⟨_, rfl, hE'.out.trans hW, k, true, rfl, (fun _ => ⟨hfin.out, by omega, by omega⟩), (fun h => by cases h)⟩
        · have sn : ((N - k).sign == 0) = false := by rw [beq_eq_false_iff_ne]; exact fun e => hn (sub_sign.1 e)
          have hnx : ∀ j : Int, -2 ≤ j → j < k + 1 → ¬ (D = 1 ∧ N = j) := fun j h h' => by
            rcases Int.lt_or_le j k with h1 | h1
            · exact hj j h h1
            · obtain rfl : j = k := by omega
              exact fun h => hn h.2
          replace hnx := mkHid hnx
          generalize (N - k).sign = S at *
          replace hX := mkHid hX
          clear sd hd hn hj hE'
          go_wp2_with fail
          apply region_ext [.val _, .val _, .pred (fun W v => IntR W v 1), .val _, .val _, .val _, .val _, .val _, .val _, .pred (fun W v => IntR W v k), .val _, .val _, .val _] (by kernel_rfl) (stable_vals _ (stable_vals _ (st_intR _ (stable_vals _ (stable_vals _ (stable_vals _ (stable_vals _ (stable_vals _ (stable_vals _ (st_intR _ (stable_vals _ (stable_vals _ (stable_vals _ trivial)))))))))))))
          iterate 2 (refine ⟨fun W hW _ => by go_simp; first | exact ⟨Ext.refl _, rfl⟩ | rfl, ?_⟩)
          refine ⟨fun W hW _ => ?t2, fun v2 => ⟨fun W hW hF => ?t3, ?_⟩⟩
          case t2 =>
            go_simp
            refine (o1.out W).mono ?_
            rintro e w' ⟨v, rfl, e1, e2⟩
            exact ⟨v, rfl, e1, e2.r⟩
          case t3 =>
            have d2 : IntR W v2 1 := hF.1 (by kernel_rfl)
            replace d2 := mkHid d2
            clear hF
            go_simp
            refine (kD.out v2 W hW d2.out).mono ?_
            rintro e w' ⟨rfl, e1⟩
            exact ⟨rfl, e1⟩
          iterate 5 (refine ⟨fun W hW _ => by go_simp; first | exact ⟨Ext.refl _, rfl⟩ | rfl, ?_⟩)
          refine ⟨fun W hW _ => ?t9, fun v9 => ⟨fun W hW hF => ?t10, ?_⟩⟩
          case t9 =>
            go_simp
            refine (oK.out W).mono ?_
            rintro e w' ⟨v, rfl, e1, e2⟩
            exact ⟨v, rfl, e1, e2.r⟩
          case t10 =>
            have d2 : IntR W v9 k := hF.1 (by kernel_rfl)
            replace d2 := mkHid d2
            clear hF
            go_simp
            refine (kN.out v9 W hW d2.out).mono ?_
            rintro e w' ⟨rfl, e1⟩
            exact ⟨rfl, e1⟩
          iterate 2 (refine ⟨fun W hW _ => by go_simp; first | exact ⟨Ext.refl _, rfl⟩ | rfl, ?_⟩)
          intro W hW _
          clear c0 c1 c2 c3
          go_simp
          go_wp2_with fail
          go_roundw
          case rel => exact ⟨k + 1, by go_num, by omega, by omega, hX.out.trans hW, hnx.out⟩
          case measure => simp [intOf] <;> omega
      · have sd : (((D : Int) - 1).sign == 0) = false := by rw [beq_eq_false_iff_ne]; exact fun e => hd (by have := sub_sign.1 e; omega)
        have hnx : ∀ j : Int, -2 ≤ j → j < k + 1 → ¬ (D = 1 ∧ N = j) := fun j _ _ h => hd h.1
        replace hnx := mkHid hnx
        generalize ((D : Int) - 1).sign = S at *
        replace hX := mkHid hX
        clear hd hj hE'
        go_wp2_with fail
        apply region_ext [.val _, .val _, .pred (fun W v => IntR W v 1), .val _, .val _, .val _, .val _, .val _, .val _, .val _, .val _, .val _, .val _] (by kernel_rfl) (stable_vals _ (stable_vals _ (st_intR _ (stable_vals _ (stable_vals _ (stable_vals _ (stable_vals _ (stable_vals _ (stable_vals _ (stable_vals _ (stable_vals _ (stable_vals _ (stable_vals _ trivial)))))))))))))
        iterate 2 (refine ⟨fun W hW _ => by go_simp; first | exact ⟨Ext.refl _, rfl⟩ | rfl, ?_⟩)
        refine ⟨fun W hW _ => ?t2, fun v2 => ⟨fun W hW hF => ?t3, ?_⟩⟩
        case t2 =>
          go_simp
          refine (o1.out W).mono ?_
          rintro e w' ⟨v, rfl, e1, e2⟩
          exact ⟨v, rfl, e1, e2.r⟩
        case t3 =>
          have d2 : IntR W v2 1 := hF.1 (by kernel_rfl)
          replace d2 := mkHid d2
          clear hF
          go_simp
          refine (kD.out v2 W hW d2.out).mono ?_
          rintro e w' ⟨rfl, e1⟩
          exact ⟨rfl, e1⟩
        iterate 9 (refine ⟨fun W hW _ => by go_simp; first | exact ⟨Ext.refl _, rfl⟩ | rfl, ?_⟩)
        intro W hW _
        clear c0 c1 c2 c3
        go_simp
        go_wp2_with fail
        go_roundw
        case rel => exact ⟨k + 1, by go_num, by omega, by omega, hX.out.trans hW, hnx.out⟩
        case measure => simp [intOf] <;> omega
    · have hj' := mkHid hj
      have hE' := mkHid (hE.out.trans hX)
      clear hj hX
      go_wp2_with fail
      go_ret2
      exact ⟨_, rfl, hE'.out, 0, false, rfl, (fun h => by cases h), (fun _ j h1 h2 => by rw [ne_eq, h0.out]; exact hj'.out j h1 (by omega))⟩
end Go.Proofs.Ytpmfohhpaoagfaa
namespace Go.Proofs.Ytpmfohhpaoagfaa
open Go Go.RowKit Go.Proofs
def plainM (a b c d : Rat) : Bool := decide (b = 0 ∧ c = 0 ∧ a = d)
theorem num_sign (x : Rat) : x.num.sign = 0 ↔ x = 0 := by
  rw [Int.sign_eq_zero_iff_zero]
  exact ⟨fun h => Rat.num_eq_zero.1 h, fun h => by rw [h]; rfl⟩
theorem sign_beq {S : Int} {p : Prop} [Decidable p] (h : S = 0 ↔ p) : (S == 0) = decide p := by
  by_cases hp : p
  · rw [decide_eq_true hp, h.2 hp]; rfl
  · rw [decide_eq_false hp, beq_eq_false_iff_ne]
    exact fun e => hp (h.1 e)
set_option maxRecDepth 100000 in
set_option maxHeartbeats 3200000 in
theorem plain_f (v : Value) (a b c d : Rat) (w : World) (h : AnyM w v (some a) (some b) (some c) (some d)) :
    Calls Try.prog 76 #[v] w fun e w' => e = .returned (.bool (plainM a b c d)) ∧ Ext w w' := by
  obtain ⟨⟨A1, A2, A3, A4, A5, A6, A7, A8, B1, B2, B3, B4, B5, B6, B7, B8, C1, C2, C3, C4, C5, C6, C7, C8, D1, D2, D3, D4, D5, D6, D7, D8, rfl, f1, f2, f3, f4⟩, n1, n2, n3, n4⟩ := h.fracs
  clear h
  obtain ⟨wb, hwb⟩ : ∃ wb, wb = w.alloc (.cells #[.bool A1, .slice A2 A3 A4, .bool A5, .slice A6 A7 A8, .bool B1, .slice B2 B3 B4, .bool B5, .slice B6 B7 B8, .bool C1, .slice C2 C3 C4, .bool C5, .slice C6 C7 C8, .bool D1, .slice D2 D3 D4, .bool D5, .slice D6 D7 D8] 40) := ⟨_, rfl⟩
  have hE : Ext w wb := by rw [hwb]; exact (Ext.refl w).al _
  have z0 : wb.heap[w.heap.size]? = some (.cells #[.bool A1, .slice A2 A3 A4, .bool A5, .slice A6 A7 A8, .bool B1, .slice B2 B3 B4, .bool B5, .slice B6 B7 B8, .bool C1, .slice C2 C3 C4, .bool C5, .slice C6 C7 C8, .bool D1, .slice D2 D3 D4, .bool D5, .slice D6 D7 D8] 40 (0, 0)) := by rw [hwb]; exact heap_alloc_new _ _
  have kb := mkHid (fun W (e : Ext wb W) => sign_f (.agg #[.bool B1, .slice B2 B3 B4, .bool B5, .slice B6 B7 B8]) b W (by omega) ((f2.ext hE).ext e))
  have kc := mkHid (fun W (e : Ext wb W) => sign_f (.agg #[.bool C1, .slice C2 C3 C4, .bool C5, .slice C6 C7 C8]) c W (by omega) ((f3.ext hE).ext e))
  have kd := mkHid (fun W (e : Ext wb W) => cmp_f (.agg #[.bool A1, .slice A2 A3 A4, .bool A5, .slice A6 A7 A8]) (.agg #[.bool D1, .slice D2 D3 D4, .bool D5, .slice D6 D7 D8]) a d W (by omega) (by omega) ((f1.ext hE).ext e) ((f4.ext hE).ext e))
  have sb := sign_beq (num_sign b)
  have sc := sign_beq (num_sign c)
  have sd := sign_beq (cmp_zero a d)
  have hp : plainM a b c d = (decide (b = 0) && (decide (c = 0) && decide (a = d))) := by
    unfold plainM
    by_cases u1 : b = 0 <;> by_cases u2 : c = 0 <;> by_cases u3 : a = d <;> simp [u1, u2, u3]
  rw [hp]
  clear hp
  generalize b.num.sign = Sb at *
  generalize c.num.sign = Sc at *
  generalize (a.num * d.den - d.num * a.den).sign = Sd at *
  generalize decide (b = 0) = rb at *
  generalize decide (c = 0) = rc at *
  generalize decide (a = d) = rd at *
  replace z0 := mkHid z0
  replace hE := mkHid hE
  replace hwb := mkHid hwb
  clear f1 f2 f3 f4 n1 n2 n3 n4
  cases rb with
  | false =>
    go_enter Try.func76, Try.ntmps76
    go_wp2_with fail
    rw [← hwb.out]
    clear hwb
    refine (kb.out wb (Ext.refl _)).mono ?_
    rintro e w1 ⟨rfl, hE1⟩
    have hX := mkHid hE1
    clear hE1
    go_wp2_with fail
    go_ret
    exact ⟨rfl, hE.out.trans hX.out⟩
  | true =>
    go_enter Try.func76, Try.ntmps76
    go_wp2_with fail
    rw [← hwb.out]
    clear hwb
    refine (kb.out wb (Ext.refl _)).mono ?_
    rintro e w1 ⟨rfl, hE1⟩
    have y8 : w1.cell? ⟨w.heap.size, 8, none⟩ = some (.bool C1) := by simp [World.cell?, hE1.blk z0.out]
    have y9 : w1.cell? ⟨w.heap.size, 9, none⟩ = some (.slice C2 C3 C4) := by simp [World.cell?, hE1.blk z0.out]
    have y10 : w1.cell? ⟨w.heap.size, 10, none⟩ = some (.bool C5) := by simp [World.cell?, hE1.blk z0.out]
    have y11 : w1.cell? ⟨w.heap.size, 11, none⟩ = some (.slice C6 C7 C8) := by simp [World.cell?, hE1.blk z0.out]
    have hX := mkHid hE1
    clear hE1
    go_wp2_with fail
    refine (kc.out w1 hX.out).mono ?_
    rintro e w2 ⟨rfl, hE2⟩
    replace hX := mkHid (hX.out.trans hE2)
    clear y8 y9 y10 y11 hE2
    cases rc with
    | false =>
      go_wp2_with fail
      go_ret
      exact ⟨rfl, hE.out.trans hX.out⟩
    | true =>
      have y0 : w2.cell? ⟨w.heap.size, 0, none⟩ = some (.bool A1) := by simp [World.cell?, hX.out.blk z0.out]
      have y1 : w2.cell? ⟨w.heap.size, 1, none⟩ = some (.slice A2 A3 A4) := by simp [World.cell?, hX.out.blk z0.out]
      have y2 : w2.cell? ⟨w.heap.size, 2, none⟩ = some (.bool A5) := by simp [World.cell?, hX.out.blk z0.out]
      have y3 : w2.cell? ⟨w.heap.size, 3, none⟩ = some (.slice A6 A7 A8) := by simp [World.cell?, hX.out.blk z0.out]
      have y12 : w2.cell? ⟨w.heap.size, 12, none⟩ = some (.bool D1) := by simp [World.cell?, hX.out.blk z0.out]
      have y13 : w2.cell? ⟨w.heap.size, 13, none⟩ = some (.slice D2 D3 D4) := by simp [World.cell?, hX.out.blk z0.out]
      have y14 : w2.cell? ⟨w.heap.size, 14, none⟩ = some (.bool D5) := by simp [World.cell?, hX.out.blk z0.out]
      have y15 : w2.cell? ⟨w.heap.size, 15, none⟩ = some (.slice D6 D7 D8) := by simp [World.cell?, hX.out.blk z0.out]
      go_wp2_with fail
      refine (kd.out w2 hX.out).mono ?_
      rintro e w3 ⟨rfl, hE3⟩
      replace hX := mkHid (hX.out.trans hE3)
      clear y0 y1 y2 y3 y12 y13 y14 y15 hE3
      go_wp2_with fail
      go_ret
      refine ⟨?_, hE.out.trans hX.out⟩
      simp
/-- Behind how many trips every ray comes again. -/
def ordM (a b c d : Rat) : Int :=
  if a + d = 2 then (if plainM a b c d then 1 else 0) else if a + d = -2 then (if plainM a b c d then 2 else 0) else if a + d = -1 then 3 else if a + d = 0 then 4 else if a + d = 1 then 6 else 0
end Go.Proofs.Ytpmfohhpaoagfaa
namespace Go.Proofs.Ytpmfohhpaoagfaa
open Go Go.RowKit Go.Proofs
theorem ord_none {a b c d : Rat} (h : ∀ j : Int, -2 ≤ j → j ≤ 2 → a + d ≠ (j : Rat)) : ordM a b c d = 0 := by
  unfold ordM
  rw [if_neg (by simpa using h 2 (by omega) (by omega)), if_neg (by simpa using h (-2) (by omega) (by omega)), if_neg (by simpa using h (-1) (by omega) (by omega)), if_neg (by simpa using h 0 (by omega) (by omega)), if_neg (by simpa using h 1 (by omega) (by omega))]
theorem ord_2 {a b c d : Rat} (h : a + d = ((2 : Int) : Rat)) : ordM a b c d = if plainM a b c d then 1 else 0 := by
  unfold ordM
  rw [if_pos (by simpa using h)]
theorem ord_m2 {a b c d : Rat} (h : a + d = ((-2 : Int) : Rat)) : ordM a b c d = if plainM a b c d then 2 else 0 := by
  unfold ordM
  rw [h, if_neg (by decide), if_pos (by rfl)]
theorem ord_m1 {a b c d : Rat} (h : a + d = ((-1 : Int) : Rat)) : ordM a b c d = 3 := by
  unfold ordM
  rw [h, if_neg (by decide), if_neg (by decide), if_pos (by rfl)]
theorem ord_0 {a b c d : Rat} (h : a + d = ((0 : Int) : Rat)) : ordM a b c d = 4 := by
  unfold ordM
  rw [h, if_neg (by decide), if_neg (by decide), if_neg (by decide), if_pos (by rfl)]
theorem ord_1 {a b c d : Rat} (h : a + d = ((1 : Int) : Rat)) : ordM a b c d = 6 := by
  unfold ordM
  rw [h, if_neg (by decide), if_neg (by decide), if_neg (by decide), if_neg (by decide), if_pos (by rfl)]
set_option maxRecDepth 100000 in
set_option maxHeartbeats 3200000 in
theorem order_f (v : Value) (a b c d : Rat) (w : World) (h : AnyM w v (some a) (some b) (some c) (some d)) :
    Calls Try.prog 47 #[v] w fun e w' => e = .returned (.int .i64 (ordM a b c d)) ∧ Ext w w' := by
  have H := h
  obtain ⟨A1, A2, A3, A4, A5, A6, A7, A8, B1, B2, B3, B4, B5, B6, B7, B8, C1, C2, C3, C4, C5, C6, C7, C8, D1, D2, D3, D4, D5, D6, D7, D8, rfl, -⟩ := h
  obtain ⟨wb, hwb⟩ : ∃ wb, wb = w.alloc (.cells #[.bool A1, .slice A2 A3 A4, .bool A5, .slice A6 A7 A8, .bool B1, .slice B2 B3 B4, .bool B5, .slice B6 B7 B8, .bool C1, .slice C2 C3 C4, .bool C5, .slice C6 C7 C8, .bool D1, .slice D2 D3 D4, .bool D5, .slice D6 D7 D8] 40) := ⟨_, rfl⟩
  have hE : Ext w wb := by rw [hwb]; exact (Ext.refl w).al _
  have z0 : wb.heap[w.heap.size]? = some (.cells #[.bool A1, .slice A2 A3 A4, .bool A5, .slice A6 A7 A8, .bool B1, .slice B2 B3 B4, .bool B5, .slice B6 B7 B8, .bool C1, .slice C2 C3 C4, .bool C5, .slice C6 C7 C8, .bool D1, .slice D2 D3 D4, .bool D5, .slice D6 D7 D8] 40 (0, 0)) := by rw [hwb]; exact heap_alloc_new _ _
  have kt := mkHid (trace_f _ a b c d wb (H.ext hE))
  have kp := mkHid (fun W (e : Ext wb W) => plain_f _ a b c d W ((H.ext hE).ext e))
  have p2 := mkHid (@ord_2 a b c d)
  have pm2 := mkHid (@ord_m2 a b c d)
  have pm1 := mkHid (@ord_m1 a b c d)
  have p0 := mkHid (@ord_0 a b c d)
  have p1 := mkHid (@ord_1 a b c d)
  have pn := mkHid (@ord_none a b c d)
  generalize ordM a b c d = R at *
  generalize plainM a b c d = P at *
  generalize a + d = t at *
  replace z0 := mkHid z0
  replace hE := mkHid hE
  replace hwb := mkHid hwb
  clear H
  go_enter Try.func47, Try.ntmps47
  go_wp2_with fail
  rw [← hwb.out]
  clear hwb
  refine kt.out.mono ?_
  rintro e w1 ⟨v, rfl, hE1, k, o, rfl, ht, hf⟩
  replace z0 := mkHid (hE1.blk z0.out)
  replace hE := mkHid (hE.out.trans hE1)
  have hX := mkHid hE1
  clear hE1 kt
  cases o with
  | false =>
    obtain rfl := pn.out (hf rfl)
    clear ht hf p2 pm2 pm1 p0 p1 pn
    go_wp2_with fail
    go_ret
    exact ⟨rfl, hE.out⟩
  | true =>
    obtain ⟨h1, h2, h3⟩ := ht rfl
    have hk : k = -2 ∨ k = -1 ∨ k = 0 ∨ k = 1 ∨ k = 2 := by omega
    clear ht hf h2 h3
    rcases hk with rfl | rfl | rfl | rfl | rfl
    · replace p2 := pm2.out h1
      clear pm2 pm1 p0 p1 pn h1
      have y0 : w1.cell? ⟨w.heap.size, 0, none⟩ = some (.bool A1) := by simp [World.cell?, z0.out]
      have y1 : w1.cell? ⟨w.heap.size, 1, none⟩ = some (.slice A2 A3 A4) := by simp [World.cell?, z0.out]
      have y2 : w1.cell? ⟨w.heap.size, 2, none⟩ = some (.bool A5) := by simp [World.cell?, z0.out]
      have y3 : w1.cell? ⟨w.heap.size, 3, none⟩ = some (.slice A6 A7 A8) := by simp [World.cell?, z0.out]
      have y4 : w1.cell? ⟨w.heap.size, 4, none⟩ = some (.bool B1) := by simp [World.cell?, z0.out]
      have y5 : w1.cell? ⟨w.heap.size, 5, none⟩ = some (.slice B2 B3 B4) := by simp [World.cell?, z0.out]
      have y6 : w1.cell? ⟨w.heap.size, 6, none⟩ = some (.bool B5) := by simp [World.cell?, z0.out]
      have y7 : w1.cell? ⟨w.heap.size, 7, none⟩ = some (.slice B6 B7 B8) := by simp [World.cell?, z0.out]
      have y8 : w1.cell? ⟨w.heap.size, 8, none⟩ = some (.bool C1) := by simp [World.cell?, z0.out]
      have y9 : w1.cell? ⟨w.heap.size, 9, none⟩ = some (.slice C2 C3 C4) := by simp [World.cell?, z0.out]
      have y10 : w1.cell? ⟨w.heap.size, 10, none⟩ = some (.bool C5) := by simp [World.cell?, z0.out]
      have y11 : w1.cell? ⟨w.heap.size, 11, none⟩ = some (.slice C6 C7 C8) := by simp [World.cell?, z0.out]
      have y12 : w1.cell? ⟨w.heap.size, 12, none⟩ = some (.bool D1) := by simp [World.cell?, z0.out]
      have y13 : w1.cell? ⟨w.heap.size, 13, none⟩ = some (.slice D2 D3 D4) := by simp [World.cell?, z0.out]
      have y14 : w1.cell? ⟨w.heap.size, 14, none⟩ = some (.bool D5) := by simp [World.cell?, z0.out]
      have y15 : w1.cell? ⟨w.heap.size, 15, none⟩ = some (.slice D6 D7 D8) := by simp [World.cell?, z0.out]
      go_wp2_with fail
      refine (kp.out w1 hX.out).mono ?_
      rintro e w2 ⟨rfl, hE2⟩
      replace hE := mkHid (hE.out.trans hE2)
      clear hE2 y0 y1 y2 y3 y4 y5 y6 y7 y8 y9 y10 y11 y12 y13 y14 y15
      cases P with
      | false =>
        rw [if_neg (by decide)] at p2
        subst p2
        go_wp2_with fail
        go_ret
        exact ⟨rfl, hE.out⟩
      | true =>
        rw [if_pos rfl] at p2
        subst p2
        go_wp2_with fail
        go_ret
        exact ⟨rfl, hE.out⟩
    · obtain rfl := pm1.out h1
      clear p2 pm2 pm1 p0 p1 pn h1
      go_wp2_with fail
      go_ret
      exact ⟨rfl, hE.out⟩
    · obtain rfl := p0.out h1
      clear p2 pm2 pm1 p0 p1 pn h1
      go_wp2_with fail
      go_ret
      exact ⟨rfl, hE.out⟩
    · obtain rfl := p1.out h1
      clear p2 pm2 pm1 p0 p1 pn h1
      go_wp2_with fail
      go_ret
      exact ⟨rfl, hE.out⟩
    · replace p2 := p2.out h1
      clear pm2 pm1 p0 p1 pn h1
      have y0 : w1.cell? ⟨w.heap.size, 0, none⟩ = some (.bool A1) := by simp [World.cell?, z0.out]
      have y1 : w1.cell? ⟨w.heap.size, 1, none⟩ = some (.slice A2 A3 A4) := by simp [World.cell?, z0.out]
      have y2 : w1.cell? ⟨w.heap.size, 2, none⟩ = some (.bool A5) := by simp [World.cell?, z0.out]
      have y3 : w1.cell? ⟨w.heap.size, 3, none⟩ = some (.slice A6 A7 A8) := by simp [World.cell?, z0.out]
      have y4 : w1.cell? ⟨w.heap.size, 4, none⟩ = some (.bool B1) := by simp [World.cell?, z0.out]
      have y5 : w1.cell? ⟨w.heap.size, 5, none⟩ = some (.slice B2 B3 B4) := by simp [World.cell?, z0.out]
      have y6 : w1.cell? ⟨w.heap.size, 6, none⟩ = some (.bool B5) := by simp [World.cell?, z0.out]
      have y7 : w1.cell? ⟨w.heap.size, 7, none⟩ = some (.slice B6 B7 B8) := by simp [World.cell?, z0.out]
      have y8 : w1.cell? ⟨w.heap.size, 8, none⟩ = some (.bool C1) := by simp [World.cell?, z0.out]
      have y9 : w1.cell? ⟨w.heap.size, 9, none⟩ = some (.slice C2 C3 C4) := by simp [World.cell?, z0.out]
      have y10 : w1.cell? ⟨w.heap.size, 10, none⟩ = some (.bool C5) := by simp [World.cell?, z0.out]
      have y11 : w1.cell? ⟨w.heap.size, 11, none⟩ = some (.slice C6 C7 C8) := by simp [World.cell?, z0.out]
      have y12 : w1.cell? ⟨w.heap.size, 12, none⟩ = some (.bool D1) := by simp [World.cell?, z0.out]
      have y13 : w1.cell? ⟨w.heap.size, 13, none⟩ = some (.slice D2 D3 D4) := by simp [World.cell?, z0.out]
      have y14 : w1.cell? ⟨w.heap.size, 14, none⟩ = some (.bool D5) := by simp [World.cell?, z0.out]
      have y15 : w1.cell? ⟨w.heap.size, 15, none⟩ = some (.slice D6 D7 D8) := by simp [World.cell?, z0.out]
      go_wp2_with fail
      refine (kp.out w1 hX.out).mono ?_
      rintro e w2 ⟨rfl, hE2⟩
      replace hE := mkHid (hE.out.trans hE2)
      clear hE2 y0 y1 y2 y3 y4 y5 y6 y7 y8 y9 y10 y11 y12 y13 y14 y15
      cases P with
      | false =>
        rw [if_neg (by decide)] at p2
        subst p2
        go_wp2_with fail
        go_ret
        exact ⟨rfl, hE.out⟩
      | true =>
        rw [if_pos rfl] at p2
        subst p2
        go_wp2_with fail
        go_ret
        exact ⟨rfl, hE.out⟩
/-- What Order answers. -/
def ordO : Option Rat → Option Rat → Option Rat → Option Rat → Int
  | some a, some b, some c, some d => if a * d - b * c = 1 then ordM a b c d else 0
  | _, _, _, _ => 0
def ordE (oa ob oc od : Option Rat) : Int := if okM oa ob oc od then 0 else 1
set_option maxRecDepth 100000 in
set_option maxHeartbeats 3200000 in
theorem order_c (v : Value) (oa ob oc od : Option Rat) (w : World) (h : AnyM w v oa ob oc od) :
    Calls Try.prog 18 #[v] w fun e w' => e = .returned (.tuple #[.int .i64 (ordO oa ob oc od), .int .i64 (ordE oa ob oc od)]) ∧ Ext w w' := by
  have H := h
  obtain ⟨A1, A2, A3, A4, A5, A6, A7, A8, B1, B2, B3, B4, B5, B6, B7, B8, C1, C2, C3, C4, C5, C6, C7, C8, D1, D2, D3, D4, D5, D6, D7, D8, rfl, -⟩ := h
  obtain ⟨wb, hwb⟩ : ∃ wb, wb = w.alloc (.cells #[.bool A1, .slice A2 A3 A4, .bool A5, .slice A6 A7 A8, .bool B1, .slice B2 B3 B4, .bool B5, .slice B6 B7 B8, .bool C1, .slice C2 C3 C4, .bool C5, .slice C6 C7 C8, .bool D1, .slice D2 D3 D4, .bool D5, .slice D6 D7 D8] 40) := ⟨_, rfl⟩
  have hE : Ext w wb := by rw [hwb]; exact (Ext.refl w).al _
  have z0 : wb.heap[w.heap.size]? = some (.cells #[.bool A1, .slice A2 A3 A4, .bool A5, .slice A6 A7 A8, .bool B1, .slice B2 B3 B4, .bool B5, .slice B6 B7 B8, .bool C1, .slice C2 C3 C4, .bool C5, .slice C6 C7 C8, .bool D1, .slice D2 D3 D4, .bool D5, .slice D6 D7 D8] 40 (0, 0)) := by rw [hwb]; exact heap_alloc_new _ _
  have kc := mkHid (check_m _ _ _ _ _ wb (H.ext hE))
  by_cases hk : okM oa ob oc od = true
  · obtain ⟨a, ha⟩ : ∃ a, oa = some a := by cases oa with | none => exact absurd hk (by simp [okM]) | some a => exact ⟨a, rfl⟩
    obtain ⟨b, hb⟩ : ∃ b, ob = some b := by subst ha; cases ob with | none => exact absurd hk (by simp [okM]) | some a => exact ⟨a, rfl⟩
    obtain ⟨c, hc⟩ : ∃ c, oc = some c := by subst ha hb; cases oc with | none => exact absurd hk (by simp [okM]) | some a => exact ⟨a, rfl⟩
    obtain ⟨d, hd⟩ : ∃ d, od = some d := by subst ha hb hc; cases od with | none => exact absurd hk (by simp [okM]) | some a => exact ⟨a, rfl⟩
    subst ha hb hc hd
    have hdet : a * d - b * c = 1 := by simpa [okM] using hk
    have kp := mkHid (fun W (e : Ext wb W) => order_f _ a b c d W ((H.ext hE).ext e))
    have e1 : ordO (some a) (some b) (some c) (some d) = ordM a b c d := by show (if a * d - b * c = 1 then ordM a b c d else 0) = _; rw [if_pos hdet]
    have e2 : ordE (some a) (some b) (some c) (some d) = 0 := by unfold ordE; rw [if_pos hk]
    rw [e1, e2]
    rw [if_pos hk] at kc
    generalize ordM a b c d = R at *
    replace z0 := mkHid z0
    replace hE := mkHid hE
    replace hwb := mkHid hwb
    clear H hdet e1 e2 hk
    go_enter Try.func18, Try.ntmps18
    go_wp2_with fail
    rw [← hwb.out]
    clear hwb
    refine kc.out.mono ?_
    rintro e w1 ⟨rfl, hE1⟩
    replace z0 := mkHid (hE1.blk z0.out)
    replace hE := mkHid (hE.out.trans hE1)
    have hX := mkHid hE1
    clear hE1 kc
    have y0 : w1.cell? ⟨w.heap.size, 0, none⟩ = some (.bool A1) := by simp [World.cell?, z0.out]
    have y1 : w1.cell? ⟨w.heap.size, 1, none⟩ = some (.slice A2 A3 A4) := by simp [World.cell?, z0.out]
    have y2 : w1.cell? ⟨w.heap.size, 2, none⟩ = some (.bool A5) := by simp [World.cell?, z0.out]
    have y3 : w1.cell? ⟨w.heap.size, 3, none⟩ = some (.slice A6 A7 A8) := by simp [World.cell?, z0.out]
    have y4 : w1.cell? ⟨w.heap.size, 4, none⟩ = some (.bool B1) := by simp [World.cell?, z0.out]
    have y5 : w1.cell? ⟨w.heap.size, 5, none⟩ = some (.slice B2 B3 B4) := by simp [World.cell?, z0.out]
    have y6 : w1.cell? ⟨w.heap.size, 6, none⟩ = some (.bool B5) := by simp [World.cell?, z0.out]
    have y7 : w1.cell? ⟨w.heap.size, 7, none⟩ = some (.slice B6 B7 B8) := by simp [World.cell?, z0.out]
    have y8 : w1.cell? ⟨w.heap.size, 8, none⟩ = some (.bool C1) := by simp [World.cell?, z0.out]
    have y9 : w1.cell? ⟨w.heap.size, 9, none⟩ = some (.slice C2 C3 C4) := by simp [World.cell?, z0.out]
    have y10 : w1.cell? ⟨w.heap.size, 10, none⟩ = some (.bool C5) := by simp [World.cell?, z0.out]
    have y11 : w1.cell? ⟨w.heap.size, 11, none⟩ = some (.slice C6 C7 C8) := by simp [World.cell?, z0.out]
    have y12 : w1.cell? ⟨w.heap.size, 12, none⟩ = some (.bool D1) := by simp [World.cell?, z0.out]
    have y13 : w1.cell? ⟨w.heap.size, 13, none⟩ = some (.slice D2 D3 D4) := by simp [World.cell?, z0.out]
    have y14 : w1.cell? ⟨w.heap.size, 14, none⟩ = some (.bool D5) := by simp [World.cell?, z0.out]
    have y15 : w1.cell? ⟨w.heap.size, 15, none⟩ = some (.slice D6 D7 D8) := by simp [World.cell?, z0.out]
    go_wp2_with fail
    refine (kp.out w1 hX.out).mono ?_
    rintro e w2 ⟨rfl, hE2⟩
    replace hE := mkHid (hE.out.trans hE2)
    clear hE2 y0 y1 y2 y3 y4 y5 y6 y7 y8 y9 y10 y11 y12 y13 y14 y15
    go_wp2_with fail
    go_ret2
    exact ⟨rfl, hE.out⟩
  · have e1 : ordO oa ob oc od = 0 := by
      cases oa <;> cases ob <;> cases oc <;> cases od <;> first | rfl | skip
      rename_i a b c d
      show (if a * d - b * c = 1 then ordM a b c d else 0) = _
      rw [if_neg (by simpa [okM] using hk)]
    have e2 : ordE oa ob oc od = 1 := by unfold ordE; rw [if_neg hk]
    rw [e1, e2]
    rw [if_neg hk] at kc
    replace hE := mkHid hE
    replace hwb := mkHid hwb
    clear H z0 e1 e2 hk
    go_enter Try.func18, Try.ntmps18
    go_wp2_with fail
    rw [← hwb.out]
    clear hwb
    refine kc.out.mono ?_
    rintro e w1 ⟨rfl, hE1⟩
    replace hE := mkHid (hE.out.trans hE1)
    clear hE1 kc
    go_wp2_with fail
    go_ret2
    exact ⟨rfl, hE.out⟩
end Go.Proofs.Ytpmfohhpaoagfaa
