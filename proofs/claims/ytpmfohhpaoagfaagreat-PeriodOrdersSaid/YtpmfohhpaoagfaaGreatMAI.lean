/-
  period: trace. period: plain, order, Order. period: order, Order. law01: SameInt. law01: SameFrac, SameMatrix, SameRay: printed by tools/gen_same.py.
-/
import Derived.Test.YtpmfohhpaoagfaaGreatMAH
import Derived.Test.YtpmfohhpaoagfaaGreatMAF
import Derived.Test.YtpmfohhpaoagfaaGreatMAG
namespace Go.Proofs.YtpmfohhpaoagfaaGreat
open Go Go.RowKit Go.Proofs
theorem AnyM.fracs {w : World} {v : Value} {a b c d : Rat} (h : AnyM w v (some a) (some b) (some c) (some d)) : MatR w v a b c d ∧ nf a ≤ 2048 ∧ nf b ≤ 2048 ∧ nf c ≤ 2048 ∧ nf d ≤ 2048 := by
  obtain ⟨A1, A2, A3, A4, A5, A6, A7, A8, B1, B2, B3, B4, B5, B6, B7, B8, C1, C2, C3, C4, C5, C6, C7, C8, D1, D2, D3, D4, D5, D6, D7, D8, h0, h1, h2, h3, h4⟩ := h
  exact ⟨⟨A1, A2, A3, A4, A5, A6, A7, A8, B1, B2, B3, B4, B5, B6, B7, B8, C1, C2, C3, C4, C5, C6, C7, C8, D1, D2, D3, D4, D5, D6, D7, D8, h0, h1.frac.1, h2.frac.1, h3.frac.1, h4.frac.1⟩, h1.frac.2, h2.frac.2, h3.frac.2, h4.frac.2⟩
/-- The loop's state: the trace is none of the numbers so far. -/
def TrI (wo : World) (t : Rat) (k : Int) (wr : World) : Prop := Ext wo wr ∧ ∀ j : Int, -2 ≤ j → j < k → t ≠ (j : Rat)
/-- What trace answers. -/
def TrV (t : Rat) (v : Value) : Prop := ∃ (k : Int) (o : Bool), v = .tuple #[.int .i64 k, .bool o] ∧ (o = true → t = (k : Rat) ∧ -2 ≤ k ∧ k ≤ 2) ∧ (o = false → ∀ j : Int, -2 ≤ j → j ≤ 2 → t ≠ (j : Rat))
theorem rat_int {t : Rat} {k : Int} : t = (k : Rat) ↔ (t.den : Int) = 1 ∧ t.num = k := by
  constructor
  · rintro rfl
    simp
  · rintro ⟨h1, h2⟩
    have h := rat_den t
    have h3 : t.den = 1 := by omega
    rw [h3, h2] at h
    simpa using h
theorem st_intR {ss : List FSpec} (x : Int) (h : StableAll Ext ss) : StableAll Ext (.pred (fun W v => IntR W v x) :: ss) := ⟨fun _ _ _ e h => IntR.ext h e, h⟩
theorem sub_sign {X Y : Int} : (X - Y).sign = 0 ↔ X = Y := by
  rw [Int.sign_eq_zero_iff_zero]
  omega
set_option maxRecDepth 100000 in
set_option maxHeartbeats 3200000 in
theorem trace_f (v : Value) (a b c d : Rat) (w : World) (h : AnyM w v (some a) (some b) (some c) (some d)) :
    Calls Tryz.prog 44 #[v] w fun e w' => ∃ v, e = .returned v ∧ Ext w w' ∧ TrV (a + d) v := by
  obtain ⟨⟨A1, A2, A3, A4, A5, A6, A7, A8, B1, B2, B3, B4, B5, B6, B7, B8, C1, C2, C3, C4, C5, C6, C7, C8, D1, D2, D3, D4, D5, D6, D7, D8, rfl, f1, f2, f3, f4⟩, n1, n2, n3, n4⟩ := h.fracs
  clear h f2 f3 n2 n3
  have kp := mkHid (fun W h h' => plus_f (.agg #[.bool A1, .slice A2 A3 A4, .bool A5, .slice A6 A7 A8]) (.agg #[.bool D1, .slice D2 D3 D4, .bool D5, .slice D6 D7 D8]) a d W (by omega) (by omega) h h')
  have nt : nf (a + d) ≤ 4097 := by have := nf_add_le a d; omega
  have o1 := mkHid (fun w => of_c 1 w (by omega) (by omega))
  have bn : nl (a + d).num ≤ 1073741824 := Nat.le_trans (Nat.le_max_left _ _) (Nat.le_trans nt (by decide))
  have bd : nl ((a + d).den : Int) ≤ 1073741824 := Nat.le_trans (Nat.le_max_right _ _) (Nat.le_trans nt (by decide))
  have hrt : ∀ k : Int, (a + d) = (k : Rat) ↔ ((a + d).den : Int) = 1 ∧ (a + d).num = k := fun k => rat_int
  replace hrt := mkHid hrt
  replace f1 := mkHid f1
  replace f4 := mkHid f4
  clear n1 n4 nt
  go_enter Tryz.func44, Tryz.ntmps44
  go_wp2_with fail
  have hEa := (Ext.refl w).al (.cells #[.bool A1, .slice A2 A3 A4, .bool A5, .slice A6 A7 A8, .bool B1, .slice B2 B3 B4, .bool B5, .slice B6 B7 B8, .bool C1, .slice C2 C3 C4, .bool C5, .slice C6 C7 C8, .bool D1, .slice D2 D3 D4, .bool D5, .slice D6 D7 D8] 28)
  refine (kp.out _ (f1.out.ext hEa) (f4.out.ext hEa)).mono ?_
  rintro e w1 ⟨vt, rfl, hE1, hvt⟩
  obtain ⟨T1, T2, T3, T4, T5, T6, T7, T8, rfl⟩ := hvt.r.shape
  have hE := mkHid (hEa.trans hE1)
  replace hvt := mkHid hvt.r
  clear hEa hE1 kp f1 f4
  have h0 : ∀ k : Int, (a + d = (k : Rat)) = ((a + d).den = 1 ∧ (a + d).num = k) := fun k => by
    have := hrt.out k
    apply propext
    rw [this]
    omega
  have zT := heap_alloc_new w1 (.cells #[.bool T1, .slice T2 T3 T4, .bool T5, .slice T6 T7 T8] 26)
  have hEb := (Ext.refl w1).al (.cells #[.bool T1, .slice T2 T3 T4, .bool T5, .slice T6 T7 T8] 26)
  obtain ⟨wo, hwo⟩ : ∃ wo : World, wo = w1.alloc (.cells #[.bool T1, .slice T2 T3 T4, .bool T5, .slice T6 T7 T8] 26) := ⟨_, rfl⟩
  rw [← hwo] at zT hEb
  obtain ⟨gt, hgt⟩ : ∃ gt, gt = w1.heap.size := ⟨_, rfl⟩
  rw [← hgt] at zT
  replace hE := mkHid (hE.out.trans hEb)
  replace hvt := mkHid (hvt.out.ext hEb)
  have hnum := hvt.out.num
  have hden := hvt.out.den
  generalize (a + d).num = N at *
  generalize (a + d).den = D at *
  replace hnum := mkHid hnum
  replace hden := mkHid hden
  replace h0 := mkHid h0
  replace zT := mkHid zT
  clear hvt hrt hEb
  go_wp2_with fail
  rw [← hgt, ← hwo]
  clear hgt hwo
  go_loopw [5] (fun i wr => ∃ k : Int, i = .int .i64 k ∧ -2 ≤ k ∧ k ≤ 3 ∧ Ext wo wr ∧ ∀ j : Int, -2 ≤ j → j < k → ¬ (D = 1 ∧ N = j)) (fun i _ => (3 - intOf i).toNat)
  case atStart => exact ⟨-2, rfl, by omega, by omega, Ext.refl _, fun j h h' => absurd h (by omega)⟩
  case round =>
    obtain ⟨k, rfl, hk1, hk2, hX, hj⟩ := hrel
    by_cases hlt : k ≤ 2
    · have c0 : ∀ W, Ext wr W → W.cell? ⟨gt, 0, none⟩ = some (.bool T1) := fun W e => by simp [World.cell?, (hX.trans e).blk zT.out]
      have c1 : ∀ W, Ext wr W → W.cell? ⟨gt, 1, none⟩ = some (.slice T2 T3 T4) := fun W e => by simp [World.cell?, (hX.trans e).blk zT.out]
      have c2 : ∀ W, Ext wr W → W.cell? ⟨gt, 2, none⟩ = some (.bool T5) := fun W e => by simp [World.cell?, (hX.trans e).blk zT.out]
      have c3 : ∀ W, Ext wr W → W.cell? ⟨gt, 3, none⟩ = some (.slice T6 T7 T8) := fun W e => by simp [World.cell?, (hX.trans e).blk zT.out]
      have kD := mkHid (fun v W (e : Ext wr W) h => cmp_c (.agg #[.bool T5, .slice T6 T7 T8]) v (D : Int) 1 W bd nl_one (hden.out.ext (hX.trans e)) h)
      have oK := mkHid (fun W => of_c k W (by omega) (by omega))
      have kN := mkHid (fun v W (e : Ext wr W) h => cmp_c (.agg #[.bool T1, .slice T2 T3 T4]) v N k W bn (Nat.le_trans (nl_small (show k.natAbs < 4294967296 by omega)) (by decide)) (hnum.out.ext (hX.trans e)) h)
      have hE' := mkHid (hE.out.trans hX)
      by_cases hd : D = 1
      · have sd : ((D : Int) - 1).sign = 0 := sub_sign.2 (by omega)
        rw [sd] at kD
        by_cases hn : N = k
        · have sn : (N - k).sign = 0 := sub_sign.2 hn
          rw [sn] at kN
          have hfin : a + d = (k : Rat) := by rw [h0.out]; exact ⟨hd, hn⟩
          replace hfin := mkHid hfin
          replace hj := mkHid hj
          replace hX := mkHid hX
          clear sd sn hd hn hj
          go_wp2_with fail
          apply region_ext [.val _, .val _, .pred (fun W v => IntR W v 1), .val _, .val _, .val _, .val _, .val _, .val _, .pred (fun W v => IntR W v k), .val _, .val _, .val _] (by kernel_rfl) (stable_vals _ (stable_vals _ (st_intR _ (stable_vals _ (stable_vals _ (stable_vals _ (stable_vals _ (stable_vals _ (stable_vals _ (st_intR _ (stable_vals _ (stable_vals _ (stable_vals _ trivial)))))))))))))
          iterate 2 (refine ⟨fun W hW _ => by go_simp; first | exact ⟨Ext.refl _, rfl⟩ | rfl, ?_⟩)
          refine ⟨fun W hW _ => ?t2, fun v2 => ⟨fun W hW hF => ?t3, ?_⟩⟩
          case t2 =>
            go_simp
            refine (o1.out W).mono ?_
            rintro e w' ⟨v, rfl, e1, e2⟩
            exact ⟨v, rfl, e1, e2.r⟩
          case t3 =>
            have d2 : IntR W v2 1 := hF.1 (by kernel_rfl)
            replace d2 := mkHid d2
            clear hF
            go_simp
            refine (kD.out v2 W hW d2.out).mono ?_
            rintro e w' ⟨rfl, e1⟩
            exact ⟨rfl, e1⟩
          iterate 5 (refine ⟨fun W hW _ => by go_simp; first | exact ⟨Ext.refl _, rfl⟩ | rfl, ?_⟩)
          refine ⟨fun W hW _ => ?t9, fun v9 => ⟨fun W hW hF => ?t10, ?_⟩⟩
          case t9 =>
            go_simp
            refine (oK.out W).mono ?_
            rintro e w' ⟨v, rfl, e1, e2⟩
            exact ⟨v, rfl, e1, e2.r⟩
          case t10 =>
            have d2 : IntR W v9 k := hF.1 (by kernel_rfl)
            replace d2 := mkHid d2
            clear hF
            go_simp
            refine (kN.out v9 W hW d2.out).mono ?_
            rintro e w' ⟨rfl, e1⟩
            exact ⟨rfl, e1⟩
          iterate 2 (refine ⟨fun W hW _ => by go_simp; first | exact ⟨Ext.refl _, rfl⟩ | rfl, ?_⟩)
          intro W hW _
          clear c0 c1 c2 c3
          go_simp
          go_wp2_with fail
          go_ret2
          exact ⟨_, rfl, hE'.out.trans hW, k, true, rfl, (fun _ => ⟨hfin.out, by omega, by omega⟩), (fun h => by cases h)⟩
        · have sn : ((N - k).sign == 0) = false := by rw [beq_eq_false_iff_ne]; exact fun e => hn (sub_sign.1 e)
          have hnx : ∀ j : Int, -2 ≤ j → j < k + 1 → ¬ (D = 1 ∧ N = j) := fun j h h' => by
            rcases Int.lt_or_le j k with h1 | h1
            · exact hj j h h1
            · obtain rfl : j = k := by omega
              exact fun h => hn h.2
          replace hnx := mkHid hnx
          generalize (N - k).sign = S at *
          replace hX := mkHid hX
          clear sd hd hn hj hE'
          go_wp2_with fail
          apply region_ext [.val _, .val _, .pred (fun W v => IntR W v 1), .val _, .val _, .val _, .val _, .val _, .val _, .pred (fun W v => IntR W v k), .val _, .val _, .val _] (by kernel_rfl) (stable_vals _ (stable_vals _ (st_intR _ (stable_vals _ (stable_vals _ (stable_vals _ (stable_vals _ (stable_vals _ (stable_vals _ (st_intR _ (stable_vals _ (stable_vals _ (stable_vals _ trivial)))))))))))))
          iterate 2 (refine ⟨fun W hW _ => by go_simp; first | exact ⟨Ext.refl _, rfl⟩ | rfl, ?_⟩)
          refine ⟨fun W hW _ => ?t2, fun v2 => ⟨fun W hW hF => ?t3, ?_⟩⟩
          case t2 =>
            go_simp
            refine (o1.out W).mono ?_
            rintro e w' ⟨v, rfl, e1, e2⟩
            exact ⟨v, rfl, e1, e2.r⟩
          case t3 =>
            have d2 : IntR W v2 1 := hF.1 (by kernel_rfl)
            replace d2 := mkHid d2
            clear hF
            go_simp
            refine (kD.out v2 W hW d2.out).mono ?_
            rintro e w' ⟨rfl, e1⟩
            exact ⟨rfl, e1⟩
          iterate 5 (refine ⟨fun W hW _ => by go_simp; first | exact ⟨Ext.refl _, rfl⟩ | rfl, ?_⟩)
          refine ⟨fun W hW _ => ?t9, fun v9 => ⟨fun W hW hF => ?t10, ?_⟩⟩
          case t9 =>
            go_simp
            refine (oK.out W).mono ?_
            rintro e w' ⟨v, rfl, e1, e2⟩
            exact ⟨v, rfl, e1, e2.r⟩
          case t10 =>
            have d2 : IntR W v9 k := hF.1 (by kernel_rfl)
            replace d2 := mkHid d2
            clear hF
            go_simp
            refine (kN.out v9 W hW d2.out).mono ?_
            rintro e w' ⟨rfl, e1⟩
            exact ⟨rfl, e1⟩
          iterate 2 (refine ⟨fun W hW _ => by go_simp; first | exact ⟨Ext.refl _, rfl⟩ | rfl, ?_⟩)
          intro W hW _
          clear c0 c1 c2 c3
          go_simp
          go_wp2_with fail
          go_roundw
          case rel => exact ⟨k + 1, by go_num, by omega, by omega, hX.out.trans hW, hnx.out⟩
          case measure => simp [intOf] <;> omega
      · have sd : (((D : Int) - 1).sign == 0) = false := by rw [beq_eq_false_iff_ne]; exact fun e => hd (by have := sub_sign.1 e; omega)
        have hnx : ∀ j : Int, -2 ≤ j → j < k + 1 → ¬ (D = 1 ∧ N = j) := fun j _ _ h => hd h.1
        replace hnx := mkHid hnx
        generalize ((D : Int) - 1).sign = S at *
        replace hX := mkHid hX
        clear hd hj hE'
        go_wp2_with fail
        apply region_ext [.val _, .val _, .pred (fun W v => IntR W v 1), .val _, .val _, .val _, .val _, .val _, .val _, .val _, .val _, .val _, .val _] (by kernel_rfl) (stable_vals _ (stable_vals _ (st_intR _ (stable_vals _ (stable_vals _ (stable_vals _ (stable_vals _ (stable_vals _ (stable_vals _ (stable_vals _ (stable_vals _ (stable_vals _ (stable_vals _ trivial)))))))))))))
        iterate 2 (refine ⟨fun W hW _ => by go_simp; first | exact ⟨Ext.refl _, rfl⟩ | rfl, ?_⟩)
        refine ⟨fun W hW _ => ?t2, fun v2 => ⟨fun W hW hF => ?t3, ?_⟩⟩
        case t2 =>
          go_simp
          refine (o1.out W).mono ?_
          rintro e w' ⟨v, rfl, e1, e2⟩
          exact ⟨v, rfl, e1, e2.r⟩
        case t3 =>
          have d2 : IntR W v2 1 := hF.1 (by kernel_rfl)
          replace d2 := mkHid d2
          clear hF
          go_simp
          refine (kD.out v2 W hW d2.out).mono ?_
          rintro e w' ⟨rfl, e1⟩
          exact ⟨rfl, e1⟩
        iterate 9 (refine ⟨fun W hW _ => by go_simp; first | exact ⟨Ext.refl _, rfl⟩ | rfl, ?_⟩)
        intro W hW _
        clear c0 c1 c2 c3
        go_simp
        go_wp2_with fail
        go_roundw
        case rel => exact ⟨k + 1, by go_num, by omega, by omega, hX.out.trans hW, hnx.out⟩
        case measure => simp [intOf] <;> omega
    · have hj' := mkHid hj
      have hE' := mkHid (hE.out.trans hX)
      clear hj hX
      go_wp2_with fail
      go_ret2
      exact ⟨_, rfl, hE'.out, 0, false, rfl, (fun h => by cases h), (fun _ j h1 h2 => by rw [ne_eq, h0.out]; exact hj'.out j h1 (by omega))⟩
end Go.Proofs.YtpmfohhpaoagfaaGreat
namespace Go.Proofs.YtpmfohhpaoagfaaGreat
open Go Go.RowKit Go.Proofs
def plainM (a b c d : Rat) : Bool := decide (b = 0 ∧ c = 0 ∧ a = d)
theorem num_sign (x : Rat) : x.num.sign = 0 ↔ x = 0 := by
  rw [Int.sign_eq_zero_iff_zero]
  exact ⟨fun h => Rat.num_eq_zero.1 h, fun h => by rw [h]; rfl⟩
theorem sign_beq {S : Int} {p : Prop} [Decidable p] (h : S = 0 ↔ p) : (S == 0) = decide p := by
  by_cases hp : p
  · rw [decide_eq_true hp, h.2 hp]; rfl
  · rw [decide_eq_false hp, beq_eq_false_iff_ne]
    exact fun e => hp (h.1 e)
set_option maxRecDepth 100000 in
set_option maxHeartbeats 3200000 in
theorem plain_f (v : Value) (a b c d : Rat) (w : World) (h : AnyM w v (some a) (some b) (some c) (some d)) :
    Calls Tryz.prog 45 #[v] w fun e w' => e = .returned (.bool (plainM a b c d)) ∧ Ext w w' := by
  obtain ⟨⟨A1, A2, A3, A4, A5, A6, A7, A8, B1, B2, B3, B4, B5, B6, B7, B8, C1, C2, C3, C4, C5, C6, C7, C8, D1, D2, D3, D4, D5, D6, D7, D8, rfl, f1, f2, f3, f4⟩, n1, n2, n3, n4⟩ := h.fracs
  clear h
  obtain ⟨wb, hwb⟩ : ∃ wb, wb = w.alloc (.cells #[.bool A1, .slice A2 A3 A4, .bool A5, .slice A6 A7 A8, .bool B1, .slice B2 B3 B4, .bool B5, .slice B6 B7 B8, .bool C1, .slice C2 C3 C4, .bool C5, .slice C6 C7 C8, .bool D1, .slice D2 D3 D4, .bool D5, .slice D6 D7 D8] 28) := ⟨_, rfl⟩
  have hE : Ext w wb := by rw [hwb]; exact (Ext.refl w).al _
  have z0 : wb.heap[w.heap.size]? = some (.cells #[.bool A1, .slice A2 A3 A4, .bool A5, .slice A6 A7 A8, .bool B1, .slice B2 B3 B4, .bool B5, .slice B6 B7 B8, .bool C1, .slice C2 C3 C4, .bool C5, .slice C6 C7 C8, .bool D1, .slice D2 D3 D4, .bool D5, .slice D6 D7 D8] 28 (0, 0)) := by rw [hwb]; exact heap_alloc_new _ _
  have kb := mkHid (fun W (e : Ext wb W) => sign_f (.agg #[.bool B1, .slice B2 B3 B4, .bool B5, .slice B6 B7 B8]) b W (by omega) ((f2.ext hE).ext e))
  have kc := mkHid (fun W (e : Ext wb W) => sign_f (.agg #[.bool C1, .slice C2 C3 C4, .bool C5, .slice C6 C7 C8]) c W (by omega) ((f3.ext hE).ext e))
  have kd := mkHid (fun W (e : Ext wb W) => cmp_f (.agg #[.bool A1, .slice A2 A3 A4, .bool A5, .slice A6 A7 A8]) (.agg #[.bool D1, .slice D2 D3 D4, .bool D5, .slice D6 D7 D8]) a d W (by omega) (by omega) ((f1.ext hE).ext e) ((f4.ext hE).ext e))
  have sb := sign_beq (num_sign b)
  have sc := sign_beq (num_sign c)
  have sd := sign_beq (cmp_zero a d)
  have hp : plainM a b c d = (decide (b = 0) && (decide (c = 0) && decide (a = d))) := by
    unfold plainM
    by_cases u1 : b = 0 <;> by_cases u2 : c = 0 <;> by_cases u3 : a = d <;> simp [u1, u2, u3]
  rw [hp]
  clear hp
  generalize b.num.sign = Sb at *
  generalize c.num.sign = Sc at *
  generalize (a.num * d.den - d.num * a.den).sign = Sd at *
  generalize decide (b = 0) = rb at *
  generalize decide (c = 0) = rc at *
  generalize decide (a = d) = rd at *
  replace z0 := mkHid z0
  replace hE := mkHid hE
  replace hwb := mkHid hwb
  clear f1 f2 f3 f4 n1 n2 n3 n4
  cases rb with
  | false =>
    go_enter Tryz.func45, Tryz.ntmps45
    go_wp2_with fail
    rw [← hwb.out]
    clear hwb
    refine (kb.out wb (Ext.refl _)).mono ?_
    rintro e w1 ⟨rfl, hE1⟩
    have hX := mkHid hE1
    clear hE1
    go_wp2_with fail
    go_ret
    exact ⟨rfl, hE.out.trans hX.out⟩
  | true =>
    go_enter Tryz.func45, Tryz.ntmps45
    go_wp2_with fail
    rw [← hwb.out]
    clear hwb
    refine (kb.out wb (Ext.refl _)).mono ?_
    rintro e w1 ⟨rfl, hE1⟩
    have y8 : w1.cell? ⟨w.heap.size, 8, none⟩ = some (.bool C1) := by simp [World.cell?, hE1.blk z0.out]
    have y9 : w1.cell? ⟨w.heap.size, 9, none⟩ = some (.slice C2 C3 C4) := by simp [World.cell?, hE1.blk z0.out]
    have y10 : w1.cell? ⟨w.heap.size, 10, none⟩ = some (.bool C5) := by simp [World.cell?, hE1.blk z0.out]
    have y11 : w1.cell? ⟨w.heap.size, 11, none⟩ = some (.slice C6 C7 C8) := by simp [World.cell?, hE1.blk z0.out]
    have hX := mkHid hE1
    clear hE1
    go_wp2_with fail
    refine (kc.out w1 hX.out).mono ?_
    rintro e w2 ⟨rfl, hE2⟩
    replace hX := mkHid (hX.out.trans hE2)
    clear y8 y9 y10 y11 hE2
    cases rc with
    | false =>
      go_wp2_with fail
      go_ret
      exact ⟨rfl, hE.out.trans hX.out⟩
    | true =>
      have y0 : w2.cell? ⟨w.heap.size, 0, none⟩ = some (.bool A1) := by simp [World.cell?, hX.out.blk z0.out]
      have y1 : w2.cell? ⟨w.heap.size, 1, none⟩ = some (.slice A2 A3 A4) := by simp [World.cell?, hX.out.blk z0.out]
      have y2 : w2.cell? ⟨w.heap.size, 2, none⟩ = some (.bool A5) := by simp [World.cell?, hX.out.blk z0.out]
      have y3 : w2.cell? ⟨w.heap.size, 3, none⟩ = some (.slice A6 A7 A8) := by simp [World.cell?, hX.out.blk z0.out]
      have y12 : w2.cell? ⟨w.heap.size, 12, none⟩ = some (.bool D1) := by simp [World.cell?, hX.out.blk z0.out]
      have y13 : w2.cell? ⟨w.heap.size, 13, none⟩ = some (.slice D2 D3 D4) := by simp [World.cell?, hX.out.blk z0.out]
      have y14 : w2.cell? ⟨w.heap.size, 14, none⟩ = some (.bool D5) := by simp [World.cell?, hX.out.blk z0.out]
      have y15 : w2.cell? ⟨w.heap.size, 15, none⟩ = some (.slice D6 D7 D8) := by simp [World.cell?, hX.out.blk z0.out]
      go_wp2_with fail
      refine (kd.out w2 hX.out).mono ?_
      rintro e w3 ⟨rfl, hE3⟩
      replace hX := mkHid (hX.out.trans hE3)
      clear y0 y1 y2 y3 y12 y13 y14 y15 hE3
      go_wp2_with fail
      go_ret
      refine ⟨?_, hE.out.trans hX.out⟩
      simp
/-- Behind how many trips every ray comes again. -/
def ordM (a b c d : Rat) : Int :=
  if a + d = 2 then (if plainM a b c d then 1 else 0) else if a + d = -2 then (if plainM a b c d then 2 else 0) else if a + d = -1 then 3 else if a + d = 0 then 4 else if a + d = 1 then 6 else 0
end Go.Proofs.YtpmfohhpaoagfaaGreat
namespace Go.Proofs.YtpmfohhpaoagfaaGreat
open Go Go.RowKit Go.Proofs
theorem ord_none {a b c d : Rat} (h : ∀ j : Int, -2 ≤ j → j ≤ 2 → a + d ≠ (j : Rat)) : ordM a b c d = 0 := by
  unfold ordM
  rw [if_neg (by simpa using h 2 (by omega) (by omega)), if_neg (by simpa using h (-2) (by omega) (by omega)), if_neg (by simpa using h (-1) (by omega) (by omega)), if_neg (by simpa using h 0 (by omega) (by omega)), if_neg (by simpa using h 1 (by omega) (by omega))]
theorem ord_2 {a b c d : Rat} (h : a + d = ((2 : Int) : Rat)) : ordM a b c d = if plainM a b c d then 1 else 0 := by
  unfold ordM
  rw [if_pos (by simpa using h)]
theorem ord_m2 {a b c d : Rat} (h : a + d = ((-2 : Int) : Rat)) : ordM a b c d = if plainM a b c d then 2 else 0 := by
  unfold ordM
  rw [h, if_neg (by decide), if_pos (by rfl)]
theorem ord_m1 {a b c d : Rat} (h : a + d = ((-1 : Int) : Rat)) : ordM a b c d = 3 := by
  unfold ordM
  rw [h, if_neg (by decide), if_neg (by decide), if_pos (by rfl)]
theorem ord_0 {a b c d : Rat} (h : a + d = ((0 : Int) : Rat)) : ordM a b c d = 4 := by
  unfold ordM
  rw [h, if_neg (by decide), if_neg (by decide), if_neg (by decide), if_pos (by rfl)]
theorem ord_1 {a b c d : Rat} (h : a + d = ((1 : Int) : Rat)) : ordM a b c d = 6 := by
  unfold ordM
  rw [h, if_neg (by decide), if_neg (by decide), if_neg (by decide), if_neg (by decide), if_pos (by rfl)]
set_option maxRecDepth 100000 in
set_option maxHeartbeats 3200000 in
theorem order_f (v : Value) (a b c d : Rat) (w : World) (h : AnyM w v (some a) (some b) (some c) (some d)) :
    Calls Tryz.prog 19 #[v] w fun e w' => e = .returned (.int .i64 (ordM a b c d)) ∧ Ext w w' := by
  have H := h
  obtain ⟨A1, A2, A3, A4, A5, A6, A7, A8, B1, B2, B3, B4, B5, B6, B7, B8, C1, C2, C3, C4, C5, C6, C7, C8, D1, D2, D3, D4, D5, D6, D7, D8, rfl, -⟩ := h
  obtain ⟨wb, hwb⟩ : ∃ wb, wb = w.alloc (.cells #[.bool A1, .slice A2 A3 A4, .bool A5, .slice A6 A7 A8, .bool B1, .slice B2 B3 B4, .bool B5, .slice B6 B7 B8, .bool C1, .slice C2 C3 C4, .bool C5, .slice C6 C7 C8, .bool D1, .slice D2 D3 D4, .bool D5, .slice D6 D7 D8] 28) := ⟨_, rfl⟩
  have hE : Ext w wb := by rw [hwb]; exact (Ext.refl w).al _
  have z0 : wb.heap[w.heap.size]? = some (.cells #[.bool A1, .slice A2 A3 A4, .bool A5, .slice A6 A7 A8, .bool B1, .slice B2 B3 B4, .bool B5, .slice B6 B7 B8, .bool C1, .slice C2 C3 C4, .bool C5, .slice C6 C7 C8, .bool D1, .slice D2 D3 D4, .bool D5, .slice D6 D7 D8] 28 (0, 0)) := by rw [hwb]; exact heap_alloc_new _ _
  have kt := mkHid (trace_f _ a b c d wb (H.ext hE))
  have kp := mkHid (fun W (e : Ext wb W) => plain_f _ a b c d W ((H.ext hE).ext e))
  have p2 := mkHid (@ord_2 a b c d)
  have pm2 := mkHid (@ord_m2 a b c d)
  have pm1 := mkHid (@ord_m1 a b c d)
  have p0 := mkHid (@ord_0 a b c d)
  have p1 := mkHid (@ord_1 a b c d)
  have pn := mkHid (@ord_none a b c d)
  generalize ordM a b c d = R at *
  generalize plainM a b c d = P at *
  generalize a + d = t at *
  replace z0 := mkHid z0
  replace hE := mkHid hE
  replace hwb := mkHid hwb
  clear H
  go_enter Tryz.func19, Tryz.ntmps19
  go_wp2_with fail
  rw [← hwb.out]
  clear hwb
  refine kt.out.mono ?_
  rintro e w1 ⟨v, rfl, hE1, k, o, rfl, ht, hf⟩
  replace z0 := mkHid (hE1.blk z0.out)
  replace hE := mkHid (hE.out.trans hE1)
  have hX := mkHid hE1
  clear hE1 kt
  cases o with
  | false =>
    obtain rfl := pn.out (hf rfl)
    clear ht hf p2 pm2 pm1 p0 p1 pn
    go_wp2_with fail
    go_ret
    exact ⟨rfl, hE.out⟩
  | true =>
    obtain ⟨h1, h2, h3⟩ := ht rfl
    have hk : k = -2 ∨ k = -1 ∨ k = 0 ∨ k = 1 ∨ k = 2 := by omega
    clear ht hf h2 h3
    rcases hk with rfl | rfl | rfl | rfl | rfl
    · replace p2 := pm2.out h1
      clear pm2 pm1 p0 p1 pn h1
      have y0 : w1.cell? ⟨w.heap.size, 0, none⟩ = some (.bool A1) := by simp [World.cell?, z0.out]
      have y1 : w1.cell? ⟨w.heap.size, 1, none⟩ = some (.slice A2 A3 A4) := by simp [World.cell?, z0.out]
      have y2 : w1.cell? ⟨w.heap.size, 2, none⟩ = some (.bool A5) := by simp [World.cell?, z0.out]
      have y3 : w1.cell? ⟨w.heap.size, 3, none⟩ = some (.slice A6 A7 A8) := by simp [World.cell?, z0.out]
      have y4 : w1.cell? ⟨w.heap.size, 4, none⟩ = some (.bool B1) := by simp [World.cell?, z0.out]
      have y5 : w1.cell? ⟨w.heap.size, 5, none⟩ = some (.slice B2 B3 B4) := by simp [World.cell?, z0.out]
      have y6 : w1.cell? ⟨w.heap.size, 6, none⟩ = some (.bool B5) := by simp [World.cell?, z0.out]
      have y7 : w1.cell? ⟨w.heap.size, 7, none⟩ = some (.slice B6 B7 B8) := by simp [World.cell?, z0.out]
      have y8 : w1.cell? ⟨w.heap.size, 8, none⟩ = some (.bool C1) := by simp [World.cell?, z0.out]
      have y9 : w1.cell? ⟨w.heap.size, 9, none⟩ = some (.slice C2 C3 C4) := by simp [World.cell?, z0.out]
      have y10 : w1.cell? ⟨w.heap.size, 10, none⟩ = some (.bool C5) := by simp [World.cell?, z0.out]
      have y11 : w1.cell? ⟨w.heap.size, 11, none⟩ = some (.slice C6 C7 C8) := by simp [World.cell?, z0.out]
      have y12 : w1.cell? ⟨w.heap.size, 12, none⟩ = some (.bool D1) := by simp [World.cell?, z0.out]
      have y13 : w1.cell? ⟨w.heap.size, 13, none⟩ = some (.slice D2 D3 D4) := by simp [World.cell?, z0.out]
      have y14 : w1.cell? ⟨w.heap.size, 14, none⟩ = some (.bool D5) := by simp [World.cell?, z0.out]
      have y15 : w1.cell? ⟨w.heap.size, 15, none⟩ = some (.slice D6 D7 D8) := by simp [World.cell?, z0.out]
      go_wp2_with fail
      refine (kp.out w1 hX.out).mono ?_
      rintro e w2 ⟨rfl, hE2⟩
      replace hE := mkHid (hE.out.trans hE2)
      clear hE2 y0 y1 y2 y3 y4 y5 y6 y7 y8 y9 y10 y11 y12 y13 y14 y15
      cases P with
      | false =>
        rw [if_neg (by decide)] at p2
        subst p2
        go_wp2_with fail
        go_ret
        exact ⟨rfl, hE.out⟩
      | true =>
        rw [if_pos rfl] at p2
        subst p2
        go_wp2_with fail
        go_ret
        exact ⟨rfl, hE.out⟩
    · obtain rfl := pm1.out h1
      clear p2 pm2 pm1 p0 p1 pn h1
      go_wp2_with fail
      go_ret
      exact ⟨rfl, hE.out⟩
    · obtain rfl := p0.out h1
      clear p2 pm2 pm1 p0 p1 pn h1
      go_wp2_with fail
      go_ret
      exact ⟨rfl, hE.out⟩
    · obtain rfl := p1.out h1
      clear p2 pm2 pm1 p0 p1 pn h1
      go_wp2_with fail
      go_ret
      exact ⟨rfl, hE.out⟩
    · replace p2 := p2.out h1
      clear pm2 pm1 p0 p1 pn h1
      have y0 : w1.cell? ⟨w.heap.size, 0, none⟩ = some (.bool A1) := by simp [World.cell?, z0.out]
      have y1 : w1.cell? ⟨w.heap.size, 1, none⟩ = some (.slice A2 A3 A4) := by simp [World.cell?, z0.out]
      have y2 : w1.cell? ⟨w.heap.size, 2, none⟩ = some (.bool A5) := by simp [World.cell?, z0.out]
      have y3 : w1.cell? ⟨w.heap.size, 3, none⟩ = some (.slice A6 A7 A8) := by simp [World.cell?, z0.out]
      have y4 : w1.cell? ⟨w.heap.size, 4, none⟩ = some (.bool B1) := by simp [World.cell?, z0.out]
      have y5 : w1.cell? ⟨w.heap.size, 5, none⟩ = some (.slice B2 B3 B4) := by simp [World.cell?, z0.out]
      have y6 : w1.cell? ⟨w.heap.size, 6, none⟩ = some (.bool B5) := by simp [World.cell?, z0.out]
      have y7 : w1.cell? ⟨w.heap.size, 7, none⟩ = some (.slice B6 B7 B8) := by simp [World.cell?, z0.out]
      have y8 : w1.cell? ⟨w.heap.size, 8, none⟩ = some (.bool C1) := by simp [World.cell?, z0.out]
      have y9 : w1.cell? ⟨w.heap.size, 9, none⟩ = some (.slice C2 C3 C4) := by simp [World.cell?, z0.out]
      have y10 : w1.cell? ⟨w.heap.size, 10, none⟩ = some (.bool C5) := by simp [World.cell?, z0.out]
      have y11 : w1.cell? ⟨w.heap.size, 11, none⟩ = some (.slice C6 C7 C8) := by simp [World.cell?, z0.out]
      have y12 : w1.cell? ⟨w.heap.size, 12, none⟩ = some (.bool D1) := by simp [World.cell?, z0.out]
      have y13 : w1.cell? ⟨w.heap.size, 13, none⟩ = some (.slice D2 D3 D4) := by simp [World.cell?, z0.out]
      have y14 : w1.cell? ⟨w.heap.size, 14, none⟩ = some (.bool D5) := by simp [World.cell?, z0.out]
      have y15 : w1.cell? ⟨w.heap.size, 15, none⟩ = some (.slice D6 D7 D8) := by simp [World.cell?, z0.out]
      go_wp2_with fail
      refine (kp.out w1 hX.out).mono ?_
      rintro e w2 ⟨rfl, hE2⟩
      replace hE := mkHid (hE.out.trans hE2)
      clear hE2 y0 y1 y2 y3 y4 y5 y6 y7 y8 y9 y10 y11 y12 y13 y14 y15
      cases P with
      | false =>
        rw [if_neg (by decide)] at p2
        subst p2
        go_wp2_with fail
        go_ret
        exact ⟨rfl, hE.out⟩
      | true =>
        rw [if_pos rfl] at p2
        subst p2
        go_wp2_with fail
        go_ret
        exact ⟨rfl, hE.out⟩
/-- What Order answers. -/
def ordO : Option Rat → Option Rat → Option Rat → Option Rat → Int
  | some a, some b, some c, some d => if a * d - b * c = 1 then ordM a b c d else 0
  | _, _, _, _ => 0
def ordE (oa ob oc od : Option Rat) : Int := if okM oa ob oc od then 0 else 1
set_option maxRecDepth 100000 in
set_option maxHeartbeats 3200000 in
theorem order_c (v : Value) (oa ob oc od : Option Rat) (w : World) (h : AnyM w v oa ob oc od) :
    Calls Tryz.prog 9 #[v] w fun e w' => e = .returned (.tuple #[.int .i64 (ordO oa ob oc od), .int .i64 (ordE oa ob oc od)]) ∧ Ext w w' := by
  have H := h
  obtain ⟨A1, A2, A3, A4, A5, A6, A7, A8, B1, B2, B3, B4, B5, B6, B7, B8, C1, C2, C3, C4, C5, C6, C7, C8, D1, D2, D3, D4, D5, D6, D7, D8, rfl, -⟩ := h
  obtain ⟨wb, hwb⟩ : ∃ wb, wb = w.alloc (.cells #[.bool A1, .slice A2 A3 A4, .bool A5, .slice A6 A7 A8, .bool B1, .slice B2 B3 B4, .bool B5, .slice B6 B7 B8, .bool C1, .slice C2 C3 C4, .bool C5, .slice C6 C7 C8, .bool D1, .slice D2 D3 D4, .bool D5, .slice D6 D7 D8] 28) := ⟨_, rfl⟩
  have hE : Ext w wb := by rw [hwb]; exact (Ext.refl w).al _
  have z0 : wb.heap[w.heap.size]? = some (.cells #[.bool A1, .slice A2 A3 A4, .bool A5, .slice A6 A7 A8, .bool B1, .slice B2 B3 B4, .bool B5, .slice B6 B7 B8, .bool C1, .slice C2 C3 C4, .bool C5, .slice C6 C7 C8, .bool D1, .slice D2 D3 D4, .bool D5, .slice D6 D7 D8] 28 (0, 0)) := by rw [hwb]; exact heap_alloc_new _ _
  have kc := mkHid (check_m _ _ _ _ _ wb (H.ext hE))
  by_cases hk : okM oa ob oc od = true
  · obtain ⟨a, ha⟩ : ∃ a, oa = some a := by cases oa with | none => exact absurd hk (by simp [okM]) | some a => exact ⟨a, rfl⟩
    obtain ⟨b, hb⟩ : ∃ b, ob = some b := by subst ha; cases ob with | none => exact absurd hk (by simp [okM]) | some a => exact ⟨a, rfl⟩
    obtain ⟨c, hc⟩ : ∃ c, oc = some c := by subst ha hb; cases oc with | none => exact absurd hk (by simp [okM]) | some a => exact ⟨a, rfl⟩
    obtain ⟨d, hd⟩ : ∃ d, od = some d := by subst ha hb hc; cases od with | none => exact absurd hk (by simp [okM]) | some a => exact ⟨a, rfl⟩
    subst ha hb hc hd
    have hdet : a * d - b * c = 1 := by simpa [okM] using hk
    have kp := mkHid (fun W (e : Ext wb W) => order_f _ a b c d W ((H.ext hE).ext e))
    have e1 : ordO (some a) (some b) (some c) (some d) = ordM a b c d := by show (if a * d - b * c = 1 then ordM a b c d else 0) = _; rw [if_pos hdet]
    have e2 : ordE (some a) (some b) (some c) (some d) = 0 := by unfold ordE; rw [if_pos hk]
    rw [e1, e2]
    rw [if_pos hk] at kc
    generalize ordM a b c d = R at *
    replace z0 := mkHid z0
    replace hE := mkHid hE
    replace hwb := mkHid hwb
    clear H hdet e1 e2 hk
    go_enter Tryz.func9, Tryz.ntmps9
    go_wp2_with fail
    rw [← hwb.out]
    clear hwb
    refine kc.out.mono ?_
    rintro e w1 ⟨rfl, hE1⟩
    replace z0 := mkHid (hE1.blk z0.out)
    replace hE := mkHid (hE.out.trans hE1)
    have hX := mkHid hE1
    clear hE1 kc
    have y0 : w1.cell? ⟨w.heap.size, 0, none⟩ = some (.bool A1) := by simp [World.cell?, z0.out]
    have y1 : w1.cell? ⟨w.heap.size, 1, none⟩ = some (.slice A2 A3 A4) := by simp [World.cell?, z0.out]
    have y2 : w1.cell? ⟨w.heap.size, 2, none⟩ = some (.bool A5) := by simp [World.cell?, z0.out]
    have y3 : w1.cell? ⟨w.heap.size, 3, none⟩ = some (.slice A6 A7 A8) := by simp [World.cell?, z0.out]
    have y4 : w1.cell? ⟨w.heap.size, 4, none⟩ = some (.bool B1) := by simp [World.cell?, z0.out]
    have y5 : w1.cell? ⟨w.heap.size, 5, none⟩ = some (.slice B2 B3 B4) := by simp [World.cell?, z0.out]
    have y6 : w1.cell? ⟨w.heap.size, 6, none⟩ = some (.bool B5) := by simp [World.cell?, z0.out]
    have y7 : w1.cell? ⟨w.heap.size, 7, none⟩ = some (.slice B6 B7 B8) := by simp [World.cell?, z0.out]
    have y8 : w1.cell? ⟨w.heap.size, 8, none⟩ = some (.bool C1) := by simp [World.cell?, z0.out]
    have y9 : w1.cell? ⟨w.heap.size, 9, none⟩ = some (.slice C2 C3 C4) := by simp [World.cell?, z0.out]
    have y10 : w1.cell? ⟨w.heap.size, 10, none⟩ = some (.bool C5) := by simp [World.cell?, z0.out]
    have y11 : w1.cell? ⟨w.heap.size, 11, none⟩ = some (.slice C6 C7 C8) := by simp [World.cell?, z0.out]
    have y12 : w1.cell? ⟨w.heap.size, 12, none⟩ = some (.bool D1) := by simp [World.cell?, z0.out]
    have y13 : w1.cell? ⟨w.heap.size, 13, none⟩ = some (.slice D2 D3 D4) := by simp [World.cell?, z0.out]
    have y14 : w1.cell? ⟨w.heap.size, 14, none⟩ = some (.bool D5) := by simp [World.cell?, z0.out]
    have y15 : w1.cell? ⟨w.heap.size, 15, none⟩ = some (.slice D6 D7 D8) := by simp [World.cell?, z0.out]
    go_wp2_with fail
    refine (kp.out w1 hX.out).mono ?_
    rintro e w2 ⟨rfl, hE2⟩
    replace hE := mkHid (hE.out.trans hE2)
    clear hE2 y0 y1 y2 y3 y4 y5 y6 y7 y8 y9 y10 y11 y12 y13 y14 y15
    go_wp2_with fail
    go_ret2
    exact ⟨rfl, hE.out⟩
  · have e1 : ordO oa ob oc od = 0 := by
      cases oa <;> cases ob <;> cases oc <;> cases od <;> first | rfl | skip
      rename_i a b c d
      show (if a * d - b * c = 1 then ordM a b c d else 0) = _
      rw [if_neg (by simpa [okM] using hk)]
    have e2 : ordE oa ob oc od = 1 := by unfold ordE; rw [if_neg hk]
    rw [e1, e2]
    rw [if_neg hk] at kc
    replace hE := mkHid hE
    replace hwb := mkHid hwb
    clear H z0 e1 e2 hk
    go_enter Tryz.func9, Tryz.ntmps9
    go_wp2_with fail
    rw [← hwb.out]
    clear hwb
    refine kc.out.mono ?_
    rintro e w1 ⟨rfl, hE1⟩
    replace hE := mkHid (hE.out.trans hE1)
    clear hE1 kc
    go_wp2_with fail
    go_ret2
    exact ⟨rfl, hE.out⟩
end Go.Proofs.YtpmfohhpaoagfaaGreat
namespace Go.Proofs.YtpmfohhpaoagfaaGreat
open Go Go.RowKit Go.Proofs
theorem eq_of_getD {l m : List Nat} (hl : l.length = m.length) (h : ∀ j, j < l.length → l.getD j 0 = m.getD j 0) : l = m := by
  refine List.ext_getElem hl fun j h1 h2 => ?_
  have := h j h1
  simpa [List.getD_eq_getElem?_getD, h1, h2] using this
set_option maxHeartbeats 3200000 in
theorem sameInt_c (v1 v2 : Value) (b1 b2 : Bool) (l1 l2 : List Nat) (w : World) (hl1 : l1.length ≤ 4294967296) (_hl2 : l2.length ≤ 4294967296) (h1 : AnyR w v1 b1 l1) (h2 : AnyR w v2 b2 l2) :
    Calls Tryz.prog 72 #[v1, v2] w fun e w' => e = .returned (.bool (decide (b1 = b2 ∧ l1 = l2))) ∧ Ext w w' := by
  obtain ⟨a1, c1, rfl, ok1, _, r1⟩ := h1
  obtain ⟨a2, c2, rfl, ok2, _, r2⟩ := h2
  by_cases hb : b1 = b2
  · by_cases hlen : l1.length = l2.length
    · subst hb
      obtain ⟨r, hr⟩ : ∃ r, r = decide (b1 = b1 ∧ l1 = l2) := ⟨_, rfl⟩
      rw [← hr]
      obtain ⟨g1, o1, ha1, hc1⟩ := r1
      obtain ⟨g2, o2, ha2, hc2⟩ := r2
      obtain ⟨n, hn⟩ : ∃ n, n = l1.length := ⟨_, rfl⟩
      have hn2 : n = l2.length := by omega
      have hnb : n ≤ 4294967296 := by omega
      rw [← hn, ← hn2]
      obtain ⟨wb, hwb⟩ : ∃ wb, wb = (w.alloc (.cells #[.bool b1, .slice a1 n c1] 24)).alloc (.cells #[.bool b1, .slice a2 n c2] 24) := ⟨_, rfl⟩
      have hE : Ext w wb := by rw [hwb]; exact ((Ext.refl w).al _).al _
      have z0 : wb.heap[w.heap.size]? = some (.cells #[.bool b1, .slice a1 n c1] 24 (0, 0)) := by rw [hwb]; exact (heap_alloc_old _ _ (by simp)).trans (heap_alloc_new _ _)
      have z1 : wb.heap[w.heap.size + 1]? = some (.cells #[.bool b1, .slice a2 n c2] 24 (0, 0)) := by rw [hwb]; exact heap_at _ _ _ (by simp)
      have y0 := row2_cells z0
      have y1 := row2_cells z1
      replace hwb := mkHid hwb
      replace hr := mkHid hr
      replace hn := mkHid hn
      replace hn2 := mkHid hn2
      replace ha1 := mkHid ha1
      replace ha2 := mkHid ha2
      replace hc1 := mkHid hc1
      replace hc2 := mkHid hc2
      replace hE := mkHid hE
      clear hlen z0 z1
      go_enter Tryz.func72, Tryz.ntmps72
      go_wp2_with fail
      rw [← hwb.out]
      obtain ⟨wo, hwo⟩ : ∃ wo : World, wo = wb := ⟨_, rfl⟩
      go_loopw [5] (fun i wr => ∃ k, k ≤ n ∧ i = .int .i64 (k : Nat) ∧ Ext wo wr ∧ ∀ j, j < k → l1.getD j 0 = l2.getD j 0) (fun i _ => n - (intOf i).toNat)
      case atStart => exact ⟨0, Nat.zero_le _, rfl, hwo ▸ Ext.refl _, fun j hj => absurd hj (by omega)⟩
      case round =>
        obtain ⟨k, hk, rfl, hX, hj⟩ := hrel
        have x0 := (hwo ▸ hX : Ext wb wr).cell y0.2
        have x1 := (hwo ▸ hX : Ext wb wr).cell y1.2
        have hEw : Ext w wr := hE.out.trans (hwo ▸ hX)
        clear y0 y1
        by_cases hlt : k < n
        · have u1 : k < l1.length := by rw [← hn.out]; exact hlt
          have u2 : k < l2.length := by rw [← hn2.out]; exact hlt
          have e1 : wr.cell? ⟨g1, o1 + k, none⟩ = some (.int .u32 (l1.getD k 0 : Nat)) := by
            have := hEw.cell (hc1.out k (by rw [limV_length]; exact u1))
            rwa [limV_getD _ _ u1] at this
          have e2 : wr.cell? ⟨g2, o2 + k, none⟩ = some (.int .u32 (l2.getD k 0 : Nat)) := by
            have := hEw.cell (hc2.out k (by rw [limV_length]; exact u2))
            rwa [limV_getD _ _ u2] at this
          have q1 := ha1.out (limV_ne u1)
          have q2 := ha2.out (limV_ne u2)
          subst q1
          subst q2
          have hne : l1.getD k 0 ≠ l2.getD k 0 → r = false := by
            intro h
            rw [hr.out]
            refine decide_eq_false (fun e => h (by rw [e.2]))
          have hs : ∀ j, j < k + 1 → l1.getD k 0 = l2.getD k 0 → l1.getD j 0 = l2.getD j 0 := by
            intro j h e
            rcases Nat.lt_or_ge j k with h1 | h1
            · exact hj j h1
            · obtain rfl : j = k := by omega
              exact e
          generalize l1.getD k 0 = x at *
          generalize l2.getD k 0 = y at *
          replace hs := mkHid hs
          replace hne := mkHid hne
          replace hEw := mkHid hEw
          replace hX := mkHid hX
          clear hj u1 u2 hc1 hc2 ha1 ha2
          by_cases hxy : x = y
          · subst hxy
            go_wp2_with fail
            go_quiet (fail)
            go_wp2_with fail
            go_roundw
            case rel => exact ⟨k + 1, by omega, by go_num, hX.out.drN _, fun j h => hs.out j h (by trivial)⟩
            case measure => simp [intOf] <;> omega
          · have hb1 : ((x : Int) == (y : Int)) = false := by rw [beq_eq_false_iff_ne]; omega
            obtain rfl := hne.out hxy
            replace hxy := mkHid hxy
            go_wp2_with fail
            go_quiet (fail)
            go_wp2_with fail
            go_ret
            exact ⟨rfl, hEw.out.drN _⟩
        · obtain rfl : n = k := by omega
          have hrt : r = true := by
            rw [hr.out]
            exact decide_eq_true ⟨by trivial, eq_of_getD (by rw [← hn.out, ← hn2.out]) (fun j h => hj j (by rw [hn.out]; exact h))⟩
          subst hrt
          replace hEw := mkHid hEw
          clear hj hX
          go_wp2_with fail
          go_ret
          exact ⟨rfl, hEw.out⟩
    · have hf : decide (b1 = b2 ∧ l1 = l2) = false := decide_eq_false (fun h => hlen (by rw [h.2]))
      rw [hf]
      have hl : ((l1.length : Int) == (l2.length : Int)) = false := by rw [beq_eq_false_iff_ne]; omega
      subst hb
      clear hf r1 r2
      generalize l1.length = n1 at *
      generalize l2.length = n2 at *
      replace hlen := mkHid hlen
      go_enter Tryz.func72, Tryz.ntmps72
      go_wp2_with fail
      go_ret
      exact ⟨rfl, ((Ext.refl _).al _).al _⟩
  · have hf : decide (b1 = b2 ∧ l1 = l2) = false := decide_eq_false (fun h => hb h.1)
    rw [hf]
    have hbb : (b1 == b2) = false := by rw [beq_eq_false_iff_ne]; exact hb
    clear hf r1 r2
    generalize l1.length = n1 at *
    generalize l2.length = n2 at *
    replace hb := mkHid hb
    go_enter Tryz.func72, Tryz.ntmps72
    go_wp2_with fail
    go_ret
    exact ⟨rfl, ((Ext.refl _).al _).al _⟩
end Go.Proofs.YtpmfohhpaoagfaaGreat
namespace Go.Proofs.YtpmfohhpaoagfaaGreat
open Go Go.RowKit Go.Proofs
theorem sameInt_r (v1 v2 : Value) (X Y : Int) (w : World) (hX : nl X ≤ 4294967296) (hY : nl Y ≤ 4294967296) (h1 : IntR w v1 X) (h2 : IntR w v2 Y) :
    Calls Tryz.prog 72 #[v1, v2] w fun e w' => e = .returned (.bool (decide (X = Y))) ∧ Ext w w' := by
  have h := sameInt_c v1 v2 _ _ _ _ w hX hY (int_any h1) (int_any h2)
  have e : decide (decide (X < 0) = decide (Y < 0) ∧ lim X.natAbs = lim Y.natAbs) = decide (X = Y) := by
    by_cases hx : X = Y
    · subst hx
      simp
    · rw [decide_eq_false hx]
      refine decide_eq_false fun h => hx ?_
      have h3 := eq_of_lim h.2
      have h4 : (X < 0) ↔ (Y < 0) := by
        have := h.1
        simpa using this
      omega
  rw [e] at h
  exact h
/-- A value of api.Ray. -/
def AnyY (w : World) (v : Value) (oy ou : Option Rat) : Prop :=
  ∃ A1 A2 A3 A4 A5 A6 A7 A8 B1 B2 B3 B4 B5 B6 B7 B8, v = .agg #[.bool A1, .slice A2 A3 A4, .bool A5, .slice A6 A7 A8, .bool B1, .slice B2 B3 B4, .bool B5, .slice B6 B7 B8] ∧ AnyF w (.agg #[.bool A1, .slice A2 A3 A4, .bool A5, .slice A6 A7 A8]) oy ∧ AnyF w (.agg #[.bool B1, .slice B2 B3 B4, .bool B5, .slice B6 B7 B8]) ou
theorem AnyY.ext {w w' : World} {v : Value} {oy ou : Option Rat} (h : AnyY w v oy ou) (e : Ext w w') : AnyY w' v oy ou := by
  obtain ⟨A1, A2, A3, A4, A5, A6, A7, A8, B1, B2, B3, B4, B5, B6, B7, B8, h0, h1, h2⟩ := h
  exact ⟨A1, A2, A3, A4, A5, A6, A7, A8, B1, B2, B3, B4, B5, B6, B7, B8, h0, h1.ext e, h2.ext e⟩

set_option maxRecDepth 100000 in
set_option maxHeartbeats 3200000 in
theorem sameFrac_f (v1 v2 : Value) (x y : Rat) (w : World) (h1 : AnyF w v1 (some x)) (h2 : AnyF w v2 (some y)) :
    Calls Tryz.prog 37 #[v1, v2] w fun e w' => e = .returned (.bool (decide (x = y))) ∧ Ext w w' := by
  obtain ⟨f1, n1⟩ := h1.frac
  obtain ⟨f2, n2⟩ := h2.frac
  clear h1 h2
  obtain ⟨A1, A2, A3, A4, A5, A6, A7, A8, rfl⟩ := f1.shape
  obtain ⟨B1, B2, B3, B4, B5, B6, B7, B8, rfl⟩ := f2.shape
  obtain ⟨wb, hwb⟩ : ∃ wb, wb = (w.alloc (.cells #[.bool A1, .slice A2 A3 A4, .bool A5, .slice A6 A7 A8] 26)).alloc (.cells #[.bool B1, .slice B2 B3 B4, .bool B5, .slice B6 B7 B8] 26) := ⟨_, rfl⟩
  have hE : Ext w wb := by rw [hwb]; exact ((Ext.refl w).al _).al _
  have z0 : wb.heap[w.heap.size]? = some (.cells #[.bool A1, .slice A2 A3 A4, .bool A5, .slice A6 A7 A8] 26 (0, 0)) := by rw [hwb]; exact (heap_alloc_old _ _ (by simp)).trans (heap_alloc_new _ _)
  have z1 : wb.heap[w.heap.size + 1]? = some (.cells #[.bool B1, .slice B2 B3 B4, .bool B5, .slice B6 B7 B8] 26 (0, 0)) := by rw [hwb]; exact heap_at _ _ _ (by simp)
  replace f1 := f1.ext hE
  replace f2 := f2.ext hE
  have b1 : nl x.num ≤ 4294967296 := Nat.le_trans (Nat.le_trans (Nat.le_max_left _ _) n1) (by decide)
  have b2 : nl y.num ≤ 4294967296 := Nat.le_trans (Nat.le_trans (Nat.le_max_left _ _) n2) (by decide)
  have b3 : nl (x.den : Int) ≤ 4294967296 := Nat.le_trans (Nat.le_trans (Nat.le_max_right _ _) n1) (by decide)
  have b4 : nl (y.den : Int) ≤ 4294967296 := Nat.le_trans (Nat.le_trans (Nat.le_max_right _ _) n2) (by decide)
  have k1 := mkHid (fun W (e : Ext wb W) => sameInt_r _ _ _ _ W b1 b2 (f1.num.ext e) (f2.num.ext e))
  have k2 := mkHid (fun W (e : Ext wb W) => sameInt_r _ _ _ _ W b3 b4 (f1.den.ext e) (f2.den.ext e))
  have hpost1 : x = y → x.num = y.num := fun h => by rw [h]
  have hpost2 : x = y → (x.den : Int) = (y.den : Int) := fun h => by rw [h]
  have hall : x.num = y.num → (x.den : Int) = (y.den : Int) → x = y := fun h h' => Rat.ext h (by omega)
  clear f1 f2 n1 n2 b1 b2 b3 b4
  replace z0 := mkHid z0
  replace z1 := mkHid z1
  replace hE := mkHid hE
  replace hwb := mkHid hwb
  have hX := mkHid (Ext.refl wb)
  by_cases c1 : x.num = y.num
  case neg =>
    rw [decide_eq_false c1] at k1
    rw [decide_eq_false (fun h => c1 (hpost1 h))]
    clear hpost1 hpost2 hall
    replace c1 := mkHid c1
    go_enter Tryz.func37, Tryz.ntmps37
    go_wp2_with fail
    rw [← hwb.out]
    clear hwb
    refine (k1.out wb hX.out).mono ?_
    rintro e w1 ⟨rfl, hE1⟩
    replace hX := mkHid (hX.out.trans hE1)
    clear hE1
    go_wp2_with fail
    go_ret
    exact ⟨rfl, hE.out.trans hX.out⟩
  rw [decide_eq_true c1] at k1
  by_cases c2 : (x.den : Int) = (y.den : Int)
  case neg =>
    rw [decide_eq_false c2] at k2
    rw [decide_eq_false (fun h => c2 (hpost2 h))]
    clear hpost1 hpost2 hall
    replace c1 := mkHid c1
    replace c2 := mkHid c2
    go_enter Tryz.func37, Tryz.ntmps37
    go_wp2_with fail
    rw [← hwb.out]
    clear hwb
    refine (k1.out wb hX.out).mono ?_
    rintro e w1 ⟨rfl, hE1⟩
    replace hX := mkHid (hX.out.trans hE1)
    have ya0 : w1.cell? ⟨w.heap.size, 0, none⟩ = some (.bool A1) := by simp [World.cell?, hX.out.blk z0.out]
    have ya1 : w1.cell? ⟨w.heap.size, 1, none⟩ = some (.slice A2 A3 A4) := by simp [World.cell?, hX.out.blk z0.out]
    have ya2 : w1.cell? ⟨w.heap.size, 2, none⟩ = some (.bool A5) := by simp [World.cell?, hX.out.blk z0.out]
    have ya3 : w1.cell? ⟨w.heap.size, 3, none⟩ = some (.slice A6 A7 A8) := by simp [World.cell?, hX.out.blk z0.out]
    have yb0 : w1.cell? ⟨w.heap.size + 1, 0, none⟩ = some (.bool B1) := by simp [World.cell?, hX.out.blk z1.out]
    have yb1 : w1.cell? ⟨w.heap.size + 1, 1, none⟩ = some (.slice B2 B3 B4) := by simp [World.cell?, hX.out.blk z1.out]
    have yb2 : w1.cell? ⟨w.heap.size + 1, 2, none⟩ = some (.bool B5) := by simp [World.cell?, hX.out.blk z1.out]
    have yb3 : w1.cell? ⟨w.heap.size + 1, 3, none⟩ = some (.slice B6 B7 B8) := by simp [World.cell?, hX.out.blk z1.out]
    clear hE1
    go_wp2_with fail
    refine (k2.out w1 hX.out).mono ?_
    rintro e w2 ⟨rfl, hE2⟩
    replace hX := mkHid (hX.out.trans hE2)
    clear ya0 ya1 ya2 ya3 yb0 yb1 yb2 yb3
    clear hE2
    go_wp2_with fail
    go_ret
    exact ⟨rfl, hE.out.trans hX.out⟩
  rw [decide_eq_true c2] at k2
  rw [decide_eq_true (hall c1 c2)]
  clear hpost1 hpost2 hall
  replace c1 := mkHid c1
  replace c2 := mkHid c2
  go_enter Tryz.func37, Tryz.ntmps37
  go_wp2_with fail
  rw [← hwb.out]
  clear hwb
  refine (k1.out wb hX.out).mono ?_
  rintro e w1 ⟨rfl, hE1⟩
  replace hX := mkHid (hX.out.trans hE1)
  have ya0 : w1.cell? ⟨w.heap.size, 0, none⟩ = some (.bool A1) := by simp [World.cell?, hX.out.blk z0.out]
  have ya1 : w1.cell? ⟨w.heap.size, 1, none⟩ = some (.slice A2 A3 A4) := by simp [World.cell?, hX.out.blk z0.out]
  have ya2 : w1.cell? ⟨w.heap.size, 2, none⟩ = some (.bool A5) := by simp [World.cell?, hX.out.blk z0.out]
  have ya3 : w1.cell? ⟨w.heap.size, 3, none⟩ = some (.slice A6 A7 A8) := by simp [World.cell?, hX.out.blk z0.out]
  have yb0 : w1.cell? ⟨w.heap.size + 1, 0, none⟩ = some (.bool B1) := by simp [World.cell?, hX.out.blk z1.out]
  have yb1 : w1.cell? ⟨w.heap.size + 1, 1, none⟩ = some (.slice B2 B3 B4) := by simp [World.cell?, hX.out.blk z1.out]
  have yb2 : w1.cell? ⟨w.heap.size + 1, 2, none⟩ = some (.bool B5) := by simp [World.cell?, hX.out.blk z1.out]
  have yb3 : w1.cell? ⟨w.heap.size + 1, 3, none⟩ = some (.slice B6 B7 B8) := by simp [World.cell?, hX.out.blk z1.out]
  clear hE1
  go_wp2_with fail
  refine (k2.out w1 hX.out).mono ?_
  rintro e w2 ⟨rfl, hE2⟩
  replace hX := mkHid (hX.out.trans hE2)
  clear ya0 ya1 ya2 ya3 yb0 yb1 yb2 yb3
  clear hE2
  go_wp2_with fail
  go_ret
  exact ⟨rfl, hE.out.trans hX.out⟩
set_option maxRecDepth 100000 in
set_option maxHeartbeats 3200000 in
theorem sameMatrix_f (v1 v2 : Value) (a b c d a' b' c' d' : Rat) (w : World) (h1 : AnyM w v1 (some a) (some b) (some c) (some d)) (h2 : AnyM w v2 (some a') (some b') (some c') (some d')) :
    Calls Tryz.prog 38 #[v1, v2] w fun e w' => e = .returned (.bool (decide (a = a' ∧ b = b' ∧ c = c' ∧ d = d'))) ∧ Ext w w' := by
  obtain ⟨A1, A2, A3, A4, A5, A6, A7, A8, B1, B2, B3, B4, B5, B6, B7, B8, C1, C2, C3, C4, C5, C6, C7, C8, D1, D2, D3, D4, D5, D6, D7, D8, rfl, f1, f2, f3, f4⟩ := h1
  obtain ⟨E1, E2, E3, E4, E5, E6, E7, E8, G1, G2, G3, G4, G5, G6, G7, G8, H1, H2, H3, H4, H5, H6, H7, H8, I1, I2, I3, I4, I5, I6, I7, I8, rfl, g1, g2, g3, g4⟩ := h2
  obtain ⟨wb, hwb⟩ : ∃ wb, wb = (w.alloc (.cells #[.bool A1, .slice A2 A3 A4, .bool A5, .slice A6 A7 A8, .bool B1, .slice B2 B3 B4, .bool B5, .slice B6 B7 B8, .bool C1, .slice C2 C3 C4, .bool C5, .slice C6 C7 C8, .bool D1, .slice D2 D3 D4, .bool D5, .slice D6 D7 D8] 28)).alloc (.cells #[.bool E1, .slice E2 E3 E4, .bool E5, .slice E6 E7 E8, .bool G1, .slice G2 G3 G4, .bool G5, .slice G6 G7 G8, .bool H1, .slice H2 H3 H4, .bool H5, .slice H6 H7 H8, .bool I1, .slice I2 I3 I4, .bool I5, .slice I6 I7 I8] 28) := ⟨_, rfl⟩
  have hE : Ext w wb := by rw [hwb]; exact ((Ext.refl w).al _).al _
  have z0 : wb.heap[w.heap.size]? = some (.cells #[.bool A1, .slice A2 A3 A4, .bool A5, .slice A6 A7 A8, .bool B1, .slice B2 B3 B4, .bool B5, .slice B6 B7 B8, .bool C1, .slice C2 C3 C4, .bool C5, .slice C6 C7 C8, .bool D1, .slice D2 D3 D4, .bool D5, .slice D6 D7 D8] 28 (0, 0)) := by rw [hwb]; exact (heap_alloc_old _ _ (by simp)).trans (heap_alloc_new _ _)
  have z1 : wb.heap[w.heap.size + 1]? = some (.cells #[.bool E1, .slice E2 E3 E4, .bool E5, .slice E6 E7 E8, .bool G1, .slice G2 G3 G4, .bool G5, .slice G6 G7 G8, .bool H1, .slice H2 H3 H4, .bool H5, .slice H6 H7 H8, .bool I1, .slice I2 I3 I4, .bool I5, .slice I6 I7 I8] 28 (0, 0)) := by rw [hwb]; exact heap_at _ _ _ (by simp)
  have k1 := mkHid (fun W (e : Ext wb W) => sameFrac_f _ _ a a' W ((f1.ext hE).ext e) ((g1.ext hE).ext e))
  have k2 := mkHid (fun W (e : Ext wb W) => sameFrac_f _ _ b b' W ((f2.ext hE).ext e) ((g2.ext hE).ext e))
  have k3 := mkHid (fun W (e : Ext wb W) => sameFrac_f _ _ c c' W ((f3.ext hE).ext e) ((g3.ext hE).ext e))
  have k4 := mkHid (fun W (e : Ext wb W) => sameFrac_f _ _ d d' W ((f4.ext hE).ext e) ((g4.ext hE).ext e))
  have hpost1 : a = a' ∧ b = b' ∧ c = c' ∧ d = d' → a = a' := fun h => h.1
  have hpost2 : a = a' ∧ b = b' ∧ c = c' ∧ d = d' → b = b' := fun h => h.2.1
  have hpost3 : a = a' ∧ b = b' ∧ c = c' ∧ d = d' → c = c' := fun h => h.2.2.1
  have hpost4 : a = a' ∧ b = b' ∧ c = c' ∧ d = d' → d = d' := fun h => h.2.2.2
  have hall : a = a' → b = b' → c = c' → d = d' → a = a' ∧ b = b' ∧ c = c' ∧ d = d' := fun h h' h'' h''' => ⟨h, h', h'', h'''⟩
  clear f1 f2 f3 f4 g1 g2 g3 g4
  replace z0 := mkHid z0
  replace z1 := mkHid z1
  replace hE := mkHid hE
  replace hwb := mkHid hwb
  have hX := mkHid (Ext.refl wb)
  by_cases c1 : a = a'
  case neg =>
    rw [decide_eq_false c1] at k1
    rw [decide_eq_false (fun h => c1 (hpost1 h))]
    clear hpost1 hpost2 hpost3 hpost4 hall
    replace c1 := mkHid c1
    go_enter Tryz.func38, Tryz.ntmps38
    go_wp2_with fail
    rw [← hwb.out]
    clear hwb
    refine (k1.out wb hX.out).mono ?_
    rintro e w1 ⟨rfl, hE1⟩
    replace hX := mkHid (hX.out.trans hE1)
    clear hE1
    go_wp2_with fail
    go_ret
    exact ⟨rfl, hE.out.trans hX.out⟩
  rw [decide_eq_true c1] at k1
  by_cases c2 : b = b'
  case neg =>
    rw [decide_eq_false c2] at k2
    rw [decide_eq_false (fun h => c2 (hpost2 h))]
    clear hpost1 hpost2 hpost3 hpost4 hall
    replace c1 := mkHid c1
    replace c2 := mkHid c2
    go_enter Tryz.func38, Tryz.ntmps38
    go_wp2_with fail
    rw [← hwb.out]
    clear hwb
    refine (k1.out wb hX.out).mono ?_
    rintro e w1 ⟨rfl, hE1⟩
    replace hX := mkHid (hX.out.trans hE1)
    have ya0 : w1.cell? ⟨w.heap.size, 0, none⟩ = some (.bool A1) := by simp [World.cell?, hX.out.blk z0.out]
    have ya1 : w1.cell? ⟨w.heap.size, 1, none⟩ = some (.slice A2 A3 A4) := by simp [World.cell?, hX.out.blk z0.out]
    have ya2 : w1.cell? ⟨w.heap.size, 2, none⟩ = some (.bool A5) := by simp [World.cell?, hX.out.blk z0.out]
    have ya3 : w1.cell? ⟨w.heap.size, 3, none⟩ = some (.slice A6 A7 A8) := by simp [World.cell?, hX.out.blk z0.out]
    have ya4 : w1.cell? ⟨w.heap.size, 4, none⟩ = some (.bool B1) := by simp [World.cell?, hX.out.blk z0.out]
    have ya5 : w1.cell? ⟨w.heap.size, 5, none⟩ = some (.slice B2 B3 B4) := by simp [World.cell?, hX.out.blk z0.out]
    have ya6 : w1.cell? ⟨w.heap.size, 6, none⟩ = some (.bool B5) := by simp [World.cell?, hX.out.blk z0.out]
    have ya7 : w1.cell? ⟨w.heap.size, 7, none⟩ = some (.slice B6 B7 B8) := by simp [World.cell?, hX.out.blk z0.out]
    have ya8 : w1.cell? ⟨w.heap.size, 8, none⟩ = some (.bool C1) := by simp [World.cell?, hX.out.blk z0.out]
    have ya9 : w1.cell? ⟨w.heap.size, 9, none⟩ = some (.slice C2 C3 C4) := by simp [World.cell?, hX.out.blk z0.out]
    have ya10 : w1.cell? ⟨w.heap.size, 10, none⟩ = some (.bool C5) := by simp [World.cell?, hX.out.blk z0.out]
    have ya11 : w1.cell? ⟨w.heap.size, 11, none⟩ = some (.slice C6 C7 C8) := by simp [World.cell?, hX.out.blk z0.out]
    have ya12 : w1.cell? ⟨w.heap.size, 12, none⟩ = some (.bool D1) := by simp [World.cell?, hX.out.blk z0.out]
    have ya13 : w1.cell? ⟨w.heap.size, 13, none⟩ = some (.slice D2 D3 D4) := by simp [World.cell?, hX.out.blk z0.out]
    have ya14 : w1.cell? ⟨w.heap.size, 14, none⟩ = some (.bool D5) := by simp [World.cell?, hX.out.blk z0.out]
    have ya15 : w1.cell? ⟨w.heap.size, 15, none⟩ = some (.slice D6 D7 D8) := by simp [World.cell?, hX.out.blk z0.out]
    have yb0 : w1.cell? ⟨w.heap.size + 1, 0, none⟩ = some (.bool E1) := by simp [World.cell?, hX.out.blk z1.out]
    have yb1 : w1.cell? ⟨w.heap.size + 1, 1, none⟩ = some (.slice E2 E3 E4) := by simp [World.cell?, hX.out.blk z1.out]
    have yb2 : w1.cell? ⟨w.heap.size + 1, 2, none⟩ = some (.bool E5) := by simp [World.cell?, hX.out.blk z1.out]
    have yb3 : w1.cell? ⟨w.heap.size + 1, 3, none⟩ = some (.slice E6 E7 E8) := by simp [World.cell?, hX.out.blk z1.out]
    have yb4 : w1.cell? ⟨w.heap.size + 1, 4, none⟩ = some (.bool G1) := by simp [World.cell?, hX.out.blk z1.out]
    have yb5 : w1.cell? ⟨w.heap.size + 1, 5, none⟩ = some (.slice G2 G3 G4) := by simp [World.cell?, hX.out.blk z1.out]
    have yb6 : w1.cell? ⟨w.heap.size + 1, 6, none⟩ = some (.bool G5) := by simp [World.cell?, hX.out.blk z1.out]
    have yb7 : w1.cell? ⟨w.heap.size + 1, 7, none⟩ = some (.slice G6 G7 G8) := by simp [World.cell?, hX.out.blk z1.out]
    have yb8 : w1.cell? ⟨w.heap.size + 1, 8, none⟩ = some (.bool H1) := by simp [World.cell?, hX.out.blk z1.out]
    have yb9 : w1.cell? ⟨w.heap.size + 1, 9, none⟩ = some (.slice H2 H3 H4) := by simp [World.cell?, hX.out.blk z1.out]
    have yb10 : w1.cell? ⟨w.heap.size + 1, 10, none⟩ = some (.bool H5) := by simp [World.cell?, hX.out.blk z1.out]
    have yb11 : w1.cell? ⟨w.heap.size + 1, 11, none⟩ = some (.slice H6 H7 H8) := by simp [World.cell?, hX.out.blk z1.out]
    have yb12 : w1.cell? ⟨w.heap.size + 1, 12, none⟩ = some (.bool I1) := by simp [World.cell?, hX.out.blk z1.out]
    have yb13 : w1.cell? ⟨w.heap.size + 1, 13, none⟩ = some (.slice I2 I3 I4) := by simp [World.cell?, hX.out.blk z1.out]
    have yb14 : w1.cell? ⟨w.heap.size + 1, 14, none⟩ = some (.bool I5) := by simp [World.cell?, hX.out.blk z1.out]
    have yb15 : w1.cell? ⟨w.heap.size + 1, 15, none⟩ = some (.slice I6 I7 I8) := by simp [World.cell?, hX.out.blk z1.out]
    clear hE1
    go_wp2_with fail
    refine (k2.out w1 hX.out).mono ?_
    rintro e w2 ⟨rfl, hE2⟩
    replace hX := mkHid (hX.out.trans hE2)
    clear ya0 ya1 ya2 ya3 ya4 ya5 ya6 ya7 ya8 ya9 ya10 ya11 ya12 ya13 ya14 ya15 yb0 yb1 yb2 yb3 yb4 yb5 yb6 yb7 yb8 yb9 yb10 yb11 yb12 yb13 yb14 yb15
    clear hE2
    go_wp2_with fail
    go_ret
    exact ⟨rfl, hE.out.trans hX.out⟩
  rw [decide_eq_true c2] at k2
  by_cases c3 : c = c'
  case neg =>
    rw [decide_eq_false c3] at k3
    rw [decide_eq_false (fun h => c3 (hpost3 h))]
    clear hpost1 hpost2 hpost3 hpost4 hall
    replace c1 := mkHid c1
    replace c2 := mkHid c2
    replace c3 := mkHid c3
    go_enter Tryz.func38, Tryz.ntmps38
    go_wp2_with fail
    rw [← hwb.out]
    clear hwb
    refine (k1.out wb hX.out).mono ?_
    rintro e w1 ⟨rfl, hE1⟩
    replace hX := mkHid (hX.out.trans hE1)
    have ya0 : w1.cell? ⟨w.heap.size, 0, none⟩ = some (.bool A1) := by simp [World.cell?, hX.out.blk z0.out]
    have ya1 : w1.cell? ⟨w.heap.size, 1, none⟩ = some (.slice A2 A3 A4) := by simp [World.cell?, hX.out.blk z0.out]
    have ya2 : w1.cell? ⟨w.heap.size, 2, none⟩ = some (.bool A5) := by simp [World.cell?, hX.out.blk z0.out]
    have ya3 : w1.cell? ⟨w.heap.size, 3, none⟩ = some (.slice A6 A7 A8) := by simp [World.cell?, hX.out.blk z0.out]
    have ya4 : w1.cell? ⟨w.heap.size, 4, none⟩ = some (.bool B1) := by simp [World.cell?, hX.out.blk z0.out]
    have ya5 : w1.cell? ⟨w.heap.size, 5, none⟩ = some (.slice B2 B3 B4) := by simp [World.cell?, hX.out.blk z0.out]
    have ya6 : w1.cell? ⟨w.heap.size, 6, none⟩ = some (.bool B5) := by simp [World.cell?, hX.out.blk z0.out]
    have ya7 : w1.cell? ⟨w.heap.size, 7, none⟩ = some (.slice B6 B7 B8) := by simp [World.cell?, hX.out.blk z0.out]
    have ya8 : w1.cell? ⟨w.heap.size, 8, none⟩ = some (.bool C1) := by simp [World.cell?, hX.out.blk z0.out]
    have ya9 : w1.cell? ⟨w.heap.size, 9, none⟩ = some (.slice C2 C3 C4) := by simp [World.cell?, hX.out.blk z0.out]
    have ya10 : w1.cell? ⟨w.heap.size, 10, none⟩ = some (.bool C5) := by simp [World.cell?, hX.out.blk z0.out]
    have ya11 : w1.cell? ⟨w.heap.size, 11, none⟩ = some (.slice C6 C7 C8) := by simp [World.cell?, hX.out.blk z0.out]
    have ya12 : w1.cell? ⟨w.heap.size, 12, none⟩ = some (.bool D1) := by simp [World.cell?, hX.out.blk z0.out]
    have ya13 : w1.cell? ⟨w.heap.size, 13, none⟩ = some (.slice D2 D3 D4) := by simp [World.cell?, hX.out.blk z0.out]
    have ya14 : w1.cell? ⟨w.heap.size, 14, none⟩ = some (.bool D5) := by simp [World.cell?, hX.out.blk z0.out]
    have ya15 : w1.cell? ⟨w.heap.size, 15, none⟩ = some (.slice D6 D7 D8) := by simp [World.cell?, hX.out.blk z0.out]
    have yb0 : w1.cell? ⟨w.heap.size + 1, 0, none⟩ = some (.bool E1) := by simp [World.cell?, hX.out.blk z1.out]
    have yb1 : w1.cell? ⟨w.heap.size + 1, 1, none⟩ = some (.slice E2 E3 E4) := by simp [World.cell?, hX.out.blk z1.out]
    have yb2 : w1.cell? ⟨w.heap.size + 1, 2, none⟩ = some (.bool E5) := by simp [World.cell?, hX.out.blk z1.out]
    have yb3 : w1.cell? ⟨w.heap.size + 1, 3, none⟩ = some (.slice E6 E7 E8) := by simp [World.cell?, hX.out.blk z1.out]
    have yb4 : w1.cell? ⟨w.heap.size + 1, 4, none⟩ = some (.bool G1) := by simp [World.cell?, hX.out.blk z1.out]
    have yb5 : w1.cell? ⟨w.heap.size + 1, 5, none⟩ = some (.slice G2 G3 G4) := by simp [World.cell?, hX.out.blk z1.out]
    have yb6 : w1.cell? ⟨w.heap.size + 1, 6, none⟩ = some (.bool G5) := by simp [World.cell?, hX.out.blk z1.out]
    have yb7 : w1.cell? ⟨w.heap.size + 1, 7, none⟩ = some (.slice G6 G7 G8) := by simp [World.cell?, hX.out.blk z1.out]
    have yb8 : w1.cell? ⟨w.heap.size + 1, 8, none⟩ = some (.bool H1) := by simp [World.cell?, hX.out.blk z1.out]
    have yb9 : w1.cell? ⟨w.heap.size + 1, 9, none⟩ = some (.slice H2 H3 H4) := by simp [World.cell?, hX.out.blk z1.out]
    have yb10 : w1.cell? ⟨w.heap.size + 1, 10, none⟩ = some (.bool H5) := by simp [World.cell?, hX.out.blk z1.out]
    have yb11 : w1.cell? ⟨w.heap.size + 1, 11, none⟩ = some (.slice H6 H7 H8) := by simp [World.cell?, hX.out.blk z1.out]
    have yb12 : w1.cell? ⟨w.heap.size + 1, 12, none⟩ = some (.bool I1) := by simp [World.cell?, hX.out.blk z1.out]
    have yb13 : w1.cell? ⟨w.heap.size + 1, 13, none⟩ = some (.slice I2 I3 I4) := by simp [World.cell?, hX.out.blk z1.out]
    have yb14 : w1.cell? ⟨w.heap.size + 1, 14, none⟩ = some (.bool I5) := by simp [World.cell?, hX.out.blk z1.out]
    have yb15 : w1.cell? ⟨w.heap.size + 1, 15, none⟩ = some (.slice I6 I7 I8) := by simp [World.cell?, hX.out.blk z1.out]
    clear hE1
    go_wp2_with fail
    refine (k2.out w1 hX.out).mono ?_
    rintro e w2 ⟨rfl, hE2⟩
    replace hX := mkHid (hX.out.trans hE2)
    clear ya0 ya1 ya2 ya3 ya4 ya5 ya6 ya7 ya8 ya9 ya10 ya11 ya12 ya13 ya14 ya15 yb0 yb1 yb2 yb3 yb4 yb5 yb6 yb7 yb8 yb9 yb10 yb11 yb12 yb13 yb14 yb15
    have ya0 : w2.cell? ⟨w.heap.size, 0, none⟩ = some (.bool A1) := by simp [World.cell?, hX.out.blk z0.out]
    have ya1 : w2.cell? ⟨w.heap.size, 1, none⟩ = some (.slice A2 A3 A4) := by simp [World.cell?, hX.out.blk z0.out]
    have ya2 : w2.cell? ⟨w.heap.size, 2, none⟩ = some (.bool A5) := by simp [World.cell?, hX.out.blk z0.out]
    have ya3 : w2.cell? ⟨w.heap.size, 3, none⟩ = some (.slice A6 A7 A8) := by simp [World.cell?, hX.out.blk z0.out]
    have ya4 : w2.cell? ⟨w.heap.size, 4, none⟩ = some (.bool B1) := by simp [World.cell?, hX.out.blk z0.out]
    have ya5 : w2.cell? ⟨w.heap.size, 5, none⟩ = some (.slice B2 B3 B4) := by simp [World.cell?, hX.out.blk z0.out]
    have ya6 : w2.cell? ⟨w.heap.size, 6, none⟩ = some (.bool B5) := by simp [World.cell?, hX.out.blk z0.out]
    have ya7 : w2.cell? ⟨w.heap.size, 7, none⟩ = some (.slice B6 B7 B8) := by simp [World.cell?, hX.out.blk z0.out]
    have ya8 : w2.cell? ⟨w.heap.size, 8, none⟩ = some (.bool C1) := by simp [World.cell?, hX.out.blk z0.out]
    have ya9 : w2.cell? ⟨w.heap.size, 9, none⟩ = some (.slice C2 C3 C4) := by simp [World.cell?, hX.out.blk z0.out]
    have ya10 : w2.cell? ⟨w.heap.size, 10, none⟩ = some (.bool C5) := by simp [World.cell?, hX.out.blk z0.out]
    have ya11 : w2.cell? ⟨w.heap.size, 11, none⟩ = some (.slice C6 C7 C8) := by simp [World.cell?, hX.out.blk z0.out]
    have ya12 : w2.cell? ⟨w.heap.size, 12, none⟩ = some (.bool D1) := by simp [World.cell?, hX.out.blk z0.out]
    have ya13 : w2.cell? ⟨w.heap.size, 13, none⟩ = some (.slice D2 D3 D4) := by simp [World.cell?, hX.out.blk z0.out]
    have ya14 : w2.cell? ⟨w.heap.size, 14, none⟩ = some (.bool D5) := by simp [World.cell?, hX.out.blk z0.out]
    have ya15 : w2.cell? ⟨w.heap.size, 15, none⟩ = some (.slice D6 D7 D8) := by simp [World.cell?, hX.out.blk z0.out]
    have yb0 : w2.cell? ⟨w.heap.size + 1, 0, none⟩ = some (.bool E1) := by simp [World.cell?, hX.out.blk z1.out]
    have yb1 : w2.cell? ⟨w.heap.size + 1, 1, none⟩ = some (.slice E2 E3 E4) := by simp [World.cell?, hX.out.blk z1.out]
    have yb2 : w2.cell? ⟨w.heap.size + 1, 2, none⟩ = some (.bool E5) := by simp [World.cell?, hX.out.blk z1.out]
    have yb3 : w2.cell? ⟨w.heap.size + 1, 3, none⟩ = some (.slice E6 E7 E8) := by simp [World.cell?, hX.out.blk z1.out]
    have yb4 : w2.cell? ⟨w.heap.size + 1, 4, none⟩ = some (.bool G1) := by simp [World.cell?, hX.out.blk z1.out]
    have yb5 : w2.cell? ⟨w.heap.size + 1, 5, none⟩ = some (.slice G2 G3 G4) := by simp [World.cell?, hX.out.blk z1.out]
    have yb6 : w2.cell? ⟨w.heap.size + 1, 6, none⟩ = some (.bool G5) := by simp [World.cell?, hX.out.blk z1.out]
    have yb7 : w2.cell? ⟨w.heap.size + 1, 7, none⟩ = some (.slice G6 G7 G8) := by simp [World.cell?, hX.out.blk z1.out]
    have yb8 : w2.cell? ⟨w.heap.size + 1, 8, none⟩ = some (.bool H1) := by simp [World.cell?, hX.out.blk z1.out]
    have yb9 : w2.cell? ⟨w.heap.size + 1, 9, none⟩ = some (.slice H2 H3 H4) := by simp [World.cell?, hX.out.blk z1.out]
    have yb10 : w2.cell? ⟨w.heap.size + 1, 10, none⟩ = some (.bool H5) := by simp [World.cell?, hX.out.blk z1.out]
    have yb11 : w2.cell? ⟨w.heap.size + 1, 11, none⟩ = some (.slice H6 H7 H8) := by simp [World.cell?, hX.out.blk z1.out]
    have yb12 : w2.cell? ⟨w.heap.size + 1, 12, none⟩ = some (.bool I1) := by simp [World.cell?, hX.out.blk z1.out]
    have yb13 : w2.cell? ⟨w.heap.size + 1, 13, none⟩ = some (.slice I2 I3 I4) := by simp [World.cell?, hX.out.blk z1.out]
    have yb14 : w2.cell? ⟨w.heap.size + 1, 14, none⟩ = some (.bool I5) := by simp [World.cell?, hX.out.blk z1.out]
    have yb15 : w2.cell? ⟨w.heap.size + 1, 15, none⟩ = some (.slice I6 I7 I8) := by simp [World.cell?, hX.out.blk z1.out]
    clear hE2
    go_wp2_with fail
    refine (k3.out w2 hX.out).mono ?_
    rintro e w3 ⟨rfl, hE3⟩
    replace hX := mkHid (hX.out.trans hE3)
    clear ya0 ya1 ya2 ya3 ya4 ya5 ya6 ya7 ya8 ya9 ya10 ya11 ya12 ya13 ya14 ya15 yb0 yb1 yb2 yb3 yb4 yb5 yb6 yb7 yb8 yb9 yb10 yb11 yb12 yb13 yb14 yb15
    clear hE3
    go_wp2_with fail
    go_ret
    exact ⟨rfl, hE.out.trans hX.out⟩
  rw [decide_eq_true c3] at k3
  by_cases c4 : d = d'
  case neg =>
    rw [decide_eq_false c4] at k4
    rw [decide_eq_false (fun h => c4 (hpost4 h))]
    clear hpost1 hpost2 hpost3 hpost4 hall
    replace c1 := mkHid c1
    replace c2 := mkHid c2
    replace c3 := mkHid c3
    replace c4 := mkHid c4
    go_enter Tryz.func38, Tryz.ntmps38
    go_wp2_with fail
    rw [← hwb.out]
    clear hwb
    refine (k1.out wb hX.out).mono ?_
    rintro e w1 ⟨rfl, hE1⟩
    replace hX := mkHid (hX.out.trans hE1)
    have ya0 : w1.cell? ⟨w.heap.size, 0, none⟩ = some (.bool A1) := by simp [World.cell?, hX.out.blk z0.out]
    have ya1 : w1.cell? ⟨w.heap.size, 1, none⟩ = some (.slice A2 A3 A4) := by simp [World.cell?, hX.out.blk z0.out]
    have ya2 : w1.cell? ⟨w.heap.size, 2, none⟩ = some (.bool A5) := by simp [World.cell?, hX.out.blk z0.out]
    have ya3 : w1.cell? ⟨w.heap.size, 3, none⟩ = some (.slice A6 A7 A8) := by simp [World.cell?, hX.out.blk z0.out]
    have ya4 : w1.cell? ⟨w.heap.size, 4, none⟩ = some (.bool B1) := by simp [World.cell?, hX.out.blk z0.out]
    have ya5 : w1.cell? ⟨w.heap.size, 5, none⟩ = some (.slice B2 B3 B4) := by simp [World.cell?, hX.out.blk z0.out]
    have ya6 : w1.cell? ⟨w.heap.size, 6, none⟩ = some (.bool B5) := by simp [World.cell?, hX.out.blk z0.out]
    have ya7 : w1.cell? ⟨w.heap.size, 7, none⟩ = some (.slice B6 B7 B8) := by simp [World.cell?, hX.out.blk z0.out]
    have ya8 : w1.cell? ⟨w.heap.size, 8, none⟩ = some (.bool C1) := by simp [World.cell?, hX.out.blk z0.out]
    have ya9 : w1.cell? ⟨w.heap.size, 9, none⟩ = some (.slice C2 C3 C4) := by simp [World.cell?, hX.out.blk z0.out]
    have ya10 : w1.cell? ⟨w.heap.size, 10, none⟩ = some (.bool C5) := by simp [World.cell?, hX.out.blk z0.out]
    have ya11 : w1.cell? ⟨w.heap.size, 11, none⟩ = some (.slice C6 C7 C8) := by simp [World.cell?, hX.out.blk z0.out]
    have ya12 : w1.cell? ⟨w.heap.size, 12, none⟩ = some (.bool D1) := by simp [World.cell?, hX.out.blk z0.out]
    have ya13 : w1.cell? ⟨w.heap.size, 13, none⟩ = some (.slice D2 D3 D4) := by simp [World.cell?, hX.out.blk z0.out]
    have ya14 : w1.cell? ⟨w.heap.size, 14, none⟩ = some (.bool D5) := by simp [World.cell?, hX.out.blk z0.out]
    have ya15 : w1.cell? ⟨w.heap.size, 15, none⟩ = some (.slice D6 D7 D8) := by simp [World.cell?, hX.out.blk z0.out]
    have yb0 : w1.cell? ⟨w.heap.size + 1, 0, none⟩ = some (.bool E1) := by simp [World.cell?, hX.out.blk z1.out]
    have yb1 : w1.cell? ⟨w.heap.size + 1, 1, none⟩ = some (.slice E2 E3 E4) := by simp [World.cell?, hX.out.blk z1.out]
    have yb2 : w1.cell? ⟨w.heap.size + 1, 2, none⟩ = some (.bool E5) := by simp [World.cell?, hX.out.blk z1.out]
    have yb3 : w1.cell? ⟨w.heap.size + 1, 3, none⟩ = some (.slice E6 E7 E8) := by simp [World.cell?, hX.out.blk z1.out]
    have yb4 : w1.cell? ⟨w.heap.size + 1, 4, none⟩ = some (.bool G1) := by simp [World.cell?, hX.out.blk z1.out]
    have yb5 : w1.cell? ⟨w.heap.size + 1, 5, none⟩ = some (.slice G2 G3 G4) := by simp [World.cell?, hX.out.blk z1.out]
    have yb6 : w1.cell? ⟨w.heap.size + 1, 6, none⟩ = some (.bool G5) := by simp [World.cell?, hX.out.blk z1.out]
    have yb7 : w1.cell? ⟨w.heap.size + 1, 7, none⟩ = some (.slice G6 G7 G8) := by simp [World.cell?, hX.out.blk z1.out]
    have yb8 : w1.cell? ⟨w.heap.size + 1, 8, none⟩ = some (.bool H1) := by simp [World.cell?, hX.out.blk z1.out]
    have yb9 : w1.cell? ⟨w.heap.size + 1, 9, none⟩ = some (.slice H2 H3 H4) := by simp [World.cell?, hX.out.blk z1.out]
    have yb10 : w1.cell? ⟨w.heap.size + 1, 10, none⟩ = some (.bool H5) := by simp [World.cell?, hX.out.blk z1.out]
    have yb11 : w1.cell? ⟨w.heap.size + 1, 11, none⟩ = some (.slice H6 H7 H8) := by simp [World.cell?, hX.out.blk z1.out]
    have yb12 : w1.cell? ⟨w.heap.size + 1, 12, none⟩ = some (.bool I1) := by simp [World.cell?, hX.out.blk z1.out]
    have yb13 : w1.cell? ⟨w.heap.size + 1, 13, none⟩ = some (.slice I2 I3 I4) := by simp [World.cell?, hX.out.blk z1.out]
    have yb14 : w1.cell? ⟨w.heap.size + 1, 14, none⟩ = some (.bool I5) := by simp [World.cell?, hX.out.blk z1.out]
    have yb15 : w1.cell? ⟨w.heap.size + 1, 15, none⟩ = some (.slice I6 I7 I8) := by simp [World.cell?, hX.out.blk z1.out]
    clear hE1
    go_wp2_with fail
    refine (k2.out w1 hX.out).mono ?_
    rintro e w2 ⟨rfl, hE2⟩
    replace hX := mkHid (hX.out.trans hE2)
    clear ya0 ya1 ya2 ya3 ya4 ya5 ya6 ya7 ya8 ya9 ya10 ya11 ya12 ya13 ya14 ya15 yb0 yb1 yb2 yb3 yb4 yb5 yb6 yb7 yb8 yb9 yb10 yb11 yb12 yb13 yb14 yb15
    have ya0 : w2.cell? ⟨w.heap.size, 0, none⟩ = some (.bool A1) := by simp [World.cell?, hX.out.blk z0.out]
    have ya1 : w2.cell? ⟨w.heap.size, 1, none⟩ = some (.slice A2 A3 A4) := by simp [World.cell?, hX.out.blk z0.out]
    have ya2 : w2.cell? ⟨w.heap.size, 2, none⟩ = some (.bool A5) := by simp [World.cell?, hX.out.blk z0.out]
    have ya3 : w2.cell? ⟨w.heap.size, 3, none⟩ = some (.slice A6 A7 A8) := by simp [World.cell?, hX.out.blk z0.out]
    have ya4 : w2.cell? ⟨w.heap.size, 4, none⟩ = some (.bool B1) := by simp [World.cell?, hX.out.blk z0.out]
    have ya5 : w2.cell? ⟨w.heap.size, 5, none⟩ = some (.slice B2 B3 B4) := by simp [World.cell?, hX.out.blk z0.out]
    have ya6 : w2.cell? ⟨w.heap.size, 6, none⟩ = some (.bool B5) := by simp [World.cell?, hX.out.blk z0.out]
    have ya7 : w2.cell? ⟨w.heap.size, 7, none⟩ = some (.slice B6 B7 B8) := by simp [World.cell?, hX.out.blk z0.out]
    have ya8 : w2.cell? ⟨w.heap.size, 8, none⟩ = some (.bool C1) := by simp [World.cell?, hX.out.blk z0.out]
    have ya9 : w2.cell? ⟨w.heap.size, 9, none⟩ = some (.slice C2 C3 C4) := by simp [World.cell?, hX.out.blk z0.out]
    have ya10 : w2.cell? ⟨w.heap.size, 10, none⟩ = some (.bool C5) := by simp [World.cell?, hX.out.blk z0.out]
    have ya11 : w2.cell? ⟨w.heap.size, 11, none⟩ = some (.slice C6 C7 C8) := by simp [World.cell?, hX.out.blk z0.out]
    have ya12 : w2.cell? ⟨w.heap.size, 12, none⟩ = some (.bool D1) := by simp [World.cell?, hX.out.blk z0.out]
    have ya13 : w2.cell? ⟨w.heap.size, 13, none⟩ = some (.slice D2 D3 D4) := by simp [World.cell?, hX.out.blk z0.out]
    have ya14 : w2.cell? ⟨w.heap.size, 14, none⟩ = some (.bool D5) := by simp [World.cell?, hX.out.blk z0.out]
    have ya15 : w2.cell? ⟨w.heap.size, 15, none⟩ = some (.slice D6 D7 D8) := by simp [World.cell?, hX.out.blk z0.out]
    have yb0 : w2.cell? ⟨w.heap.size + 1, 0, none⟩ = some (.bool E1) := by simp [World.cell?, hX.out.blk z1.out]
    have yb1 : w2.cell? ⟨w.heap.size + 1, 1, none⟩ = some (.slice E2 E3 E4) := by simp [World.cell?, hX.out.blk z1.out]
    have yb2 : w2.cell? ⟨w.heap.size + 1, 2, none⟩ = some (.bool E5) := by simp [World.cell?, hX.out.blk z1.out]
    have yb3 : w2.cell? ⟨w.heap.size + 1, 3, none⟩ = some (.slice E6 E7 E8) := by simp [World.cell?, hX.out.blk z1.out]
    have yb4 : w2.cell? ⟨w.heap.size + 1, 4, none⟩ = some (.bool G1) := by simp [World.cell?, hX.out.blk z1.out]
    have yb5 : w2.cell? ⟨w.heap.size + 1, 5, none⟩ = some (.slice G2 G3 G4) := by simp [World.cell?, hX.out.blk z1.out]
    have yb6 : w2.cell? ⟨w.heap.size + 1, 6, none⟩ = some (.bool G5) := by simp [World.cell?, hX.out.blk z1.out]
    have yb7 : w2.cell? ⟨w.heap.size + 1, 7, none⟩ = some (.slice G6 G7 G8) := by simp [World.cell?, hX.out.blk z1.out]
    have yb8 : w2.cell? ⟨w.heap.size + 1, 8, none⟩ = some (.bool H1) := by simp [World.cell?, hX.out.blk z1.out]
    have yb9 : w2.cell? ⟨w.heap.size + 1, 9, none⟩ = some (.slice H2 H3 H4) := by simp [World.cell?, hX.out.blk z1.out]
    have yb10 : w2.cell? ⟨w.heap.size + 1, 10, none⟩ = some (.bool H5) := by simp [World.cell?, hX.out.blk z1.out]
    have yb11 : w2.cell? ⟨w.heap.size + 1, 11, none⟩ = some (.slice H6 H7 H8) := by simp [World.cell?, hX.out.blk z1.out]
    have yb12 : w2.cell? ⟨w.heap.size + 1, 12, none⟩ = some (.bool I1) := by simp [World.cell?, hX.out.blk z1.out]
    have yb13 : w2.cell? ⟨w.heap.size + 1, 13, none⟩ = some (.slice I2 I3 I4) := by simp [World.cell?, hX.out.blk z1.out]
    have yb14 : w2.cell? ⟨w.heap.size + 1, 14, none⟩ = some (.bool I5) := by simp [World.cell?, hX.out.blk z1.out]
    have yb15 : w2.cell? ⟨w.heap.size + 1, 15, none⟩ = some (.slice I6 I7 I8) := by simp [World.cell?, hX.out.blk z1.out]
    clear hE2
    go_wp2_with fail
    refine (k3.out w2 hX.out).mono ?_
    rintro e w3 ⟨rfl, hE3⟩
    replace hX := mkHid (hX.out.trans hE3)
    clear ya0 ya1 ya2 ya3 ya4 ya5 ya6 ya7 ya8 ya9 ya10 ya11 ya12 ya13 ya14 ya15 yb0 yb1 yb2 yb3 yb4 yb5 yb6 yb7 yb8 yb9 yb10 yb11 yb12 yb13 yb14 yb15
    have ya0 : w3.cell? ⟨w.heap.size, 0, none⟩ = some (.bool A1) := by simp [World.cell?, hX.out.blk z0.out]
    have ya1 : w3.cell? ⟨w.heap.size, 1, none⟩ = some (.slice A2 A3 A4) := by simp [World.cell?, hX.out.blk z0.out]
    have ya2 : w3.cell? ⟨w.heap.size, 2, none⟩ = some (.bool A5) := by simp [World.cell?, hX.out.blk z0.out]
    have ya3 : w3.cell? ⟨w.heap.size, 3, none⟩ = some (.slice A6 A7 A8) := by simp [World.cell?, hX.out.blk z0.out]
    have ya4 : w3.cell? ⟨w.heap.size, 4, none⟩ = some (.bool B1) := by simp [World.cell?, hX.out.blk z0.out]
    have ya5 : w3.cell? ⟨w.heap.size, 5, none⟩ = some (.slice B2 B3 B4) := by simp [World.cell?, hX.out.blk z0.out]
    have ya6 : w3.cell? ⟨w.heap.size, 6, none⟩ = some (.bool B5) := by simp [World.cell?, hX.out.blk z0.out]
    have ya7 : w3.cell? ⟨w.heap.size, 7, none⟩ = some (.slice B6 B7 B8) := by simp [World.cell?, hX.out.blk z0.out]
    have ya8 : w3.cell? ⟨w.heap.size, 8, none⟩ = some (.bool C1) := by simp [World.cell?, hX.out.blk z0.out]
    have ya9 : w3.cell? ⟨w.heap.size, 9, none⟩ = some (.slice C2 C3 C4) := by simp [World.cell?, hX.out.blk z0.out]
    have ya10 : w3.cell? ⟨w.heap.size, 10, none⟩ = some (.bool C5) := by simp [World.cell?, hX.out.blk z0.out]
    have ya11 : w3.cell? ⟨w.heap.size, 11, none⟩ = some (.slice C6 C7 C8) := by simp [World.cell?, hX.out.blk z0.out]
    have ya12 : w3.cell? ⟨w.heap.size, 12, none⟩ = some (.bool D1) := by simp [World.cell?, hX.out.blk z0.out]
    have ya13 : w3.cell? ⟨w.heap.size, 13, none⟩ = some (.slice D2 D3 D4) := by simp [World.cell?, hX.out.blk z0.out]
    have ya14 : w3.cell? ⟨w.heap.size, 14, none⟩ = some (.bool D5) := by simp [World.cell?, hX.out.blk z0.out]
    have ya15 : w3.cell? ⟨w.heap.size, 15, none⟩ = some (.slice D6 D7 D8) := by simp [World.cell?, hX.out.blk z0.out]
    have yb0 : w3.cell? ⟨w.heap.size + 1, 0, none⟩ = some (.bool E1) := by simp [World.cell?, hX.out.blk z1.out]
    have yb1 : w3.cell? ⟨w.heap.size + 1, 1, none⟩ = some (.slice E2 E3 E4) := by simp [World.cell?, hX.out.blk z1.out]
    have yb2 : w3.cell? ⟨w.heap.size + 1, 2, none⟩ = some (.bool E5) := by simp [World.cell?, hX.out.blk z1.out]
    have yb3 : w3.cell? ⟨w.heap.size + 1, 3, none⟩ = some (.slice E6 E7 E8) := by simp [World.cell?, hX.out.blk z1.out]
    have yb4 : w3.cell? ⟨w.heap.size + 1, 4, none⟩ = some (.bool G1) := by simp [World.cell?, hX.out.blk z1.out]
    have yb5 : w3.cell? ⟨w.heap.size + 1, 5, none⟩ = some (.slice G2 G3 G4) := by simp [World.cell?, hX.out.blk z1.out]
    have yb6 : w3.cell? ⟨w.heap.size + 1, 6, none⟩ = some (.bool G5) := by simp [World.cell?, hX.out.blk z1.out]
    have yb7 : w3.cell? ⟨w.heap.size + 1, 7, none⟩ = some (.slice G6 G7 G8) := by simp [World.cell?, hX.out.blk z1.out]
    have yb8 : w3.cell? ⟨w.heap.size + 1, 8, none⟩ = some (.bool H1) := by simp [World.cell?, hX.out.blk z1.out]
    have yb9 : w3.cell? ⟨w.heap.size + 1, 9, none⟩ = some (.slice H2 H3 H4) := by simp [World.cell?, hX.out.blk z1.out]
    have yb10 : w3.cell? ⟨w.heap.size + 1, 10, none⟩ = some (.bool H5) := by simp [World.cell?, hX.out.blk z1.out]
    have yb11 : w3.cell? ⟨w.heap.size + 1, 11, none⟩ = some (.slice H6 H7 H8) := by simp [World.cell?, hX.out.blk z1.out]
    have yb12 : w3.cell? ⟨w.heap.size + 1, 12, none⟩ = some (.bool I1) := by simp [World.cell?, hX.out.blk z1.out]
    have yb13 : w3.cell? ⟨w.heap.size + 1, 13, none⟩ = some (.slice I2 I3 I4) := by simp [World.cell?, hX.out.blk z1.out]
    have yb14 : w3.cell? ⟨w.heap.size + 1, 14, none⟩ = some (.bool I5) := by simp [World.cell?, hX.out.blk z1.out]
    have yb15 : w3.cell? ⟨w.heap.size + 1, 15, none⟩ = some (.slice I6 I7 I8) := by simp [World.cell?, hX.out.blk z1.out]
    clear hE3
    go_wp2_with fail
    refine (k4.out w3 hX.out).mono ?_
    rintro e w4 ⟨rfl, hE4⟩
    replace hX := mkHid (hX.out.trans hE4)
    clear ya0 ya1 ya2 ya3 ya4 ya5 ya6 ya7 ya8 ya9 ya10 ya11 ya12 ya13 ya14 ya15 yb0 yb1 yb2 yb3 yb4 yb5 yb6 yb7 yb8 yb9 yb10 yb11 yb12 yb13 yb14 yb15
    clear hE4
    go_wp2_with fail
    go_ret
    exact ⟨rfl, hE.out.trans hX.out⟩
  rw [decide_eq_true c4] at k4
  rw [decide_eq_true (hall c1 c2 c3 c4)]
  clear hpost1 hpost2 hpost3 hpost4 hall
  replace c1 := mkHid c1
  replace c2 := mkHid c2
  replace c3 := mkHid c3
  replace c4 := mkHid c4
  go_enter Tryz.func38, Tryz.ntmps38
  go_wp2_with fail
  rw [← hwb.out]
  clear hwb
  refine (k1.out wb hX.out).mono ?_
  rintro e w1 ⟨rfl, hE1⟩
  replace hX := mkHid (hX.out.trans hE1)
  have ya0 : w1.cell? ⟨w.heap.size, 0, none⟩ = some (.bool A1) := by simp [World.cell?, hX.out.blk z0.out]
  have ya1 : w1.cell? ⟨w.heap.size, 1, none⟩ = some (.slice A2 A3 A4) := by simp [World.cell?, hX.out.blk z0.out]
  have ya2 : w1.cell? ⟨w.heap.size, 2, none⟩ = some (.bool A5) := by simp [World.cell?, hX.out.blk z0.out]
  have ya3 : w1.cell? ⟨w.heap.size, 3, none⟩ = some (.slice A6 A7 A8) := by simp [World.cell?, hX.out.blk z0.out]
  have ya4 : w1.cell? ⟨w.heap.size, 4, none⟩ = some (.bool B1) := by simp [World.cell?, hX.out.blk z0.out]
  have ya5 : w1.cell? ⟨w.heap.size, 5, none⟩ = some (.slice B2 B3 B4) := by simp [World.cell?, hX.out.blk z0.out]
  have ya6 : w1.cell? ⟨w.heap.size, 6, none⟩ = some (.bool B5) := by simp [World.cell?, hX.out.blk z0.out]
  have ya7 : w1.cell? ⟨w.heap.size, 7, none⟩ = some (.slice B6 B7 B8) := by simp [World.cell?, hX.out.blk z0.out]
  have ya8 : w1.cell? ⟨w.heap.size, 8, none⟩ = some (.bool C1) := by simp [World.cell?, hX.out.blk z0.out]
  have ya9 : w1.cell? ⟨w.heap.size, 9, none⟩ = some (.slice C2 C3 C4) := by simp [World.cell?, hX.out.blk z0.out]
  have ya10 : w1.cell? ⟨w.heap.size, 10, none⟩ = some (.bool C5) := by simp [World.cell?, hX.out.blk z0.out]
  have ya11 : w1.cell? ⟨w.heap.size, 11, none⟩ = some (.slice C6 C7 C8) := by simp [World.cell?, hX.out.blk z0.out]
  have ya12 : w1.cell? ⟨w.heap.size, 12, none⟩ = some (.bool D1) := by simp [World.cell?, hX.out.blk z0.out]
  have ya13 : w1.cell? ⟨w.heap.size, 13, none⟩ = some (.slice D2 D3 D4) := by simp [World.cell?, hX.out.blk z0.out]
  have ya14 : w1.cell? ⟨w.heap.size, 14, none⟩ = some (.bool D5) := by simp [World.cell?, hX.out.blk z0.out]
  have ya15 : w1.cell? ⟨w.heap.size, 15, none⟩ = some (.slice D6 D7 D8) := by simp [World.cell?, hX.out.blk z0.out]
  have yb0 : w1.cell? ⟨w.heap.size + 1, 0, none⟩ = some (.bool E1) := by simp [World.cell?, hX.out.blk z1.out]
  have yb1 : w1.cell? ⟨w.heap.size + 1, 1, none⟩ = some (.slice E2 E3 E4) := by simp [World.cell?, hX.out.blk z1.out]
  have yb2 : w1.cell? ⟨w.heap.size + 1, 2, none⟩ = some (.bool E5) := by simp [World.cell?, hX.out.blk z1.out]
  have yb3 : w1.cell? ⟨w.heap.size + 1, 3, none⟩ = some (.slice E6 E7 E8) := by simp [World.cell?, hX.out.blk z1.out]
  have yb4 : w1.cell? ⟨w.heap.size + 1, 4, none⟩ = some (.bool G1) := by simp [World.cell?, hX.out.blk z1.out]
  have yb5 : w1.cell? ⟨w.heap.size + 1, 5, none⟩ = some (.slice G2 G3 G4) := by simp [World.cell?, hX.out.blk z1.out]
  have yb6 : w1.cell? ⟨w.heap.size + 1, 6, none⟩ = some (.bool G5) := by simp [World.cell?, hX.out.blk z1.out]
  have yb7 : w1.cell? ⟨w.heap.size + 1, 7, none⟩ = some (.slice G6 G7 G8) := by simp [World.cell?, hX.out.blk z1.out]
  have yb8 : w1.cell? ⟨w.heap.size + 1, 8, none⟩ = some (.bool H1) := by simp [World.cell?, hX.out.blk z1.out]
  have yb9 : w1.cell? ⟨w.heap.size + 1, 9, none⟩ = some (.slice H2 H3 H4) := by simp [World.cell?, hX.out.blk z1.out]
  have yb10 : w1.cell? ⟨w.heap.size + 1, 10, none⟩ = some (.bool H5) := by simp [World.cell?, hX.out.blk z1.out]
  have yb11 : w1.cell? ⟨w.heap.size + 1, 11, none⟩ = some (.slice H6 H7 H8) := by simp [World.cell?, hX.out.blk z1.out]
  have yb12 : w1.cell? ⟨w.heap.size + 1, 12, none⟩ = some (.bool I1) := by simp [World.cell?, hX.out.blk z1.out]
  have yb13 : w1.cell? ⟨w.heap.size + 1, 13, none⟩ = some (.slice I2 I3 I4) := by simp [World.cell?, hX.out.blk z1.out]
  have yb14 : w1.cell? ⟨w.heap.size + 1, 14, none⟩ = some (.bool I5) := by simp [World.cell?, hX.out.blk z1.out]
  have yb15 : w1.cell? ⟨w.heap.size + 1, 15, none⟩ = some (.slice I6 I7 I8) := by simp [World.cell?, hX.out.blk z1.out]
  clear hE1
  go_wp2_with fail
  refine (k2.out w1 hX.out).mono ?_
  rintro e w2 ⟨rfl, hE2⟩
  replace hX := mkHid (hX.out.trans hE2)
  clear ya0 ya1 ya2 ya3 ya4 ya5 ya6 ya7 ya8 ya9 ya10 ya11 ya12 ya13 ya14 ya15 yb0 yb1 yb2 yb3 yb4 yb5 yb6 yb7 yb8 yb9 yb10 yb11 yb12 yb13 yb14 yb15
  have ya0 : w2.cell? ⟨w.heap.size, 0, none⟩ = some (.bool A1) := by simp [World.cell?, hX.out.blk z0.out]
  have ya1 : w2.cell? ⟨w.heap.size, 1, none⟩ = some (.slice A2 A3 A4) := by simp [World.cell?, hX.out.blk z0.out]
  have ya2 : w2.cell? ⟨w.heap.size, 2, none⟩ = some (.bool A5) := by simp [World.cell?, hX.out.blk z0.out]
  have ya3 : w2.cell? ⟨w.heap.size, 3, none⟩ = some (.slice A6 A7 A8) := by simp [World.cell?, hX.out.blk z0.out]
  have ya4 : w2.cell? ⟨w.heap.size, 4, none⟩ = some (.bool B1) := by simp [World.cell?, hX.out.blk z0.out]
  have ya5 : w2.cell? ⟨w.heap.size, 5, none⟩ = some (.slice B2 B3 B4) := by simp [World.cell?, hX.out.blk z0.out]
  have ya6 : w2.cell? ⟨w.heap.size, 6, none⟩ = some (.bool B5) := by simp [World.cell?, hX.out.blk z0.out]
  have ya7 : w2.cell? ⟨w.heap.size, 7, none⟩ = some (.slice B6 B7 B8) := by simp [World.cell?, hX.out.blk z0.out]
  have ya8 : w2.cell? ⟨w.heap.size, 8, none⟩ = some (.bool C1) := by simp [World.cell?, hX.out.blk z0.out]
  have ya9 : w2.cell? ⟨w.heap.size, 9, none⟩ = some (.slice C2 C3 C4) := by simp [World.cell?, hX.out.blk z0.out]
  have ya10 : w2.cell? ⟨w.heap.size, 10, none⟩ = some (.bool C5) := by simp [World.cell?, hX.out.blk z0.out]
  have ya11 : w2.cell? ⟨w.heap.size, 11, none⟩ = some (.slice C6 C7 C8) := by simp [World.cell?, hX.out.blk z0.out]
  have ya12 : w2.cell? ⟨w.heap.size, 12, none⟩ = some (.bool D1) := by simp [World.cell?, hX.out.blk z0.out]
  have ya13 : w2.cell? ⟨w.heap.size, 13, none⟩ = some (.slice D2 D3 D4) := by simp [World.cell?, hX.out.blk z0.out]
  have ya14 : w2.cell? ⟨w.heap.size, 14, none⟩ = some (.bool D5) := by simp [World.cell?, hX.out.blk z0.out]
  have ya15 : w2.cell? ⟨w.heap.size, 15, none⟩ = some (.slice D6 D7 D8) := by simp [World.cell?, hX.out.blk z0.out]
  have yb0 : w2.cell? ⟨w.heap.size + 1, 0, none⟩ = some (.bool E1) := by simp [World.cell?, hX.out.blk z1.out]
  have yb1 : w2.cell? ⟨w.heap.size + 1, 1, none⟩ = some (.slice E2 E3 E4) := by simp [World.cell?, hX.out.blk z1.out]
  have yb2 : w2.cell? ⟨w.heap.size + 1, 2, none⟩ = some (.bool E5) := by simp [World.cell?, hX.out.blk z1.out]
  have yb3 : w2.cell? ⟨w.heap.size + 1, 3, none⟩ = some (.slice E6 E7 E8) := by simp [World.cell?, hX.out.blk z1.out]
  have yb4 : w2.cell? ⟨w.heap.size + 1, 4, none⟩ = some (.bool G1) := by simp [World.cell?, hX.out.blk z1.out]
  have yb5 : w2.cell? ⟨w.heap.size + 1, 5, none⟩ = some (.slice G2 G3 G4) := by simp [World.cell?, hX.out.blk z1.out]
  have yb6 : w2.cell? ⟨w.heap.size + 1, 6, none⟩ = some (.bool G5) := by simp [World.cell?, hX.out.blk z1.out]
  have yb7 : w2.cell? ⟨w.heap.size + 1, 7, none⟩ = some (.slice G6 G7 G8) := by simp [World.cell?, hX.out.blk z1.out]
  have yb8 : w2.cell? ⟨w.heap.size + 1, 8, none⟩ = some (.bool H1) := by simp [World.cell?, hX.out.blk z1.out]
  have yb9 : w2.cell? ⟨w.heap.size + 1, 9, none⟩ = some (.slice H2 H3 H4) := by simp [World.cell?, hX.out.blk z1.out]
  have yb10 : w2.cell? ⟨w.heap.size + 1, 10, none⟩ = some (.bool H5) := by simp [World.cell?, hX.out.blk z1.out]
  have yb11 : w2.cell? ⟨w.heap.size + 1, 11, none⟩ = some (.slice H6 H7 H8) := by simp [World.cell?, hX.out.blk z1.out]
  have yb12 : w2.cell? ⟨w.heap.size + 1, 12, none⟩ = some (.bool I1) := by simp [World.cell?, hX.out.blk z1.out]
  have yb13 : w2.cell? ⟨w.heap.size + 1, 13, none⟩ = some (.slice I2 I3 I4) := by simp [World.cell?, hX.out.blk z1.out]
  have yb14 : w2.cell? ⟨w.heap.size + 1, 14, none⟩ = some (.bool I5) := by simp [World.cell?, hX.out.blk z1.out]
  have yb15 : w2.cell? ⟨w.heap.size + 1, 15, none⟩ = some (.slice I6 I7 I8) := by simp [World.cell?, hX.out.blk z1.out]
  clear hE2
  go_wp2_with fail
  refine (k3.out w2 hX.out).mono ?_
  rintro e w3 ⟨rfl, hE3⟩
  replace hX := mkHid (hX.out.trans hE3)
  clear ya0 ya1 ya2 ya3 ya4 ya5 ya6 ya7 ya8 ya9 ya10 ya11 ya12 ya13 ya14 ya15 yb0 yb1 yb2 yb3 yb4 yb5 yb6 yb7 yb8 yb9 yb10 yb11 yb12 yb13 yb14 yb15
  have ya0 : w3.cell? ⟨w.heap.size, 0, none⟩ = some (.bool A1) := by simp [World.cell?, hX.out.blk z0.out]
  have ya1 : w3.cell? ⟨w.heap.size, 1, none⟩ = some (.slice A2 A3 A4) := by simp [World.cell?, hX.out.blk z0.out]
  have ya2 : w3.cell? ⟨w.heap.size, 2, none⟩ = some (.bool A5) := by simp [World.cell?, hX.out.blk z0.out]
  have ya3 : w3.cell? ⟨w.heap.size, 3, none⟩ = some (.slice A6 A7 A8) := by simp [World.cell?, hX.out.blk z0.out]
  have ya4 : w3.cell? ⟨w.heap.size, 4, none⟩ = some (.bool B1) := by simp [World.cell?, hX.out.blk z0.out]
  have ya5 : w3.cell? ⟨w.heap.size, 5, none⟩ = some (.slice B2 B3 B4) := by simp [World.cell?, hX.out.blk z0.out]
  have ya6 : w3.cell? ⟨w.heap.size, 6, none⟩ = some (.bool B5) := by simp [World.cell?, hX.out.blk z0.out]
  have ya7 : w3.cell? ⟨w.heap.size, 7, none⟩ = some (.slice B6 B7 B8) := by simp [World.cell?, hX.out.blk z0.out]
  have ya8 : w3.cell? ⟨w.heap.size, 8, none⟩ = some (.bool C1) := by simp [World.cell?, hX.out.blk z0.out]
  have ya9 : w3.cell? ⟨w.heap.size, 9, none⟩ = some (.slice C2 C3 C4) := by simp [World.cell?, hX.out.blk z0.out]
  have ya10 : w3.cell? ⟨w.heap.size, 10, none⟩ = some (.bool C5) := by simp [World.cell?, hX.out.blk z0.out]
  have ya11 : w3.cell? ⟨w.heap.size, 11, none⟩ = some (.slice C6 C7 C8) := by simp [World.cell?, hX.out.blk z0.out]
  have ya12 : w3.cell? ⟨w.heap.size, 12, none⟩ = some (.bool D1) := by simp [World.cell?, hX.out.blk z0.out]
  have ya13 : w3.cell? ⟨w.heap.size, 13, none⟩ = some (.slice D2 D3 D4) := by simp [World.cell?, hX.out.blk z0.out]
  have ya14 : w3.cell? ⟨w.heap.size, 14, none⟩ = some (.bool D5) := by simp [World.cell?, hX.out.blk z0.out]
  have ya15 : w3.cell? ⟨w.heap.size, 15, none⟩ = some (.slice D6 D7 D8) := by simp [World.cell?, hX.out.blk z0.out]
  have yb0 : w3.cell? ⟨w.heap.size + 1, 0, none⟩ = some (.bool E1) := by simp [World.cell?, hX.out.blk z1.out]
  have yb1 : w3.cell? ⟨w.heap.size + 1, 1, none⟩ = some (.slice E2 E3 E4) := by simp [World.cell?, hX.out.blk z1.out]
  have yb2 : w3.cell? ⟨w.heap.size + 1, 2, none⟩ = some (.bool E5) := by simp [World.cell?, hX.out.blk z1.out]
  have yb3 : w3.cell? ⟨w.heap.size + 1, 3, none⟩ = some (.slice E6 E7 E8) := by simp [World.cell?, hX.out.blk z1.out]
  have yb4 : w3.cell? ⟨w.heap.size + 1, 4, none⟩ = some (.bool G1) := by simp [World.cell?, hX.out.blk z1.out]
  have yb5 : w3.cell? ⟨w.heap.size + 1, 5, none⟩ = some (.slice G2 G3 G4) := by simp [World.cell?, hX.out.blk z1.out]
  have yb6 : w3.cell? ⟨w.heap.size + 1, 6, none⟩ = some (.bool G5) := by simp [World.cell?, hX.out.blk z1.out]
  have yb7 : w3.cell? ⟨w.heap.size + 1, 7, none⟩ = some (.slice G6 G7 G8) := by simp [World.cell?, hX.out.blk z1.out]
  have yb8 : w3.cell? ⟨w.heap.size + 1, 8, none⟩ = some (.bool H1) := by simp [World.cell?, hX.out.blk z1.out]
  have yb9 : w3.cell? ⟨w.heap.size + 1, 9, none⟩ = some (.slice H2 H3 H4) := by simp [World.cell?, hX.out.blk z1.out]
  have yb10 : w3.cell? ⟨w.heap.size + 1, 10, none⟩ = some (.bool H5) := by simp [World.cell?, hX.out.blk z1.out]
  have yb11 : w3.cell? ⟨w.heap.size + 1, 11, none⟩ = some (.slice H6 H7 H8) := by simp [World.cell?, hX.out.blk z1.out]
  have yb12 : w3.cell? ⟨w.heap.size + 1, 12, none⟩ = some (.bool I1) := by simp [World.cell?, hX.out.blk z1.out]
  have yb13 : w3.cell? ⟨w.heap.size + 1, 13, none⟩ = some (.slice I2 I3 I4) := by simp [World.cell?, hX.out.blk z1.out]
  have yb14 : w3.cell? ⟨w.heap.size + 1, 14, none⟩ = some (.bool I5) := by simp [World.cell?, hX.out.blk z1.out]
  have yb15 : w3.cell? ⟨w.heap.size + 1, 15, none⟩ = some (.slice I6 I7 I8) := by simp [World.cell?, hX.out.blk z1.out]
  clear hE3
  go_wp2_with fail
  refine (k4.out w3 hX.out).mono ?_
  rintro e w4 ⟨rfl, hE4⟩
  replace hX := mkHid (hX.out.trans hE4)
  clear ya0 ya1 ya2 ya3 ya4 ya5 ya6 ya7 ya8 ya9 ya10 ya11 ya12 ya13 ya14 ya15 yb0 yb1 yb2 yb3 yb4 yb5 yb6 yb7 yb8 yb9 yb10 yb11 yb12 yb13 yb14 yb15
  clear hE4
  go_wp2_with fail
  go_ret
  exact ⟨rfl, hE.out.trans hX.out⟩
end Go.Proofs.YtpmfohhpaoagfaaGreat
