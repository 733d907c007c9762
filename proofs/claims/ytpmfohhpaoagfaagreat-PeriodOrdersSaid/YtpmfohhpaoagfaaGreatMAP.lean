/-
  period: the plain law of returns: which powers of a matrix of determinant one are one, which give a ray back. The plain law of PeriodSteps: powers by the recurrence. No program. polestarref14: order, Order: printed by tools/gen_ref14b.py. A region's load of a whole row, by the row's law, where variables are made: no program. A row's load under a guard that wants it. No program. polestarref14: Order, Again: printed by tools/gen_ref14c.py. law01: TwinInt, LeftInt. law01: LeftInt.
-/
import Derived.Test.YtpmfohhpaoagfaaGreatMAO
import Derived.Test.YtpmfohhpaoagfaaGreatMAN
import Derived.Test.YtpmfohhpaoagfaaGreatMAD
import Derived.Test.YtpmfohhpaoagfaaGreatMAK
import Derived.Test.YtpmfohhpaoagfaaGreatMAI
import Derived.Test.YtpmfohhpaoagfaaGreatMAF
namespace Go.Proofs.YtpmfohhpaoagfaaGreat
open Go Go.RowKit Go.Proofs
/-- 1 or -1. -/
def sgn (k : Nat) : Rat := if k % 2 = 0 then 1 else -1
theorem sgn_succ (k : Nat) : sgn (k + 1) = -sgn k := by
  unfold sgn
  rcases Nat.mod_two_eq_zero_or_one k with h | h
  · have h2 : (k + 1) % 2 = 1 := by omega
    rw [h, h2]
    show (-1 : Rat) = -1
    rfl
  · have h2 : (k + 1) % 2 = 0 := by omega
    rw [h, h2]
    show (1 : Rat) = - -1
    rfl
theorem it_two (k : Nat) : itR 2 k (-1, 0) = ((k : Rat) - 1, (k : Rat)) := by
  induction k with
  | zero => simp only [itR]; exact Prod.ext (by show (-1 : Rat) = 0 - 1; grind) rfl
  | succ k ih =>
    have e : ((k + 1 : Nat) : Rat) = (k : Rat) + 1 := by push_cast; rfl
    simp only [itR, ih, e]
    exact Prod.ext (by show (k : Rat) = _; grind) (by show 2 * (k : Rat) - ((k : Rat) - 1) = _; grind)
theorem it_mtwo (k : Nat) : itR (-2) k (-1, 0) = (sgn k * ((k : Rat) - 1), -(sgn k * (k : Rat))) := by
  induction k with
  | zero => simp only [itR]; exact Prod.ext (by show (-1 : Rat) = 1 * (0 - 1); grind) (by show (0 : Rat) = -(1 * 0); grind)
  | succ k ih =>
    have e : ((k + 1 : Nat) : Rat) = (k : Rat) + 1 := by push_cast; rfl
    simp only [itR, ih, e, sgn_succ]
    exact Prod.ext (by show -(sgn k * (k : Rat)) = _; grind) (by show -2 * -(sgn k * (k : Rat)) - sgn k * ((k : Rat) - 1) = _; grind)
theorem it_m1 (q : Nat) : itR (-1) (3 * q) (-1, 0) = (-1, 0) := by
  induction q with
  | zero => rfl
  | succ q ih =>
    rw [show 3 * (q + 1) = 3 * q + 1 + 1 + 1 by omega]
    simp only [itR, ih]
    exact Prod.ext (by grind) (by grind)
theorem it_0 (q : Nat) : itR 0 (4 * q) (-1, 0) = (-1, 0) := by
  induction q with
  | zero => rfl
  | succ q ih =>
    rw [show 4 * (q + 1) = 4 * q + 1 + 1 + 1 + 1 by omega]
    simp only [itR, ih]
    exact Prod.ext (by grind) (by grind)
theorem it_1 (q : Nat) : itR 1 (6 * q) (-1, 0) = (-1, 0) := by
  induction q with
  | zero => rfl
  | succ q ih =>
    rw [show 6 * (q + 1) = 6 * q + 1 + 1 + 1 + 1 + 1 + 1 by omega]
    simp only [itR, ih]
    exact Prod.ext (by grind) (by grind)
theorem it_inv (t : Rat) (k : Nat) : (itR t k (-1, 0)).2 * (itR t k (-1, 0)).2 - t * (itR t k (-1, 0)).2 * (itR t k (-1, 0)).1 + (itR t k (-1, 0)).1 * (itR t k (-1, 0)).1 = 1 := by
  induction k with
  | zero => simp only [itR]; grind
  | succ k ih =>
    simp only [itR]
    generalize (itR t k (-1, 0)).1 = v at *
    generalize (itR t k (-1, 0)).2 = u at *
    grind
/-- Twice Chebyshev's numbers T, times powers of the denominator. -/
def nseq (P Q : Int) : Nat → Int × Int
  | 0 => (2, P)
  | k + 1 => ((nseq P Q k).2, P * (nseq P Q k).2 - Q * Q * (nseq P Q k).1)
theorem nseq_it (t : Rat) (k : Nat) : (t * (itR t k (-1, 0)).2 - 2 * (itR t k (-1, 0)).1) * (t.den : Rat) ^ k = ((nseq t.num t.den k).1 : Rat) ∧
    (t * (itR t (k + 1) (-1, 0)).2 - 2 * (itR t (k + 1) (-1, 0)).1) * (t.den : Rat) ^ (k + 1) = ((nseq t.num t.den k).2 : Rat) := by
  have hd := rat_den t
  induction k with
  | zero =>
    constructor
    · simp only [itR, nseq]
      show _ = (2 : Rat)
      grind
    · simp only [itR, nseq]
      rw [← hd]
      generalize (t.den : Rat) = q
      grind
  | succ k ih =>
    refine ⟨ih.2, ?_⟩
    obtain ⟨h1, h2⟩ := ih
    simp only [nseq]
    have e : ((t.num * (nseq t.num t.den k).2 - (t.den : Int) * (t.den : Int) * (nseq t.num t.den k).1 : Int) : Rat) = (t.num : Rat) * ((nseq t.num t.den k).2 : Rat) - (t.den : Rat) * (t.den : Rat) * ((nseq t.num t.den k).1 : Rat) := by push_cast; rfl
    rw [e, ← h1, ← h2, ← hd]
    simp only [itR]
    generalize (itR t k (-1, 0)).1 = v
    generalize (itR t k (-1, 0)).2 = u
    generalize (t.den : Rat) = q
    grind
theorem nseq_mod (P Q : Int) (k : Nat) : (∃ m, (nseq P Q (k + 1)).1 = P ^ (k + 1) + Q * m) ∧ ∃ m, (nseq P Q (k + 1)).2 = P ^ (k + 2) + Q * m := by
  induction k with
  | zero =>
    refine ⟨⟨0, by simp only [nseq]; grind⟩, ⟨-(Q * 2), ?_⟩⟩
    simp only [nseq]
    grind
  | succ k ih =>
    refine ⟨ih.2, ?_⟩
    obtain ⟨⟨m1, h1⟩, ⟨m2, h2⟩⟩ := ih
    refine ⟨P * m2 - Q * (nseq P Q (k + 1)).1, ?_⟩
    show P * (nseq P Q (k + 1)).2 - Q * Q * (nseq P Q (k + 1)).1 = _
    rw [h2]
    grind
theorem nseq_grow (P : Int) (hP : 3 ≤ P.natAbs) (k : Nat) : 2 ≤ (nseq P 1 k).1.natAbs ∧ (nseq P 1 k).1.natAbs < (nseq P 1 k).2.natAbs := by
  induction k with
  | zero => simp only [nseq]; omega
  | succ k ih =>
    simp only [nseq]
    obtain ⟨h1, h2⟩ := ih
    refine ⟨by omega, ?_⟩
    generalize (nseq P 1 k).1 = x at *
    generalize (nseq P 1 k).2 = y at *
    have h3 : (P * y).natAbs = P.natAbs * y.natAbs := Int.natAbs_mul _ _
    have h4 : 3 * y.natAbs ≤ P.natAbs * y.natAbs := Nat.mul_le_mul_right _ hP
    have h5 : 1 * 1 * x = x := by grind
    rw [h5]
    generalize P * y = z at *
    omega
/-- Where a power's trace is two, the trace is a whole number from -2 to 2. -/
theorem tau_two {t : Rat} {k : Nat} (hk : 1 ≤ k) (h : t * powU k t - 2 * powV k t = 2) : ∃ T : Int, t = (T : Rat) ∧ -2 ≤ T ∧ T ≤ 2 := by
  have h1 := (nseq_it t k).1
  have h2 : (t * (itR t k (-1, 0)).2 - 2 * (itR t k (-1, 0)).1) = 2 := h
  rw [h2] at h1
  have h3 : (nseq t.num t.den k).1 = 2 * (t.den : Int) ^ k := by
    have e : ((2 * (t.den : Int) ^ k : Int) : Rat) = 2 * (t.den : Rat) ^ k := by push_cast; rfl
    exact_mod_cast (e.trans h1).symm
  obtain ⟨j, rfl⟩ : ∃ j, k = j + 1 := ⟨k - 1, by omega⟩
  obtain ⟨m, hm⟩ := (nseq_mod t.num t.den j).1
  have hdvd : (t.den : Int) ∣ t.num ^ (j + 1) := by
    refine ⟨2 * (t.den : Int) ^ j - m, ?_⟩
    rw [h3, Int.pow_succ] at hm
    grind
  have hn : t.den ∣ t.num.natAbs ^ (j + 1) := by
    have := Int.natAbs_dvd_natAbs.2 hdvd
    rwa [Int.natAbs_pow, Int.natAbs_natCast] at this
  have hcop : Nat.Coprime t.den (t.num.natAbs ^ (j + 1)) := Nat.Coprime.pow_right _ t.reduced.symm
  have hone : t.den = 1 := Nat.Coprime.eq_one_of_dvd hcop hn
  refine ⟨t.num, ?_, ?_⟩
  · have := rat_den t
    rw [hone] at this
    simpa using this
  · rw [hone] at h3
    have h4 : (nseq t.num 1 (j + 1)).1 = 2 := by
      have : (2 : Int) * ((1 : Nat) : Int) ^ (j + 1) = 2 := by rw [show ((1 : Nat) : Int) = 1 from rfl, Int.one_pow]; rfl
      rw [← this]
      exact h3
    rcases Nat.lt_or_ge t.num.natAbs 3 with h5 | h5
    · omega
    · have := nseq_grow t.num h5 j
      have e : (nseq t.num 1 (j + 1)).1 = (nseq t.num 1 j).2 := rfl
      rw [e] at h4
      rw [h4] at this
      have := this.1
      omega
theorem det_zero {A B C D y w : Rat} (h1 : A * y + B * w = 0) (h2 : C * y + D * w = 0) (hr : ¬ (y = 0 ∧ w = 0)) : A * D - B * C = 0 := by
  by_cases hy : y = 0
  · have hw : w ≠ 0 := fun e => hr ⟨hy, e⟩
    grind
  · grind
theorem powUV_inv (t : Rat) (k : Nat) : powU k t * powU k t - t * powU k t * powV k t + powV k t * powV k t = 1 := it_inv t k
theorem natCast_pos {k : Nat} (hk : 1 ≤ k) : (k : Rat) ≠ 0 := by
  intro h
  have : k = 0 := by exact_mod_cast h
  omega
/-- Where the trace is a whole number from -2 to 2: the two numbers of the power k. -/
theorem pw_2 (k : Nat) : powU k 2 = (k : Rat) ∧ powV k 2 = (k : Rat) - 1 := by unfold powU powV; rw [it_two]; exact ⟨rfl, rfl⟩
theorem pw_m2 (k : Nat) : powU k (-2) = -(sgn k * (k : Rat)) ∧ powV k (-2) = sgn k * ((k : Rat) - 1) := by unfold powU powV; rw [it_mtwo]; exact ⟨rfl, rfl⟩
theorem pw_m1 (k : Nat) : (k % 3 = 0 → powU k (-1) = 0 ∧ powV k (-1) = -1) ∧ (¬ k % 3 = 0 → -1 * powU k (-1) - 2 * powV k (-1) ≠ 2) := by
  unfold powU powV
  have hk : k = 3 * (k / 3) + k % 3 := by omega
  have h3 : k % 3 = 0 ∨ k % 3 = 1 ∨ k % 3 = 2 := by omega
  generalize k / 3 = q at hk
  generalize k % 3 = r at *
  subst hk
  rcases h3 with rfl | rfl | rfl <;> simp only [itR, it_m1, Nat.add_zero] <;> grind
theorem pw_0 (k : Nat) : (k % 4 = 0 → powU k 0 = 0 ∧ powV k 0 = -1) ∧ (¬ k % 4 = 0 → 0 * powU k 0 - 2 * powV k 0 ≠ 2) := by
  unfold powU powV
  have hk : k = 4 * (k / 4) + k % 4 := by omega
  have h3 : k % 4 = 0 ∨ k % 4 = 1 ∨ k % 4 = 2 ∨ k % 4 = 3 := by omega
  generalize k / 4 = q at hk
  generalize k % 4 = r at *
  subst hk
  rcases h3 with rfl | rfl | rfl | rfl <;> simp only [itR, it_0, Nat.add_zero] <;> grind
theorem pw_1 (k : Nat) : (k % 6 = 0 → powU k 1 = 0 ∧ powV k 1 = -1) ∧ (¬ k % 6 = 0 → 1 * powU k 1 - 2 * powV k 1 ≠ 2) := by
  unfold powU powV
  have hk : k = 6 * (k / 6) + k % 6 := by omega
  have h3 : k % 6 = 0 ∨ k % 6 = 1 ∨ k % 6 = 2 ∨ k % 6 = 3 ∨ k % 6 = 4 ∨ k % 6 = 5 := by omega
  generalize k / 6 = q at hk
  generalize k % 6 = r at *
  subst hk
  rcases h3 with rfl | rfl | rfl | rfl | rfl | rfl <;> simp only [itR, it_1, Nat.add_zero] <;> grind
/-- What a power is: u times the matrix less v times one. -/
def isOne (a b c d u v : Rat) : Prop := u * a - v = 1 ∧ u * b = 0 ∧ u * c = 0 ∧ u * d - v = 1
theorem plain_iff {a b c d : Rat} : plainM a b c d = true ↔ b = 0 ∧ c = 0 ∧ a = d := by unfold plainM; rw [decide_eq_true_iff]
/-- The law of orders. -/
theorem one_iff {a b c d : Rat} (hdet : a * d - b * c = 1) {k : Nat} (hk : 1 ≤ k) : isOne a b c d (powU k (a + d)) (powV k (a + d)) ↔ (0 < ordM a b c d ∧ (k : Int) % ordM a b c d = 0) := by
  have hkr := natCast_pos hk
  by_cases t2 : a + d = 2
  · have o := @ord_2 a b c d (by rw [t2]; rfl)
    obtain ⟨eu, ev⟩ := pw_2 k
    rw [t2, eu, ev, o]
    unfold isOne
    by_cases hp : plainM a b c d = true
    · rw [if_pos hp]
      obtain ⟨rfl, rfl, rfl⟩ := plain_iff.1 hp
      exact ⟨fun _ => ⟨by omega, by omega⟩, fun _ => by refine ⟨?_, ?_, ?_, ?_⟩ <;> grind⟩
    · rw [if_neg hp]
      refine ⟨fun h => absurd (plain_iff.2 ?_) hp, fun h => absurd h.1 (by omega)⟩
      obtain ⟨h1, h2, h3, h4⟩ := h
      refine ⟨?_, ?_, ?_⟩ <;> grind
  · by_cases m2 : a + d = -2
    · have o := @ord_m2 a b c d (by rw [m2]; rfl)
      obtain ⟨eu, ev⟩ := pw_m2 k
      rw [m2, eu, ev, o]
      unfold isOne
      by_cases hp : plainM a b c d = true
      · rw [if_pos hp]
        obtain ⟨rfl, rfl, rfl⟩ := plain_iff.1 hp
        have ha : a = -1 := by grind
        subst ha
        unfold sgn
        by_cases he : k % 2 = 0
        · rw [if_pos he]
          exact ⟨fun _ => ⟨by omega, by omega⟩, fun _ => by refine ⟨?_, ?_, ?_, ?_⟩ <;> grind⟩
        · rw [if_neg he]
          refine ⟨fun h => ?_, fun h => absurd h.2 (by omega)⟩
          have := h.1
          grind
      · rw [if_neg hp]
        refine ⟨fun h => absurd (plain_iff.2 ?_) hp, fun h => absurd h.1 (by omega)⟩
        obtain ⟨h1, h2, h3, h4⟩ := h
        have hs : sgn k * sgn k = 1 := by unfold sgn; split <;> grind
        refine ⟨?_, ?_, ?_⟩ <;> grind
    · have key : ∀ (n : Nat), 0 < n → ordM a b c d = (n : Int) → (k % n = 0 → powU k (a + d) = 0 ∧ powV k (a + d) = -1) → (¬ k % n = 0 → (a + d) * powU k (a + d) - 2 * powV k (a + d) ≠ 2) →
          (isOne a b c d (powU k (a + d)) (powV k (a + d)) ↔ (0 < ordM a b c d ∧ (k : Int) % ordM a b c d = 0)) := by
        intro n hn ho h1 h2
        rw [ho]
        constructor
        · intro h
          refine ⟨by omega, ?_⟩
          by_cases hm : k % n = 0
          · exact_mod_cast hm
          · refine absurd ?_ (h2 hm)
            obtain ⟨g1, _, _, g4⟩ := h
            grind
        · rintro ⟨_, h⟩
          have hm : k % n = 0 := by exact_mod_cast h
          obtain ⟨e1, e2⟩ := h1 hm
          unfold isOne
          rw [e1, e2]
          refine ⟨?_, ?_, ?_, ?_⟩ <;> grind
      by_cases t1 : a + d = -1
      · refine key 3 (by omega) (ord_m1 (by rw [t1]; rfl)) ?_ ?_ <;> rw [t1]
        · exact (pw_m1 k).1
        · exact (pw_m1 k).2
      · by_cases t0 : a + d = 0
        · refine key 4 (by omega) (ord_0 (by rw [t0]; rfl)) ?_ ?_ <;> rw [t0]
          · exact (pw_0 k).1
          · exact (pw_0 k).2
        · by_cases tt : a + d = 1
          · refine key 6 (by omega) (ord_1 (by rw [tt]; rfl)) ?_ ?_ <;> rw [tt]
            · exact (pw_1 k).1
            · exact (pw_1 k).2
          · have o : ordM a b c d = 0 := by unfold ordM; rw [if_neg t2, if_neg m2, if_neg t1, if_neg t0, if_neg tt]
            rw [o]
            refine ⟨fun h => ?_, fun h => absurd h.1 (by omega)⟩
            obtain ⟨g1, _, _, g4⟩ := h
            obtain ⟨T, e, l1, l2⟩ := tau_two (t := a + d) hk (by grind)
            have hT : T = -2 ∨ T = -1 ∨ T = 0 ∨ T = 1 ∨ T = 2 := by omega
            rcases hT with rfl | rfl | rfl | rfl | rfl
            · exact absurd e m2
            · exact absurd e t1
            · exact absurd e t0
            · exact absurd e tt
            · exact absurd e t2
/-- Does the power u, v give the ray back? -/
def isBack (a b c d u v y w : Rat) : Prop := (u * a - v) * y + u * b * w = y ∧ u * c * y + (u * d - v) * w = w
theorem tau_of_back {a b c d y w : Rat} (hdet : a * d - b * c = 1) {k : Nat} (hr : ¬ (y = 0 ∧ w = 0)) (h : isBack a b c d (powU k (a + d)) (powV k (a + d)) y w) : (a + d) * powU k (a + d) - 2 * powV k (a + d) = 2 := by
  have hi := powUV_inv (a + d) k
  obtain ⟨h1, h2⟩ := h
  generalize powU k (a + d) = u at *
  generalize powV k (a + d) = v at *
  have := det_zero (A := u * a - v - 1) (B := u * b) (C := u * c) (D := u * d - v - 1) (by grind) (by grind) hr
  grind
theorem ord_cases {a b c d : Rat} (T : Int) (h : a + d = (T : Rat)) (h1 : -2 ≤ T) (h2 : T ≤ 2) (ho : ¬ 0 < ordM a b c d) : (T = 2 ∨ T = -2) ∧ ¬ plainM a b c d = true := by
  have hT : T = -2 ∨ T = -1 ∨ T = 0 ∨ T = 1 ∨ T = 2 := by omega
  rcases hT with rfl | rfl | rfl | rfl | rfl
  · refine ⟨.inr rfl, fun hp => ho ?_⟩
    rw [ord_m2 h, if_pos hp]
    omega
  · rw [ord_m1 h] at ho; omega
  · rw [ord_0 h] at ho; omega
  · rw [ord_1 h] at ho; omega
  · refine ⟨.inl rfl, fun hp => ho ?_⟩
    rw [ord_2 h, if_pos hp]
    omega
theorem back_of_one {a b c d u v : Rat} (h : isOne a b c d u v) (y w : Rat) : isBack a b c d u v y w := by
  obtain ⟨h1, h2, h3, h4⟩ := h
  unfold isBack
  rw [h1, h2, h3, h4]
  constructor <;> grind
theorem sgn_sq (k : Nat) : sgn k * sgn k = 1 := by unfold sgn; split <;> grind
/-- The law of a ray's return. -/
theorem back_iff {a b c d y w : Rat} (hdet : a * d - b * c = 1) {k : Nat} (hk : 1 ≤ k) : isBack a b c d (powU k (a + d)) (powV k (a + d)) y w ↔ (0 < agM a b c d y w ∧ (k : Int) % agM a b c d y w = 0) := by
  have hkr := natCast_pos hk
  unfold agM
  by_cases h0 : y = 0 ∧ w = 0
  · rw [if_pos h0]
    obtain ⟨rfl, rfl⟩ := h0
    refine ⟨fun _ => ⟨by omega, by omega⟩, fun _ => ?_⟩
    unfold isBack
    constructor <;> grind
  · rw [if_neg h0]
    by_cases ho : 0 < ordM a b c d
    · rw [if_pos ho, ← one_iff hdet hk]
      refine ⟨fun h => ?_, fun h => back_of_one h y w⟩
      have ht := tau_of_back hdet h0 h
      obtain ⟨T, e, l1, l2⟩ := tau_two hk ht
      have hT : T = -2 ∨ T = -1 ∨ T = 0 ∨ T = 1 ∨ T = 2 := by omega
      have key : ∀ (t : Rat) (n : Nat), a + d = t → (k % n = 0 → powU k t = 0 ∧ powV k t = -1) → (¬ k % n = 0 → t * powU k t - 2 * powV k t ≠ 2) → isOne a b c d (powU k (a + d)) (powV k (a + d)) := by
        intro t n e2 g1 g2
        rw [e2] at ht ⊢
        by_cases hm : k % n = 0
        · obtain ⟨e3, e4⟩ := g1 hm
          unfold isOne
          rw [e3, e4]
          refine ⟨?_, ?_, ?_, ?_⟩ <;> grind
        · exact absurd ht (g2 hm)
      rcases hT with rfl | rfl | rfl | rfl | rfl
      · have e2 : a + d = -2 := e
        have hp : plainM a b c d = true := by
          cases hp : plainM a b c d with
          | true => rfl
          | false => rw [ord_m2 e, hp] at ho; exact absurd ho (by decide)
        obtain ⟨rfl, rfl, rfl⟩ := plain_iff.1 hp
        have ha : a = -1 := by grind
        subst ha
        obtain ⟨eu, ev⟩ := pw_m2 k
        obtain ⟨g1, g2⟩ := h
        rw [e2, eu, ev] at g1 g2 ⊢
        have hs := sgn_sq k
        have hs1 : sgn k = 1 := by
          have q1 : sgn k * y = y := by grind
          have q2 : sgn k * w = w := by grind
          by_cases hy : y = 0
          · have hw : w ≠ 0 := fun e => h0 ⟨hy, e⟩
            grind
          · grind
        rw [hs1]
        unfold isOne
        refine ⟨?_, ?_, ?_, ?_⟩ <;> grind
      · exact key (-1) 3 e (pw_m1 k).1 (pw_m1 k).2
      · exact key 0 4 e (pw_0 k).1 (pw_0 k).2
      · exact key 1 6 e (pw_1 k).1 (pw_1 k).2
      · have e2 : a + d = 2 := e
        have hp : plainM a b c d = true := by
          cases hp : plainM a b c d with
          | true => rfl
          | false => rw [ord_2 e, hp] at ho; exact absurd ho (by decide)
        obtain ⟨rfl, rfl, rfl⟩ := plain_iff.1 hp
        obtain ⟨eu, ev⟩ := pw_2 k
        rw [e2, eu, ev]
        unfold isOne
        refine ⟨?_, ?_, ?_, ?_⟩ <;> grind
    · rw [if_neg ho]
      by_cases h1 : a * y + b * w = y ∧ c * y + d * w = w
      · rw [if_pos h1]
        refine ⟨fun _ => ⟨by omega, by omega⟩, fun _ => ?_⟩
        obtain ⟨g1, g2⟩ := h1
        have hd := det_zero (A := a - 1) (B := b) (C := c) (D := d - 1) (by grind) (by grind) h0
        have t2 : a + d = 2 := by grind
        obtain ⟨eu, ev⟩ := pw_2 k
        rw [t2, eu, ev]
        unfold isBack
        constructor <;> grind
      · rw [if_neg h1]
        by_cases h2 : a * y + b * w = -y ∧ c * y + d * w = -w
        · rw [if_pos h2]
          obtain ⟨g1, g2⟩ := h2
          have hd := det_zero (A := a + 1) (B := b) (C := c) (D := d + 1) (by grind) (by grind) h0
          have t2 : a + d = -2 := by grind
          obtain ⟨eu, ev⟩ := pw_m2 k
          rw [t2, eu, ev]
          unfold isBack sgn
          by_cases he : k % 2 = 0
          · rw [if_pos he]
            exact ⟨fun _ => ⟨by omega, by omega⟩, fun _ => by constructor <;> grind⟩
          · rw [if_neg he]
            refine ⟨fun h => ?_, fun h => absurd h.2 (by omega)⟩
            obtain ⟨q1, q2⟩ := h
            exact absurd ⟨by grind, by grind⟩ h0
        · rw [if_neg h2]
          refine ⟨fun h => ?_, fun h => absurd h.1 (by omega)⟩
          have ht := tau_of_back hdet h0 h
          obtain ⟨T, e, l1, l2⟩ := tau_two hk ht
          obtain ⟨hT, _⟩ := ord_cases T e l1 l2 ho
          obtain ⟨q1, q2⟩ := h
          rcases hT with rfl | rfl
          · have e2 : a + d = 2 := e
            obtain ⟨eu, ev⟩ := pw_2 k
            rw [e2, eu, ev] at q1 q2
            exact absurd ⟨by grind, by grind⟩ h1
          · have e2 : a + d = -2 := e
            obtain ⟨eu, ev⟩ := pw_m2 k
            rw [e2, eu, ev] at q1 q2
            unfold sgn at q1 q2
            by_cases he : k % 2 = 0
            · rw [if_pos he] at q1 q2
              exact absurd ⟨by grind, by grind⟩ h2
            · rw [if_neg he] at q1 q2
              have hd := det_zero (A := (k : Rat) * a + ((k : Rat) - 1) - 1) (B := (k : Rat) * b) (C := (k : Rat) * c) (D := (k : Rat) * d + ((k : Rat) - 1) - 1) (by grind) (by grind) h0
              grind
end Go.Proofs.YtpmfohhpaoagfaaGreat
namespace Go.Proofs.YtpmfohhpaoagfaaGreat
open Go Go.RowKit Go.Proofs
theorem powUV_succ (t : Rat) (k : Nat) : powU (k + 1) t = t * powU k t - powV k t ∧ powV (k + 1) t = powU k t := by
  unfold powU powV
  constructor <;> first | rfl | simp [itR] | grind [itR]
/-- The power's determinant. -/
theorem pw_det {a b c d : Rat} (hdet : a * d - b * c = 1) (k : Nat) : pwA k a d * pwA k d a - pwX k a d b * pwX k a d c = 1 := by
  have h := powUV_inv (a + d) k
  have e : pwA k d a = powU k (a + d) * d - powV k (a + d) := by unfold pwA; rw [show d + a = a + d by grind]
  rw [e]
  unfold pwA pwX
  generalize powU k (a + d) = u at *
  generalize powV k (a + d) = v at *
  grind
/-- The matrix by its power. -/
theorem pw_left {a b c d : Rat} (hdet : a * d - b * c = 1) (k : Nat) :
    a * pwA k a d + b * pwX k a d c = pwA (k + 1) a d ∧ a * pwX k a d b + b * pwA k d a = pwX (k + 1) a d b ∧
    c * pwA k a d + d * pwX k a d c = pwX (k + 1) a d c ∧ c * pwX k a d b + d * pwA k d a = pwA (k + 1) d a := by
  obtain ⟨h1, h2⟩ := powUV_succ (a + d) k
  have e : ∀ k, pwA k d a = powU k (a + d) * d - powV k (a + d) := fun k => by unfold pwA; rw [show d + a = a + d by grind]
  rw [e, e]
  unfold pwA pwX
  rw [h1, h2]
  generalize powU k (a + d) = u at *
  generalize powV k (a + d) = v at *
  refine ⟨?_, ?_, ?_, ?_⟩ <;> grind
/-- The power by its matrix. -/
theorem pw_right {a b c d : Rat} (hdet : a * d - b * c = 1) (k : Nat) :
    pwA k a d * a + pwX k a d b * c = pwA (k + 1) a d ∧ pwA k a d * b + pwX k a d b * d = pwX (k + 1) a d b ∧
    pwX k a d c * a + pwA k d a * c = pwX (k + 1) a d c ∧ pwX k a d c * b + pwA k d a * d = pwA (k + 1) d a := by
  obtain ⟨h1, h2⟩ := powUV_succ (a + d) k
  have e : ∀ k, pwA k d a = powU k (a + d) * d - powV k (a + d) := fun k => by unfold pwA; rw [show d + a = a + d by grind]
  rw [e, e]
  unfold pwA pwX
  rw [h1, h2]
  generalize powU k (a + d) = u at *
  generalize powV k (a + d) = v at *
  refine ⟨?_, ?_, ?_, ?_⟩ <;> grind
/-- A power that is not refused: its four are fine. -/
theorem powE_fine {k : Nat} {a b c d : Rat} (h : powE k a b c d = 0) : fine4 (pwA k a d) (pwX k a d b) (pwX k a d c) (pwA k d a) = true := by
  unfold powE fineE at h
  cases hf : fine4 (pwA k a d) (pwX k a d b) (pwX k a d c) (pwA k d a) with
  | true => rfl
  | false => rw [hf] at h; exact absurd h (by decide)
theorem powE_two (k : Nat) (a b c d : Rat) : powE k a b c d = 0 ∨ powE k a b c d = 4 := by
  unfold powE fineE
  split
  · exact .inl rfl
  · exact .inr rfl
end Go.Proofs.YtpmfohhpaoagfaaGreat
namespace Go.Proofs.YtpmfohhpaoagfaaGreat
open Go Go.RowKit Go.Proofs
/-- The k-th power is one. -/
def oneK (a b c d : Rat) (k : Nat) : Prop := pwA k a d = 1 ∧ pwX k a d b = 0 ∧ pwX k a d c = 0 ∧ pwA k d a = 1
theorem oneK_iff {a b c d : Rat} (hdet : a * d - b * c = 1) {k : Nat} (hk : 1 ≤ k) : oneK a b c d k ↔ (0 < ordM a b c d ∧ (k : Int) % ordM a b c d = 0) := by
  rw [← one_iff hdet hk]
  unfold oneK isOne pwA pwX
  rw [show d + a = a + d by grind]
theorem ordM_range (a b c d : Rat) : 0 ≤ ordM a b c d ∧ ordM a b c d ≤ 6 := by
  unfold ordM
  split
  · split <;> omega
  · split
    · split <;> omega
    · split
      · omega
      · split
        · omega
        · split <;> omega
theorem first_ord {a b c d : Rat} (hdet : a * d - b * c = 1) {k : Nat} (hk : 1 ≤ k) (h : oneK a b c d k) (hm : ∀ j, 1 ≤ j → j < k → ¬ oneK a b c d j) : ordM a b c d = (k : Int) := by
  obtain ⟨h1, h2⟩ := (oneK_iff hdet hk).1 h
  have hle : ordM a b c d ≤ k := Int.le_of_dvd (by omega) (Int.dvd_of_emod_eq_zero h2)
  rcases Int.lt_or_eq_of_le hle with h3 | h3
  · exfalso
    have := hm (ordM a b c d).toNat (by omega) (by omega)
    exact this ((oneK_iff hdet (by omega)).2 ⟨h1, by rw [Int.toNat_of_nonneg (by omega)]; simp⟩)
  · exact h3
theorem no_ord {a b c d : Rat} (hdet : a * d - b * c = 1) (hm : ∀ j, 1 ≤ j → j < 7 → ¬ oneK a b c d j) : ordM a b c d = 0 := by
  have hr := ordM_range a b c d
  rcases Int.lt_or_le 0 (ordM a b c d) with h | h
  · exfalso
    have := hm (ordM a b c d).toNat (by omega) (by omega)
    exact this ((oneK_iff hdet (by omega)).2 ⟨h, by rw [Int.toNat_of_nonneg (by omega)]; simp⟩)
  · omega
/-- The four of a power are no longer than this. -/
def NBk (a b c d : Rat) (k : Nat) : Prop := nf (pwA k a d) + 4097 ≤ 6145 * 2 ^ k ∧ nf (pwX k a d b) + 4097 ≤ 6145 * 2 ^ k ∧ nf (pwX k a d c) + 4097 ≤ 6145 * 2 ^ k ∧ nf (pwA k d a) + 4097 ≤ 6145 * 2 ^ k
theorem nf_pair {x y z t : Rat} {N : Nat} (h1 : nf x ≤ 2048) (h2 : nf z ≤ 2048) (h3 : nf y + 4097 ≤ N) (h4 : nf t + 4097 ≤ N) : nf (x * y + z * t) + 4097 ≤ N * 2 := by
  have := nf_add_le (x * y) (z * t)
  have := nf_mul_le x y
  have := nf_mul_le z t
  omega
theorem pow_seven {k : Nat} (h : k ≤ 7) : 2 ^ k ≤ 128 := by
  have := Nat.pow_le_pow_right (show 0 < 2 by omega) h
  simpa using this
theorem NBk.le {a b c d : Rat} {k : Nat} (h : NBk a b c d k) (hk : k ≤ 7) : nf (pwA k a d) ≤ 1048576 ∧ nf (pwX k a d b) ≤ 1048576 ∧ nf (pwX k a d c) ≤ 1048576 ∧ nf (pwA k d a) ≤ 1048576 := by
  obtain ⟨h1, h2, h3, h4⟩ := h
  have := pow_seven hk
  omega
theorem NBk.next {a b c d : Rat} (hdet : a * d - b * c = 1) {k : Nat} (h : NBk a b c d k) (ha : nf a ≤ 2048) (hb : nf b ≤ 2048) (hc : nf c ≤ 2048) (hd : nf d ≤ 2048) : NBk a b c d (k + 1) := by
  obtain ⟨h1, h2, h3, h4⟩ := h
  obtain ⟨e1, e2, e3, e4⟩ := pw_left hdet k
  unfold NBk
  rw [← e1, ← e2, ← e3, ← e4, Nat.pow_succ, ← Nat.mul_assoc]
  exact ⟨nf_pair ha hb h1 h3, nf_pair ha hb h2 h4, nf_pair hc hd h1 h3, nf_pair hc hd h2 h4⟩
theorem pw_one (a b c d : Rat) : pwA 1 a d = a ∧ pwX 1 a d b = b ∧ pwX 1 a d c = c ∧ pwA 1 d a = d := by
  have e : ∀ t, powU 1 t = 1 ∧ powV 1 t = 0 := by
    intro t
    obtain ⟨h1, h2⟩ := powUV_succ t 0
    rw [h1, h2]
    have e1 : powU 0 t = 0 := rfl
    have e2 : powV 0 t = -1 := rfl
    rw [e1, e2]
    constructor <;> grind
  unfold pwA pwX
  rw [(e _).1, (e _).2, (e _).1, (e _).2]
  refine ⟨?_, ?_, ?_, ?_⟩ <;> grind
theorem NBk.start {a b c d : Rat} (ha : nf a ≤ 2048) (hb : nf b ≤ 2048) (hc : nf c ≤ 2048) (hd : nf d ≤ 2048) : NBk a b c d 1 := by
  obtain ⟨e1, e2, e3, e4⟩ := pw_one a b c d
  unfold NBk
  rw [e1, e2, e3, e4]
  omega
/-- What the loop of order keeps: the power in its variable, and that none so far was one. -/
def OrdI (w1 : World) (gm g3 g4 : Nat) (cm co : Array Value) (a b c d : Rat) (k : Nat) (wr : World) : Prop :=
  1 ≤ k ∧ k ≤ 7 ∧ (∃ cs, wr.heap[g4]? = some (.cells cs 28 (0, 0)) ∧ MatR wr (.agg cs) (pwA k a d) (pwX k a d b) (pwX k a d c) (pwA k d a)) ∧
    wr.heap[gm]? = some (.cells cm 28 (0, 0)) ∧ wr.heap[g3]? = some (.cells co 28 (0, 0)) ∧ NBk a b c d k ∧ (∀ j, 1 ≤ j → j < k → ¬ oneK a b c d j) ∧ Ext w1 wr

set_option maxRecDepth 100000 in
set_option maxHeartbeats 12800000 in
theorem rorder_f (v : Value) (a b c d : Rat) (w : World) (ha : nf a ≤ 2048) (hb : nf b ≤ 2048) (hc : nf c ≤ 2048) (hd : nf d ≤ 2048) (hdet : a * d - b * c = 1) (h : MatR w v a b c d) :
    Calls Tryz.prog 21 #[v] w fun e w' => e = .returned (.int .i64 (ordM a b c d)) ∧ Ext w w' := by
  have H := mkHid h
  obtain ⟨A1, A2, A3, A4, A5, A6, A7, A8, B1, B2, B3, B4, B5, B6, B7, B8, C1, C2, C3, C4, C5, C6, C7, C8, D1, D2, D3, D4, D5, D6, D7, D8, rfl, -⟩ := h
  have k1 := mkHid (fun w => rmone_f w)
  have LK := mkHid (fun v v' W p q r s b1 b2 b3 b4 h h' => rlike_f v v' p q r s 1 0 0 1 W b1 b2 b3 b4 (Nat.le_trans nf_one (by decide)) (Nat.le_trans nf_nought (by decide)) (Nat.le_trans nf_nought (by decide)) (Nat.le_trans nf_one (by decide)) h h')
  have TM := mkHid (fun v' W p q r s b1 b2 b3 b4 (e : Ext w W) h' => rmtimes_f (.agg #[.bool A1, .slice A2 A3 A4, .bool A5, .slice A6 A7 A8, .bool B1, .slice B2 B3 B4, .bool B5, .slice B6 B7 B8, .bool C1, .slice C2 C3 C4, .bool C5, .slice C6 C7 C8, .bool D1, .slice D2 D3 D4, .bool D5, .slice D6 D7 D8]) v' a b c d p q r s W (Nat.le_trans ha (by decide)) (Nat.le_trans hb (by decide)) (Nat.le_trans hc (by decide)) (Nat.le_trans hd (by decide)) b1 b2 b3 b4 (H.out.ext e) h')
  obtain ⟨O, hO⟩ : ∃ O, O = ordM a b c d := ⟨_, rfl⟩
  rw [← hO]
  replace hO := mkHid hO
  replace ha := mkHid ha
  replace hb := mkHid hb
  replace hc := mkHid hc
  replace hd := mkHid hd
  replace hdet := mkHid hdet
  go_enter Tryz.func21, Tryz.ntmps21
  go_wp2_with fail
  refine (k1.out _).mono ?_
  rintro e w1 ⟨vo, rfl, ho, hE1⟩
  have HO := mkHid ho
  obtain ⟨P1, P2, P3, P4, P5, P6, P7, P8, Q1, Q2, Q3, Q4, Q5, Q6, Q7, Q8, S1, S2, S3, S4, S5, S6, S7, S8, T1, T2, T3, T4, T5, T6, T7, T8, rfl⟩ := ho.shape
  have hm1 := hE1.blk (heap_alloc_new w _)
  have hE := ((Ext.refl w).al _).trans hE1
  have hml : w.heap.size < w1.heap.size := (Array.getElem?_eq_some_iff.1 hm1).1
  have hm2 : ((w1.alloc (.cells #[.bool false, .slice none 0 0, .bool false, .slice none 0 0, .bool false, .slice none 0 0, .bool false, .slice none 0 0, .bool false, .slice none 0 0, .bool false, .slice none 0 0, .bool false, .slice none 0 0, .bool false, .slice none 0 0] 28)).setRow w1.heap.size #[.bool P1, .slice P2 P3 P4, .bool P5, .slice P6 P7 P8, .bool Q1, .slice Q2 Q3 Q4, .bool Q5, .slice Q6 Q7 Q8, .bool S1, .slice S2 S3 S4, .bool S5, .slice S6 S7 S8, .bool T1, .slice T2 T3 T4, .bool T5, .slice T6 T7 T8]).heap[w.heap.size]? = some (.cells #[.bool A1, .slice A2 A3 A4, .bool A5, .slice A6 A7 A8, .bool B1, .slice B2 B3 B4, .bool B5, .slice B6 B7 B8, .bool C1, .slice C2 C3 C4, .bool C5, .slice C6 C7 C8, .bool D1, .slice D2 D3 D4, .bool D5, .slice D6 D7 D8] 28 (0, 0)) := by
    rw [setRow_other _ _ _ _ (by omega)]
    exact (heap_alloc_old _ _ hml).trans hm1
  obtain ⟨w2, hw2⟩ : ∃ w2, w2 = (((w1.alloc (.cells #[.bool false, .slice none 0 0, .bool false, .slice none 0 0, .bool false, .slice none 0 0, .bool false, .slice none 0 0, .bool false, .slice none 0 0, .bool false, .slice none 0 0, .bool false, .slice none 0 0, .bool false, .slice none 0 0] 28)).setRow w1.heap.size #[.bool P1, .slice P2 P3 P4, .bool P5, .slice P6 P7 P8, .bool Q1, .slice Q2 Q3 Q4, .bool Q5, .slice Q6 Q7 Q8, .bool S1, .slice S2 S3 S4, .bool S5, .slice S6 S7 S8, .bool T1, .slice T2 T3 T4, .bool T5, .slice T6 T7 T8]).alloc (.cells #[.bool false, .slice none 0 0, .bool false, .slice none 0 0, .bool false, .slice none 0 0, .bool false, .slice none 0 0, .bool false, .slice none 0 0, .bool false, .slice none 0 0, .bool false, .slice none 0 0, .bool false, .slice none 0 0] 28)).setRow (w1.heap.size + 1) #[.bool A1, .slice A2 A3 A4, .bool A5, .slice A6 A7 A8, .bool B1, .slice B2 B3 B4, .bool B5, .slice B6 B7 B8, .bool C1, .slice C2 C3 C4, .bool C5, .slice C6 C7 C8, .bool D1, .slice D2 D3 D4, .bool D5, .slice D6 D7 D8] := ⟨_, rfl⟩
  have hst : OrdI w1 w.heap.size w1.heap.size (w1.heap.size + 1) #[.bool A1, .slice A2 A3 A4, .bool A5, .slice A6 A7 A8, .bool B1, .slice B2 B3 B4, .bool B5, .slice B6 B7 B8, .bool C1, .slice C2 C3 C4, .bool C5, .slice C6 C7 C8, .bool D1, .slice D2 D3 D4, .bool D5, .slice D6 D7 D8] #[.bool P1, .slice P2 P3 P4, .bool P5, .slice P6 P7 P8, .bool Q1, .slice Q2 Q3 Q4, .bool Q5, .slice Q6 Q7 Q8, .bool S1, .slice S2 S3 S4, .bool S5, .slice S6 S7 S8, .bool T1, .slice T2 T3 T4, .bool T5, .slice T6 T7 T8] a b c d 1 w2 := by
    have hE2 : Ext w1 ((w1.alloc (.cells #[.bool false, .slice none 0 0, .bool false, .slice none 0 0, .bool false, .slice none 0 0, .bool false, .slice none 0 0, .bool false, .slice none 0 0, .bool false, .slice none 0 0, .bool false, .slice none 0 0, .bool false, .slice none 0 0] 28)).setRow w1.heap.size #[.bool P1, .slice P2 P3 P4, .bool P5, .slice P6 P7 P8, .bool Q1, .slice Q2 Q3 Q4, .bool Q5, .slice Q6 Q7 Q8, .bool S1, .slice S2 S3 S4, .bool S5, .slice S6 S7 S8, .bool T1, .slice T2 T3 T4, .bool T5, .slice T6 T7 T8]) := ((Ext.refl w1).al _).row (Nat.le_refl _) _
    have hE3 := (hE2.al (.cells #[.bool false, .slice none 0 0, .bool false, .slice none 0 0, .bool false, .slice none 0 0, .bool false, .slice none 0 0, .bool false, .slice none 0 0, .bool false, .slice none 0 0, .bool false, .slice none 0 0, .bool false, .slice none 0 0] 28 (0, 0))).row (show w1.heap.size ≤ w1.heap.size + 1 by omega) #[.bool A1, .slice A2 A3 A4, .bool A5, .slice A6 A7 A8, .bool B1, .slice B2 B3 B4, .bool B5, .slice B6 B7 B8, .bool C1, .slice C2 C3 C4, .bool C5, .slice C6 C7 C8, .bool D1, .slice D2 D3 D4, .bool D5, .slice D6 D7 D8]
    rw [← hw2] at hE3
    obtain ⟨e1, e2, e3, e4⟩ := pw_one a b c d
    refine ⟨by omega, by omega, ⟨#[.bool A1, .slice A2 A3 A4, .bool A5, .slice A6 A7 A8, .bool B1, .slice B2 B3 B4, .bool B5, .slice B6 B7 B8, .bool C1, .slice C2 C3 C4, .bool C5, .slice C6 C7 C8, .bool D1, .slice D2 D3 D4, .bool D5, .slice D6 D7 D8], ?_, ?_⟩, hE3.blk hm1, ?_, NBk.start ha.out hb.out hc.out hd.out, fun j h1 h2 => by omega, hE3⟩
    · rw [hw2]
      exact setRow_heap _ _ _ _ _ _ (heap_at _ _ _ (by simp))
    · rw [e1, e2, e3, e4]
      exact H.out.ext (hE.trans hE3)
    · rw [hw2, setRow_other _ _ _ _ (by omega)]
      exact (heap_alloc_old _ _ (by simp)).trans (setRow_heap _ _ _ _ _ _ (heap_alloc_new _ _))
  replace hst := mkHid hst
  replace hE := mkHid hE
  replace hm2 := mkHid hm2
  replace hw2 := mkHid hw2
  clear hE1 hm1 ho k1
  go_wp2_with (first
    | (refine wpList_store_row rfl 28 (.tmp 3) (.tmp 6) rfl (w1.heap.size) #[.bool P1, .slice P2 P3 P4, .bool P5, .slice P6 P7 P8, .bool Q1, .slice Q2 Q3 Q4, .bool Q5, .slice Q6 Q7 Q8, .bool S1, .slice S2 S3 S4, .bool S5, .slice S6 S7 S8, .bool T1, .slice T2 T3 T4, .bool T5, .slice T6 T7 T8] rfl rfl 28 _ (heap_alloc_new _ _) (by kernel_rfl) rfl (by kernel_rfl) ?_)
    | (refine wpList_load_row rfl 28 (.tmp 1) rfl (w.heap.size) rfl 28 #[.bool A1, .slice A2 A3 A4, .bool A5, .slice A6 A7 A8, .bool B1, .slice B2 B3 B4, .bool B5, .slice B6 B7 B8, .bool C1, .slice C2 C3 C4, .bool C5, .slice C6 C7 C8, .bool D1, .slice D2 D3 D4, .bool D5, .slice D6 D7 D8] (0, 0) _ hm2.out Tryz.underlying28 rfl (by kernel_rfl) ?_)
    | (refine wpList_store_row rfl 28 (.tmp 4) (.tmp 7) rfl (w1.heap.size + 1) #[.bool A1, .slice A2 A3 A4, .bool A5, .slice A6 A7 A8, .bool B1, .slice B2 B3 B4, .bool B5, .slice B6 B7 B8, .bool C1, .slice C2 C3 C4, .bool C5, .slice C6 C7 C8, .bool D1, .slice D2 D3 D4, .bool D5, .slice D6 D7 D8] rfl rfl 28 _ (heap_at _ _ _ (by simp)) (by kernel_rfl) rfl (by kernel_rfl) ?_))
  rw [← hw2.out]
  clear hw2 hm2
  go_loopw [5] (fun i wr => ∃ k : Nat, i = .int .i64 (k : Nat) ∧ OrdI w1 w.heap.size w1.heap.size (w1.heap.size + 1) #[.bool A1, .slice A2 A3 A4, .bool A5, .slice A6 A7 A8, .bool B1, .slice B2 B3 B4, .bool B5, .slice B6 B7 B8, .bool C1, .slice C2 C3 C4, .bool C5, .slice C6 C7 C8, .bool D1, .slice D2 D3 D4, .bool D5, .slice D6 D7 D8] #[.bool P1, .slice P2 P3 P4, .bool P5, .slice P6 P7 P8, .bool Q1, .slice Q2 Q3 Q4, .bool Q5, .slice Q6 Q7 Q8, .bool S1, .slice S2 S3 S4, .bool S5, .slice S6 S7 S8, .bool T1, .slice T2 T3 T4, .bool T5, .slice T6 T7 T8] a b c d k wr) (fun i _ => 7 - (intOf i).toNat)
  case atStart => exact ⟨1, rfl, hst.out⟩
  case round =>
    clear hst
    obtain ⟨k, rfl, q1, q2, ⟨cs, hp, mp⟩, hm, ho3, hn, hno, he⟩ := hrel
    by_cases hk : k ≤ 6
    · obtain ⟨n1, n2, n3, n4⟩ := hn.le q2
      have mp0 := mp
      obtain ⟨E1, E2, E3, E4, E5, E6, E7, E8, F1, F2, F3, F4, F5, F6, F7, F8, G1, G2, G3, G4, G5, G6, G7, G8, H1, H2, H3, H4, H5, H6, H7, H8, hcs⟩ := mp.shape
      obtain rfl : cs = #[.bool E1, .slice E2 E3 E4, .bool E5, .slice E6 E7 E8, .bool F1, .slice F2 F3 F4, .bool F5, .slice F6 F7 F8, .bool G1, .slice G2 G3 G4, .bool G5, .slice G6 G7 G8, .bool H1, .slice H2 H3 H4, .bool H5, .slice H6 H7 H8] := by simpa using hcs
      clear hcs mp
      have LKk := LK _ _ wr (pwA k a d) (pwX k a d b) (pwX k a d c) (pwA k d a) (Nat.le_trans n1 (by decide)) (Nat.le_trans n2 (by decide)) (Nat.le_trans n3 (by decide)) (Nat.le_trans n4 (by decide)) mp0 (HO.out.ext he)
      by_cases h1 : oneK a b c d k
      · rw [show decide (pwA k a d = 1 ∧ pwX k a d b = 0 ∧ pwX k a d c = 0 ∧ pwA k d a = 1) = true from decide_eq_true h1] at LKk
        have hOk : O = (k : Int) := hO.out.trans (first_ord hdet.out q1 h1 hno)
        subst hOk
        replace LKk := mkHid LKk
        replace hE := mkHid (hE.out.trans he)
        replace h1 := mkHid h1
        clear mp0 hn hno LK TM he n1 n2 n3 n4
        go_wp2_with (first
          | (refine wpList_load_row rfl 28 (.tmp 4) rfl (w1.heap.size + 1) rfl 28 #[.bool E1, .slice E2 E3 E4, .bool E5, .slice E6 E7 E8, .bool F1, .slice F2 F3 F4, .bool F5, .slice F6 F7 F8, .bool G1, .slice G2 G3 G4, .bool G5, .slice G6 G7 G8, .bool H1, .slice H2 H3 H4, .bool H5, .slice H6 H7 H8] (0, 0) _ hp Tryz.underlying28 rfl (by kernel_rfl) ?_)
          | (refine wpList_load_row rfl 28 (.tmp 3) rfl (w1.heap.size) rfl 28 #[.bool P1, .slice P2 P3 P4, .bool P5, .slice P6 P7 P8, .bool Q1, .slice Q2 Q3 Q4, .bool Q5, .slice Q6 Q7 Q8, .bool S1, .slice S2 S3 S4, .bool S5, .slice S6 S7 S8, .bool T1, .slice T2 T3 T4, .bool T5, .slice T6 T7 T8] (0, 0) _ ho3 Tryz.underlying28 rfl (by kernel_rfl) ?_))
        refine LKk.out.mono ?_
        rintro e w3 ⟨rfl, hE3⟩
        replace hE := mkHid (hE.out.trans hE3)
        clear hE3 LKk
        go_wp2_with fail
        go_ret
        exact ⟨rfl, hE.out⟩
      · rw [show decide (pwA k a d = 1 ∧ pwX k a d b = 0 ∧ pwX k a d c = 0 ∧ pwA k d a = 1) = false from decide_eq_false h1] at LKk
        have hn2 := hn.next hdet.out ha.out hb.out hc.out hd.out
        have hno2 : ∀ j, 1 ≤ j → j < k + 1 → ¬ oneK a b c d j := by
          intro j j1 j2
          rcases Nat.lt_or_ge j k with h | h
          · exact hno j j1 h
          · obtain rfl : j = k := by omega
            exact h1
        have TMk := mkHid (fun W (e : Ext wr W) => TM _ W (pwA k a d) (pwX k a d b) (pwX k a d c) (pwA k d a) (Nat.le_trans n1 (by decide)) (Nat.le_trans n2 (by decide)) (Nat.le_trans n3 (by decide)) (Nat.le_trans n4 (by decide)) (hE.out.trans (he.trans e)) (mp0.ext e))
        obtain ⟨e1, e2, e3, e4⟩ := pw_left hdet.out k
        rw [e1, e2, e3, e4] at TMk
        replace LKk := mkHid LKk
        replace hn2 := mkHid hn2
        replace hno2 := mkHid hno2
        replace he := mkHid he
        replace h1 := mkHid h1
        replace hm := mkHid hm
        replace hp := mkHid hp
        replace ho3 := mkHid ho3
        clear mp0 hn hno e1 e2 e3 e4 n1 n2 n3 n4
        go_wp2_with (first
          | (refine wpList_load_row rfl 28 (.tmp 4) rfl (w1.heap.size + 1) rfl 28 #[.bool E1, .slice E2 E3 E4, .bool E5, .slice E6 E7 E8, .bool F1, .slice F2 F3 F4, .bool F5, .slice F6 F7 F8, .bool G1, .slice G2 G3 G4, .bool G5, .slice G6 G7 G8, .bool H1, .slice H2 H3 H4, .bool H5, .slice H6 H7 H8] (0, 0) _ hp.out Tryz.underlying28 rfl (by kernel_rfl) ?_)
          | (refine wpList_load_row rfl 28 (.tmp 3) rfl (w1.heap.size) rfl 28 #[.bool P1, .slice P2 P3 P4, .bool P5, .slice P6 P7 P8, .bool Q1, .slice Q2 Q3 Q4, .bool Q5, .slice Q6 Q7 Q8, .bool S1, .slice S2 S3 S4, .bool S5, .slice S6 S7 S8, .bool T1, .slice T2 T3 T4, .bool T5, .slice T6 T7 T8] (0, 0) _ ho3.out Tryz.underlying28 rfl (by kernel_rfl) ?_))
        refine LKk.out.mono ?_
        rintro e w3 ⟨rfl, hE3⟩
        replace hm := mkHid (hE3.blk hm.out)
        replace hp := mkHid (hE3.blk hp.out)
        replace ho3 := mkHid (hE3.blk ho3.out)
        have hE3' := mkHid hE3
        replace he := mkHid (he.out.trans hE3)
        clear hE3 LKk
        go_wp2_with (first
          | (refine wpList_load_row rfl 28 (.tmp 1) rfl (w.heap.size) rfl 28 #[.bool A1, .slice A2 A3 A4, .bool A5, .slice A6 A7 A8, .bool B1, .slice B2 B3 B4, .bool B5, .slice B6 B7 B8, .bool C1, .slice C2 C3 C4, .bool C5, .slice C6 C7 C8, .bool D1, .slice D2 D3 D4, .bool D5, .slice D6 D7 D8] (0, 0) _ hm.out Tryz.underlying28 rfl (by kernel_rfl) ?_)
          | (refine wpList_load_row rfl 28 (.tmp 4) rfl (w1.heap.size + 1) rfl 28 #[.bool E1, .slice E2 E3 E4, .bool E5, .slice E6 E7 E8, .bool F1, .slice F2 F3 F4, .bool F5, .slice F6 F7 F8, .bool G1, .slice G2 G3 G4, .bool G5, .slice G6 G7 G8, .bool H1, .slice H2 H3 H4, .bool H5, .slice H6 H7 H8] (0, 0) _ hp.out Tryz.underlying28 rfl (by kernel_rfl) ?_))
        refine (TMk.out w3 hE3'.out).mono ?_
        rintro e w4 ⟨v4, rfl, h4, hE4⟩
        obtain ⟨U1, U2, U3, U4, U5, U6, U7, U8, V1, V2, V3, V4, V5, V6, V7, V8, X1, X2, X3, X4, X5, X6, X7, X8, Y1, Y2, Y3, Y4, Y5, Y6, Y7, Y8, rfl⟩ := h4.shape
        have hp4 := hE4.blk hp.out
        have hm4 := hE4.blk hm.out
        have ho4 := hE4.blk ho3.out
        have st2 : OrdI w1 w.heap.size w1.heap.size (w1.heap.size + 1) #[.bool A1, .slice A2 A3 A4, .bool A5, .slice A6 A7 A8, .bool B1, .slice B2 B3 B4, .bool B5, .slice B6 B7 B8, .bool C1, .slice C2 C3 C4, .bool C5, .slice C6 C7 C8, .bool D1, .slice D2 D3 D4, .bool D5, .slice D6 D7 D8] #[.bool P1, .slice P2 P3 P4, .bool P5, .slice P6 P7 P8, .bool Q1, .slice Q2 Q3 Q4, .bool Q5, .slice Q6 Q7 Q8, .bool S1, .slice S2 S3 S4, .bool S5, .slice S6 S7 S8, .bool T1, .slice T2 T3 T4, .bool T5, .slice T6 T7 T8] a b c d (k + 1) (w4.setRow (w1.heap.size + 1) #[.bool U1, .slice U2 U3 U4, .bool U5, .slice U6 U7 U8, .bool V1, .slice V2 V3 V4, .bool V5, .slice V6 V7 V8, .bool X1, .slice X2 X3 X4, .bool X5, .slice X6 X7 X8, .bool Y1, .slice Y2 Y3 Y4, .bool Y5, .slice Y6 Y7 Y8]) := by
          refine ⟨by omega, by omega, ⟨_, setRow_heap _ _ _ _ _ _ hp4, h4.flat hp4 (by simp [flatV]) _⟩, ?_, ?_, hn2.out, hno2.out, (he.out.trans hE4).row (by omega) _⟩
          · rw [setRow_other _ _ _ _ (by omega)]
            exact hm4
          · rw [setRow_other _ _ _ _ (by omega)]
            exact ho4
        replace st2 := mkHid st2
        replace hp4 := mkHid hp4
        clear h4 hm4 ho4 hE4 hm hp ho3 he hn2 hno2 TMk hE3'
        go_wp2_with (first
          | (refine wpList_store_row rfl 28 (.tmp 4) (.tmp 18) rfl (w1.heap.size + 1) #[.bool U1, .slice U2 U3 U4, .bool U5, .slice U6 U7 U8, .bool V1, .slice V2 V3 V4, .bool V5, .slice V6 V7 V8, .bool X1, .slice X2 X3 X4, .bool X5, .slice X6 X7 X8, .bool Y1, .slice Y2 Y3 Y4, .bool Y5, .slice Y6 Y7 Y8] rfl rfl 28 _ hp4.out (by kernel_rfl) rfl (by kernel_rfl) ?_))
        go_roundw
        case rel => exact ⟨k + 1, by go_num, st2.out⟩
        case measure => simp [intOf] <;> omega
    · obtain rfl : k = 7 := by omega
      have hO0 : O = 0 := hO.out.trans (no_ord hdet.out hno)
      subst hO0
      replace hE := mkHid (hE.out.trans he)
      replace hno := mkHid hno
      clear hp mp hm ho3 hn he LK TM
      go_wp2_with fail
      go_ret
      exact ⟨rfl, hE.out⟩
end Go.Proofs.YtpmfohhpaoagfaaGreat
namespace Go.Proofs.YtpmfohhpaoagfaaGreat
open Go Go.RowKit Go.Proofs
theorem fr_loadF {P : Program} {S : World → Value → Prop} {o : Oper} {a : Act} {W : World} {X : Prop} {c : Prop} [Decidable c] (hw : c) (ty : TypeId) (x : Operand) (ho : o.op = .load ty x)
    (g : Nat) (hx : a.eval x = .pointer (some ⟨g, 0, none⟩)) (t : TypeId) (cs : Array Value) (fr : Nat × Nat) (d : TypeDesc) (hg : W.heap[g]? = some (.cells cs t fr))
    (hu : P.underlying ty = some d) (hd : (match d with | .struct _ | .array _ _ => true | _ => false) = true) (hi : (P.info? ty).map (·.size) = some cs.size)
    (h : S W (.agg cs)) : if c then Fresh.givesV P S ((execOp a.eval o).run P W) else X := by
  rw [if_pos hw]
  unfold execOp
  simp only [ho, hx, Instr.loadAt, Instr.sureAddr, Sem.run_bind, Sem.run_pure, Result.andThen_ok, run_loadVar_row W g t ty cs fr d hg hu hd hi]
  exact h
end Go.Proofs.YtpmfohhpaoagfaaGreat
namespace Go.Proofs.YtpmfohhpaoagfaaGreat
open Go Go.RowKit Go.Proofs
theorem wpList_load_rowG {P : Program} {ops : Array Oper} {rest : List Oper} {o : Oper} {a : Act} {w : World} {Q : Exit → Act → World → Prop} (hw : Region.wanted o (yielded ops a.tmps) = true) (ty : TypeId) (x : Operand) (ho : o.op = .load ty x)
    (g : Nat) (hx : a.eval x = .pointer (some ⟨g, 0, none⟩)) (t : TypeId) (cs : Array Value) (fr : Nat × Nat) (d : TypeDesc) (hg : w.heap[g]? = some (.cells cs t fr))
    (hu : P.underlying ty = some d) (hd : (match d with | .struct _ | .array _ _ => true | _ => false) = true) (hi : (P.info? ty).map (·.size) = some cs.size)
    (h : wpList P ops Q rest (a.put o.dst (.agg cs)) w) : wpList P ops Q (o :: rest) a w := by
  simp only [wpList]
  rw [if_pos hw]
  exact .inl (wp_load_row ty x ho g hx t cs fr d hg hu hd hi h)
end Go.Proofs.YtpmfohhpaoagfaaGreat
namespace Go.Proofs.YtpmfohhpaoagfaaGreat
open Go Go.RowKit Go.Proofs
theorem okM_det {a b c d : Rat} (h : okM (some a) (some b) (some c) (some d) = true) : a * d - b * c = 1 := of_decide_eq_true h
theorem okM_some {oa ob oc od : Option Rat} (h : okM oa ob oc od = true) : ∃ a b c d, oa = some a ∧ ob = some b ∧ oc = some c ∧ od = some d := by
  cases oa <;> cases ob <;> cases oc <;> cases od <;> first | exact ⟨_, _, _, _, rfl, rfl, rfl, rfl⟩ | (exfalso; revert h; unfold okM; simp)
theorem ordO_no {oa ob oc od : Option Rat} (h : okM oa ob oc od = false) : ordO oa ob oc od = 0 := by
  cases oa <;> cases ob <;> cases oc <;> cases od <;> first | rfl | (have h2 := of_decide_eq_false h; unfold ordO; exact if_neg h2)
set_option maxRecDepth 100000 in
set_option maxHeartbeats 6400000 in
theorem rorderO_c (v : Value) (oa ob oc od : Option Rat) (w : World) (h : AnyM w v oa ob oc od) :
    Calls Tryz.prog 10 #[v] w fun e w' => e = .returned (.tuple #[.int .i64 (ordO oa ob oc od), .int .i64 (ordE oa ob oc od)]) ∧ Ext w w' := by
  have H := mkHid h
  obtain ⟨A1, A2, A3, A4, A5, A6, A7, A8, B1, B2, B3, B4, B5, B6, B7, B8, C1, C2, C3, C4, C5, C6, C7, C8, D1, D2, D3, D4, D5, D6, D7, D8, rfl, -⟩ := h
  have MY := mkHid (fun W (e : Ext w W) => rmay_f _ oa ob oc od W (H.out.ext e))
  obtain ⟨B, hB⟩ : ∃ B, B = okM oa ob oc od := ⟨_, rfl⟩
  rw [← hB] at MY
  cases B with
  | false =>
    rw [ordO_no hB.symm, show ordE oa ob oc od = 1 by unfold ordE; rw [← hB]; rfl]
    clear hB
    go_enter Tryz.func10, Tryz.ntmps10
    go_wp2_with (first
      | (refine wpList_load_row rfl 28 (.tmp 1) rfl (w.heap.size) rfl 28 #[.bool A1, .slice A2 A3 A4, .bool A5, .slice A6 A7 A8, .bool B1, .slice B2 B3 B4, .bool B5, .slice B6 B7 B8, .bool C1, .slice C2 C3 C4, .bool C5, .slice C6 C7 C8, .bool D1, .slice D2 D3 D4, .bool D5, .slice D6 D7 D8] (0, 0) _ (heap_alloc_new w _) Tryz.underlying28 rfl (by kernel_rfl) ?_))
    refine (MY.out _ ((Ext.refl w).al _)).mono ?_
    rintro e w1 ⟨rfl, hE1⟩
    have hE := mkHid (((Ext.refl w).al _).trans hE1)
    clear hE1
    go_wp2_with fail
    go_ret2
    exact ⟨rfl, hE.out⟩
  | true =>
    obtain ⟨a, b, c, d, rfl, rfl, rfl, rfl⟩ := okM_some hB.symm
    have hdet := okM_det hB.symm
    obtain ⟨hM, n1, n2, n3, n4⟩ := H.out.fracs
    have OR := mkHid (fun W (e : Ext w W) => rorder_f _ a b c d W n1 n2 n3 n4 hdet (hM.ext e))
    rw [show ordO (some a) (some b) (some c) (some d) = ordM a b c d from if_pos hdet, show ordE (some a) (some b) (some c) (some d) = 0 by unfold ordE; rw [← hB]; rfl]
    clear hB hdet hM n1 n2 n3 n4
    generalize ordM a b c d = O at *
    go_enter Tryz.func10, Tryz.ntmps10
    go_wp2_with (first
      | (refine wpList_load_row rfl 28 (.tmp 1) rfl (w.heap.size) rfl 28 #[.bool A1, .slice A2 A3 A4, .bool A5, .slice A6 A7 A8, .bool B1, .slice B2 B3 B4, .bool B5, .slice B6 B7 B8, .bool C1, .slice C2 C3 C4, .bool C5, .slice C6 C7 C8, .bool D1, .slice D2 D3 D4, .bool D5, .slice D6 D7 D8] (0, 0) _ (heap_alloc_new w _) Tryz.underlying28 rfl (by kernel_rfl) ?_))
    refine (MY.out _ ((Ext.refl w).al _)).mono ?_
    rintro e w1 ⟨rfl, hE1⟩
    have hm := hE1.blk (heap_alloc_new w _)
    have hE := mkHid (((Ext.refl w).al _).trans hE1)
    replace hm := mkHid hm
    clear hE1
    go_wp2_with (first
      | (refine wpList_load_row rfl 28 (.tmp 1) rfl (w.heap.size) rfl 28 #[.bool A1, .slice A2 A3 A4, .bool A5, .slice A6 A7 A8, .bool B1, .slice B2 B3 B4, .bool B5, .slice B6 B7 B8, .bool C1, .slice C2 C3 C4, .bool C5, .slice C6 C7 C8, .bool D1, .slice D2 D3 D4, .bool D5, .slice D6 D7 D8] (0, 0) _ hm.out Tryz.underlying28 rfl (by kernel_rfl) ?_))
    refine (OR.out w1 hE.out).mono ?_
    rintro e w2 ⟨rfl, hE2⟩
    replace hE := mkHid (hE.out.trans hE2)
    clear hE2
    go_wp2_with fail
    go_ret2
    exact ⟨rfl, hE.out⟩
/-- The k-th power gives the ray back. -/
def backK (a b c d y u : Rat) (k : Nat) : Prop := pwA k a d * y + pwX k a d b * u = y ∧ pwX k a d c * y + pwA k d a * u = u
theorem backK_iff {a b c d y u : Rat} (hdet : a * d - b * c = 1) {k : Nat} (hk : 1 ≤ k) : backK a b c d y u k ↔ (0 < agM a b c d y u ∧ (k : Int) % agM a b c d y u = 0) := by
  rw [← back_iff hdet hk]
  unfold backK isBack pwA pwX
  rw [show d + a = a + d by grind]
theorem agM_range (a b c d y u : Rat) : 0 ≤ agM a b c d y u ∧ agM a b c d y u ≤ 6 := by
  have := ordM_range a b c d
  unfold agM
  split
  · omega
  · split
    · omega
    · split
      · omega
      · split <;> omega
theorem first_ag {a b c d y u : Rat} (hdet : a * d - b * c = 1) {k : Nat} (hk : 1 ≤ k) (h : backK a b c d y u k) (hm : ∀ j, 1 ≤ j → j < k → ¬ backK a b c d y u j) : agM a b c d y u = (k : Int) := by
  obtain ⟨h1, h2⟩ := (backK_iff hdet hk).1 h
  have hle : agM a b c d y u ≤ k := Int.le_of_dvd (by omega) (Int.dvd_of_emod_eq_zero h2)
  rcases Int.lt_or_eq_of_le hle with h3 | h3
  · exfalso
    have := hm (agM a b c d y u).toNat (by omega) (by omega)
    exact this ((backK_iff hdet (by omega)).2 ⟨h1, by rw [Int.toNat_of_nonneg (by omega)]; simp⟩)
  · exact h3
theorem no_ag {a b c d y u : Rat} (hdet : a * d - b * c = 1) (hm : ∀ j, 1 ≤ j → j < 7 → ¬ backK a b c d y u j) : agM a b c d y u = 0 := by
  have hr := agM_range a b c d y u
  rcases Int.lt_or_le 0 (agM a b c d y u) with h | h
  · exfalso
    have := hm (agM a b c d y u).toNat (by omega) (by omega)
    exact this ((backK_iff hdet (by omega)).2 ⟨h, by rw [Int.toNat_of_nonneg (by omega)]; simp⟩)
  · omega
/-- What the loop of Again keeps. -/
def AgI (wa : World) (g6 : Nat) (a b c d y u : Rat) (k : Nat) (wr : World) : Prop :=
  1 ≤ k ∧ k ≤ 7 ∧ (∃ cs, wr.heap[g6]? = some (.cells cs 28 (0, 0)) ∧ MatR wr (.agg cs) (pwA k a d) (pwX k a d b) (pwX k a d c) (pwA k d a)) ∧ NBk a b c d k ∧ (∀ j, 1 ≤ j → j < k → ¬ backK a b c d y u j) ∧ Ext wa wr

set_option maxRecDepth 100000 in
set_option maxHeartbeats 6400000 in
theorem ragain_refused (v r : Value) (oa ob oc od oy ou : Option Rat) (w : World) (h : AnyM w v oa ob oc od) (hr : AnyY w r oy ou) (hk : okM oa ob oc od = false ∨ ([oy, ou].all Option.isSome) = false) :
    Calls Tryz.prog 12 #[v, r] w fun e w' => e = .returned (.tuple #[.int .i64 0, .int .i64 1]) ∧ Ext w w' := by
  have H := mkHid h
  have HR := mkHid hr
  obtain ⟨A1, A2, A3, A4, A5, A6, A7, A8, B1, B2, B3, B4, B5, B6, B7, B8, C1, C2, C3, C4, C5, C6, C7, C8, D1, D2, D3, D4, D5, D6, D7, D8, rfl, -⟩ := h
  obtain ⟨Y1, Y2, Y3, Y4, Y5, Y6, Y7, Y8, U1, U2, U3, U4, U5, U6, U7, U8, rfl, -⟩ := hr
  obtain ⟨wb, hwb⟩ : ∃ wb, wb = (w.alloc (.cells #[.bool A1, .slice A2 A3 A4, .bool A5, .slice A6 A7 A8, .bool B1, .slice B2 B3 B4, .bool B5, .slice B6 B7 B8, .bool C1, .slice C2 C3 C4, .bool C5, .slice C6 C7 C8, .bool D1, .slice D2 D3 D4, .bool D5, .slice D6 D7 D8] 28)).alloc (.cells #[.bool Y1, .slice Y2 Y3 Y4, .bool Y5, .slice Y6 Y7 Y8, .bool U1, .slice U2 U3 U4, .bool U5, .slice U6 U7 U8] 30) := ⟨_, rfl⟩
  have hE : Ext w wb := by rw [hwb]; exact ((Ext.refl w).al _).al _
  have z0 : wb.heap[w.heap.size]? = some (.cells #[.bool A1, .slice A2 A3 A4, .bool A5, .slice A6 A7 A8, .bool B1, .slice B2 B3 B4, .bool B5, .slice B6 B7 B8, .bool C1, .slice C2 C3 C4, .bool C5, .slice C6 C7 C8, .bool D1, .slice D2 D3 D4, .bool D5, .slice D6 D7 D8] 28 (0, 0)) := by rw [hwb]; exact (heap_alloc_old _ _ (by simp)).trans (heap_alloc_new _ _)
  have z1 : wb.heap[w.heap.size + 1]? = some (.cells #[.bool Y1, .slice Y2 Y3 Y4, .bool Y5, .slice Y6 Y7 Y8, .bool U1, .slice U2 U3 U4, .bool U5, .slice U6 U7 U8] 30 (0, 0)) := by rw [hwb]; exact heap_at _ _ _ (by simp)
  have MY := mkHid (rmay_f _ oa ob oc od wb (H.out.ext hE))
  have YY := mkHid (fun W (e : Ext wb W) => rmayray_f _ oy ou W (HR.out.ext (hE.trans e)))
  replace hwb := mkHid hwb
  replace z0 := mkHid z0
  replace z1 := mkHid z1
  replace hE := mkHid hE
  obtain ⟨B, hB⟩ : ∃ B, B = okM oa ob oc od := ⟨_, rfl⟩
  rw [← hB] at MY hk
  obtain ⟨B2, hB2⟩ : ∃ B, B = [oy, ou].all Option.isSome := ⟨_, rfl⟩
  rw [← hB2] at YY hk
  clear hB hB2
  cases B with
  | false =>
    go_enter Tryz.func12, Tryz.ntmps12
    go_wp2_with (first
      | (refine wpList_load_row rfl 28 (.tmp 2) rfl (w.heap.size) rfl 28 #[.bool A1, .slice A2 A3 A4, .bool A5, .slice A6 A7 A8, .bool B1, .slice B2 B3 B4, .bool B5, .slice B6 B7 B8, .bool C1, .slice C2 C3 C4, .bool C5, .slice C6 C7 C8, .bool D1, .slice D2 D3 D4, .bool D5, .slice D6 D7 D8] (0, 0) _ ((heap_alloc_old _ _ (by simp)).trans (heap_alloc_new _ _)) Tryz.underlying28 rfl (by kernel_rfl) ?_))
    rw [← hwb.out]
    clear hwb
    refine MY.out.mono ?_
    rintro e w1 ⟨rfl, hE1⟩
    have y1 := mkHid (hE1.blk z1.out)
    have y0 := mkHid (hE1.blk z0.out)
    have hE1' := mkHid hE1
    replace hE := mkHid (hE.out.trans hE1)
    clear hE1 MY z0 z1
    go_wp2_with fail
    go_ret2
    exact ⟨rfl, hE.out⟩
  | true =>
    have hf : B2 = false := by simpa using hk
    subst hf
    clear hk
    go_enter Tryz.func12, Tryz.ntmps12
    go_wp2_with (first
      | (refine wpList_load_row rfl 28 (.tmp 2) rfl (w.heap.size) rfl 28 #[.bool A1, .slice A2 A3 A4, .bool A5, .slice A6 A7 A8, .bool B1, .slice B2 B3 B4, .bool B5, .slice B6 B7 B8, .bool C1, .slice C2 C3 C4, .bool C5, .slice C6 C7 C8, .bool D1, .slice D2 D3 D4, .bool D5, .slice D6 D7 D8] (0, 0) _ ((heap_alloc_old _ _ (by simp)).trans (heap_alloc_new _ _)) Tryz.underlying28 rfl (by kernel_rfl) ?_))
    rw [← hwb.out]
    clear hwb
    refine MY.out.mono ?_
    rintro e w1 ⟨rfl, hE1⟩
    have y1 := mkHid (hE1.blk z1.out)
    have y0 := mkHid (hE1.blk z0.out)
    have hE1' := mkHid hE1
    replace hE := mkHid (hE.out.trans hE1)
    clear hE1 MY z0 z1
    go_wp2_with (first
      | (refine wpList_load_rowG rfl 30 (.tmp 3) rfl (w.heap.size + 1) rfl 30 #[.bool Y1, .slice Y2 Y3 Y4, .bool Y5, .slice Y6 Y7 Y8, .bool U1, .slice U2 U3 U4, .bool U5, .slice U6 U7 U8] (0, 0) _ y1.out Tryz.underlying30 rfl (by kernel_rfl) ?_))
    refine (YY.out w1 hE1'.out).mono ?_
    rintro e w2 ⟨rfl, hE2⟩
    replace hE := mkHid (hE.out.trans hE2)
    clear hE2 YY
    go_wp2_with fail
    go_ret2
    exact ⟨rfl, hE.out⟩

set_option maxRecDepth 100000 in
set_option maxHeartbeats 25600000 in
theorem ragain_fine (v r : Value) (a b c d y u : Rat) (w : World) (h : AnyM w v (some a) (some b) (some c) (some d)) (hr : AnyY w r (some y) (some u)) (hk : okM (some a) (some b) (some c) (some d) = true) :
    Calls Tryz.prog 12 #[v, r] w fun e w' => e = .returned (.tuple #[.int .i64 (agM a b c d y u), .int .i64 0]) ∧ Ext w w' := by
  have H := mkHid h
  have HR := mkHid hr
  obtain ⟨A1, A2, A3, A4, A5, A6, A7, A8, B1, B2, B3, B4, B5, B6, B7, B8, C1, C2, C3, C4, C5, C6, C7, C8, D1, D2, D3, D4, D5, D6, D7, D8, rfl, -⟩ := h
  obtain ⟨Y1, Y2, Y3, Y4, Y5, Y6, Y7, Y8, U1, U2, U3, U4, U5, U6, U7, U8, rfl, r1, r2⟩ := hr
  obtain ⟨wb, hwb⟩ : ∃ wb, wb = (w.alloc (.cells #[.bool A1, .slice A2 A3 A4, .bool A5, .slice A6 A7 A8, .bool B1, .slice B2 B3 B4, .bool B5, .slice B6 B7 B8, .bool C1, .slice C2 C3 C4, .bool C5, .slice C6 C7 C8, .bool D1, .slice D2 D3 D4, .bool D5, .slice D6 D7 D8] 28)).alloc (.cells #[.bool Y1, .slice Y2 Y3 Y4, .bool Y5, .slice Y6 Y7 Y8, .bool U1, .slice U2 U3 U4, .bool U5, .slice U6 U7 U8] 30) := ⟨_, rfl⟩
  have hE : Ext w wb := by rw [hwb]; exact ((Ext.refl w).al _).al _
  have z0 : wb.heap[w.heap.size]? = some (.cells #[.bool A1, .slice A2 A3 A4, .bool A5, .slice A6 A7 A8, .bool B1, .slice B2 B3 B4, .bool B5, .slice B6 B7 B8, .bool C1, .slice C2 C3 C4, .bool C5, .slice C6 C7 C8, .bool D1, .slice D2 D3 D4, .bool D5, .slice D6 D7 D8] 28 (0, 0)) := by rw [hwb]; exact (heap_alloc_old _ _ (by simp)).trans (heap_alloc_new _ _)
  have z1 : wb.heap[w.heap.size + 1]? = some (.cells #[.bool Y1, .slice Y2 Y3 Y4, .bool Y5, .slice Y6 Y7 Y8, .bool U1, .slice U2 U3 U4, .bool U5, .slice U6 U7 U8] 30 (0, 0)) := by rw [hwb]; exact heap_at _ _ _ (by simp)
  have MY := mkHid (rmay_f _ (some a) (some b) (some c) (some d) wb (H.out.ext hE))
  have YY := mkHid (fun W (e : Ext wb W) => rmayray_f _ (some y) (some u) W (HR.out.ext (hE.trans e)))
  rw [hk] at MY
  rw [show [some y, some u].all Option.isSome = true from rfl] at YY
  obtain ⟨hM, n1, n2, n3, n4⟩ := H.out.fracs
  obtain ⟨HY1, p1⟩ := r1.frac
  obtain ⟨HY2, p2⟩ := r2.frac
  have HY := mkHid (show RayR w (.agg #[.bool Y1, .slice Y2 Y3 Y4, .bool Y5, .slice Y6 Y7 Y8, .bool U1, .slice U2 U3 U4, .bool U5, .slice U6 U7 U8]) y u from ⟨Y1, Y2, Y3, Y4, Y5, Y6, Y7, Y8, U1, U2, U3, U4, U5, U6, U7, U8, rfl, HY1, HY2⟩)
  have hdet := mkHid (okM_det hk)
  have HM := mkHid hM
  obtain ⟨O, hO⟩ : ∃ O, O = agM a b c d y u := ⟨_, rfl⟩
  rw [← hO]
  replace hO := mkHid hO
  replace HY1 := mkHid HY1
  replace HY2 := mkHid HY2
  replace n1 := mkHid n1
  replace n2 := mkHid n2
  replace n3 := mkHid n3
  replace n4 := mkHid n4
  replace p1 := mkHid p1
  replace p2 := mkHid p2
  replace hwb := mkHid hwb
  replace z0 := mkHid z0
  replace z1 := mkHid z1
  replace hE := mkHid hE
  clear r1 r2 hM hk H HR
  go_enter Tryz.func12, Tryz.ntmps12
  go_wp2_with (first
    | (refine wpList_load_row rfl 28 (.tmp 2) rfl (w.heap.size) rfl 28 #[.bool A1, .slice A2 A3 A4, .bool A5, .slice A6 A7 A8, .bool B1, .slice B2 B3 B4, .bool B5, .slice B6 B7 B8, .bool C1, .slice C2 C3 C4, .bool C5, .slice C6 C7 C8, .bool D1, .slice D2 D3 D4, .bool D5, .slice D6 D7 D8] (0, 0) _ ((heap_alloc_old _ _ (by simp)).trans (heap_alloc_new _ _)) Tryz.underlying28 rfl (by kernel_rfl) ?_))
  rw [← hwb.out]
  clear hwb
  refine MY.out.mono ?_
  rintro e w1 ⟨rfl, hE1⟩
  have y1 := mkHid (hE1.blk z1.out)
  have y0 := mkHid (hE1.blk z0.out)
  have hE1' := mkHid hE1
  replace hE := mkHid (hE.out.trans hE1)
  clear hE1 MY z0 z1
  go_wp2_with (first
    | (refine wpList_load_rowG rfl 30 (.tmp 3) rfl (w.heap.size + 1) rfl 30 #[.bool Y1, .slice Y2 Y3 Y4, .bool Y5, .slice Y6 Y7 Y8, .bool U1, .slice U2 U3 U4, .bool U5, .slice U6 U7 U8] (0, 0) _ y1.out Tryz.underlying30 rfl (by kernel_rfl) ?_))
  refine (YY.out w1 hE1'.out).mono ?_
  rintro e w2 ⟨rfl, hE2⟩
  replace hE := mkHid (hE.out.trans hE2)
  have z0 := mkHid (hE2.blk y0.out)
  have z1 := mkHid (hE2.blk y1.out)
  clear hE2 YY y0 y1 hE1'
  obtain ⟨w4, hw4⟩ : ∃ w4, w4 = (w2.alloc (.cells #[.bool false, .slice none 0 0, .bool false, .slice none 0 0, .bool false, .slice none 0 0, .bool false, .slice none 0 0, .bool false, .slice none 0 0, .bool false, .slice none 0 0, .bool false, .slice none 0 0, .bool false, .slice none 0 0] 28)).setRow w2.heap.size #[.bool A1, .slice A2 A3 A4, .bool A5, .slice A6 A7 A8, .bool B1, .slice B2 B3 B4, .bool B5, .slice B6 B7 B8, .bool C1, .slice C2 C3 C4, .bool C5, .slice C6 C7 C8, .bool D1, .slice D2 D3 D4, .bool D5, .slice D6 D7 D8] := ⟨_, rfl⟩
  have hst : AgI w2 w2.heap.size a b c d y u 1 w4 := by
    have hE4 : Ext w2 w4 := by rw [hw4]; exact ((Ext.refl w2).al _).row (Nat.le_refl _) _
    obtain ⟨e1, e2, e3, e4⟩ := pw_one a b c d
    refine ⟨by omega, by omega, ⟨#[.bool A1, .slice A2 A3 A4, .bool A5, .slice A6 A7 A8, .bool B1, .slice B2 B3 B4, .bool B5, .slice B6 B7 B8, .bool C1, .slice C2 C3 C4, .bool C5, .slice C6 C7 C8, .bool D1, .slice D2 D3 D4, .bool D5, .slice D6 D7 D8], ?_, ?_⟩, NBk.start n1.out n2.out n3.out n4.out, fun j h1 h2 => by omega, hE4⟩
    · rw [hw4]
      exact setRow_heap _ _ _ _ _ _ (heap_alloc_new _ _)
    · rw [e1, e2, e3, e4]
      exact HM.out.ext (hE.out.trans hE4)
  replace hst := mkHid hst
  replace hw4 := mkHid hw4
  go_wp2_with (first
    | (refine wpList_load_row rfl 28 (.tmp 2) rfl (w.heap.size) rfl 28 #[.bool A1, .slice A2 A3 A4, .bool A5, .slice A6 A7 A8, .bool B1, .slice B2 B3 B4, .bool B5, .slice B6 B7 B8, .bool C1, .slice C2 C3 C4, .bool C5, .slice C6 C7 C8, .bool D1, .slice D2 D3 D4, .bool D5, .slice D6 D7 D8] (0, 0) _ z0.out Tryz.underlying28 rfl (by kernel_rfl) ?_)
    | (refine wpList_store_row rfl 28 (.tmp 6) (.tmp 17) rfl (w2.heap.size) #[.bool A1, .slice A2 A3 A4, .bool A5, .slice A6 A7 A8, .bool B1, .slice B2 B3 B4, .bool B5, .slice B6 B7 B8, .bool C1, .slice C2 C3 C4, .bool C5, .slice C6 C7 C8, .bool D1, .slice D2 D3 D4, .bool D5, .slice D6 D7 D8] rfl rfl 28 _ (heap_alloc_new _ _) (by kernel_rfl) rfl (by kernel_rfl) ?_))
  rw [← hw4.out]
  clear hw4
  go_loopw [7] (fun i wr => ∃ k : Nat, i = .int .i64 (k : Nat) ∧ AgI w2 w2.heap.size a b c d y u k wr) (fun i _ => 7 - (intOf i).toNat)
  case atStart => exact ⟨1, rfl, hst.out⟩
  case round =>
    clear hst
    obtain ⟨k, rfl, q1, q2, ⟨cs, hp, mp⟩, hn, hno, he⟩ := hrel
    by_cases hk : k ≤ 6
    · obtain ⟨m1, m2, m3, m4⟩ := hn.le q2
      have mp0 := mp
      obtain ⟨E1, E2, E3, E4, E5, E6, E7, E8, F1, F2, F3, F4, F5, F6, F7, F8, G1, G2, G3, G4, G5, G6, G7, G8, H1, H2, H3, H4, H5, H6, H7, H8, hcs⟩ := mp.shape
      obtain rfl : cs = #[.bool E1, .slice E2 E3 E4, .bool E5, .slice E6 E7 E8, .bool F1, .slice F2 F3 F4, .bool F5, .slice F6 F7 F8, .bool G1, .slice G2 G3 G4, .bool G5, .slice G6 G7 G8, .bool H1, .slice H2 H3 H4, .bool H5, .slice H6 H7 H8] := by simpa using hcs
      clear hcs mp
      have GN := mkHid (rgone_f _ _ (pwA k a d) (pwX k a d b) (pwX k a d c) (pwA k d a) y u wr (Nat.le_trans m1 (by decide)) (Nat.le_trans m2 (by decide)) (Nat.le_trans m3 (by decide)) (Nat.le_trans m4 (by decide)) (Nat.le_trans p1.out (by decide)) (Nat.le_trans p2.out (by decide)) mp0 (HY.out.ext (hE.out.trans he)))
      have b1 : nf (pwA k a d * y + pwX k a d b * u) ≤ 67108864 := by
        have := nf_add_le (pwA k a d * y) (pwX k a d b * u)
        have := nf_mul_le (pwA k a d) y
        have := nf_mul_le (pwX k a d b) u
        have := p1.out
        have := p2.out
        omega
      have b2 : nf (pwX k a d c * y + pwA k d a * u) ≤ 67108864 := by
        have := nf_add_le (pwX k a d c * y) (pwA k d a * u)
        have := nf_mul_le (pwX k a d c) y
        have := nf_mul_le (pwA k d a) u
        have := p1.out
        have := p2.out
        omega
      have SA := mkHid (fun v v' W h h' => rsame_f v v' (pwA k a d * y + pwX k a d b * u) y W b1 (Nat.le_trans p1.out (by decide)) h h')
      have SB := mkHid (fun v v' W h h' => rsame_f v v' (pwX k a d c * y + pwA k d a * u) u W b2 (Nat.le_trans p2.out (by decide)) h h')
      have TMk := mkHid (fun W (e : Ext wr W) => rmtimes_f _ _ a b c d (pwA k a d) (pwX k a d b) (pwX k a d c) (pwA k d a) W (Nat.le_trans n1.out (by decide)) (Nat.le_trans n2.out (by decide)) (Nat.le_trans n3.out (by decide)) (Nat.le_trans n4.out (by decide)) (Nat.le_trans m1 (by decide)) (Nat.le_trans m2 (by decide)) (Nat.le_trans m3 (by decide)) (Nat.le_trans m4 (by decide)) (HM.out.ext (hE.out.trans (he.trans e))) (mp0.ext e))
      obtain ⟨e1, e2, e3, e4⟩ := pw_left hdet.out k
      rw [e1, e2, e3, e4] at TMk
      have hn2 := mkHid (hn.next hdet.out n1.out n2.out n3.out n4.out)
      have hbk : backK a b c d y u k ↔ (pwA k a d * y + pwX k a d b * u = y ∧ pwX k a d c * y + pwA k d a * u = u) := Iff.rfl
      have hno2 : ¬ backK a b c d y u k → ∀ j, 1 ≤ j → j < k + 1 → ¬ backK a b c d y u j := by
        intro h1 j j1 j2
        rcases Nat.lt_or_ge j k with h | h
        · exact hno j j1 h
        · obtain rfl : j = k := by omega
          exact h1
      have hfirst : backK a b c d y u k → O = (k : Int) := fun h => hO.out.trans (first_ag hdet.out q1 h hno)
      replace hbk := mkHid hbk
      replace hno2 := mkHid hno2
      replace hfirst := mkHid hfirst
      replace hp := mkHid hp
      have hm := mkHid (he.blk z0.out)
      have hr := mkHid (he.blk z1.out)
      replace he := mkHid he
      clear mp0 hn hno e1 e2 e3 e4 m1 m2 m3 m4 b1 b2
      generalize pwA k a d * y + pwX k a d b * u = Y' at *
      generalize pwX k a d c * y + pwA k d a * u = U' at *
      obtain ⟨BY, hD1⟩ : ∃ D, D = decide (Y' = y) := ⟨_, rfl⟩
      obtain ⟨BU, hD2⟩ : ∃ D, D = decide (U' = u) := ⟨_, rfl⟩
      rw [← hD1] at SA
      rw [← hD2] at SB
      replace hD1 := mkHid hD1
      replace hD2 := mkHid hD2
      go_wp2_with (first
        | (refine wpList_load_row rfl 28 (.tmp 6) rfl (w2.heap.size) rfl 28 #[.bool E1, .slice E2 E3 E4, .bool E5, .slice E6 E7 E8, .bool F1, .slice F2 F3 F4, .bool F5, .slice F6 F7 F8, .bool G1, .slice G2 G3 G4, .bool G5, .slice G6 G7 G8, .bool H1, .slice H2 H3 H4, .bool H5, .slice H6 H7 H8] (0, 0) _ hp.out Tryz.underlying28 rfl (by kernel_rfl) ?_)
        | (refine wpList_load_row rfl 30 (.tmp 3) rfl (w.heap.size + 1) rfl 30 #[.bool Y1, .slice Y2 Y3 Y4, .bool Y5, .slice Y6 Y7 Y8, .bool U1, .slice U2 U3 U4, .bool U5, .slice U6 U7 U8] (0, 0) _ hr.out Tryz.underlying30 rfl (by kernel_rfl) ?_))
      refine GN.out.mono ?_
      rintro e w3 ⟨v3, rfl, h3, hE3⟩
      obtain ⟨K1, K2, K3, K4, K5, K6, K7, K8, L1, L2, L3, L4, L5, L6, L7, L8, rfl, fK, fL⟩ := h3
      have hr3 := hE3.blk hr.out
      have hrl : w.heap.size + 1 < w3.heap.size := (Array.getElem?_eq_some_iff.1 hr3).1
      have hg5 : ((w3.alloc (.cells #[.bool false, .slice none 0 0, .bool false, .slice none 0 0, .bool false, .slice none 0 0, .bool false, .slice none 0 0] 30)).setRow w3.heap.size #[.bool K1, .slice K2 K3 K4, .bool K5, .slice K6 K7 K8, .bool L1, .slice L2 L3 L4, .bool L5, .slice L6 L7 L8]).heap[w3.heap.size]? = some (.cells #[.bool K1, .slice K2 K3 K4, .bool K5, .slice K6 K7 K8, .bool L1, .slice L2 L3 L4, .bool L5, .slice L6 L7 L8] 30 (0, 0)) := setRow_heap _ _ _ _ _ _ (heap_alloc_new _ _)
      have hr5 : ((w3.alloc (.cells #[.bool false, .slice none 0 0, .bool false, .slice none 0 0, .bool false, .slice none 0 0, .bool false, .slice none 0 0] 30)).setRow w3.heap.size #[.bool K1, .slice K2 K3 K4, .bool K5, .slice K6 K7 K8, .bool L1, .slice L2 L3 L4, .bool L5, .slice L6 L7 L8]).heap[w.heap.size + 1]? = some (.cells #[.bool Y1, .slice Y2 Y3 Y4, .bool Y5, .slice Y6 Y7 Y8, .bool U1, .slice U2 U3 U4, .bool U5, .slice U6 U7 U8] 30 (0, 0)) := by
        rw [setRow_other _ _ _ _ (by omega)]
        exact (heap_alloc_old _ _ hrl).trans hr3
      have x0 : ((w3.alloc (.cells #[.bool false, .slice none 0 0, .bool false, .slice none 0 0, .bool false, .slice none 0 0, .bool false, .slice none 0 0] 30)).setRow w3.heap.size #[.bool K1, .slice K2 K3 K4, .bool K5, .slice K6 K7 K8, .bool L1, .slice L2 L3 L4, .bool L5, .slice L6 L7 L8]).cell? ⟨w3.heap.size, 0, none⟩ = some (.bool K1) := row16_cells hg5 0
      have y0 : ((w3.alloc (.cells #[.bool false, .slice none 0 0, .bool false, .slice none 0 0, .bool false, .slice none 0 0, .bool false, .slice none 0 0] 30)).setRow w3.heap.size #[.bool K1, .slice K2 K3 K4, .bool K5, .slice K6 K7 K8, .bool L1, .slice L2 L3 L4, .bool L5, .slice L6 L7 L8]).cell? ⟨w.heap.size + 1, 0, none⟩ = some (.bool Y1) := row16_cells hr5 0
      have x1 : ((w3.alloc (.cells #[.bool false, .slice none 0 0, .bool false, .slice none 0 0, .bool false, .slice none 0 0, .bool false, .slice none 0 0] 30)).setRow w3.heap.size #[.bool K1, .slice K2 K3 K4, .bool K5, .slice K6 K7 K8, .bool L1, .slice L2 L3 L4, .bool L5, .slice L6 L7 L8]).cell? ⟨w3.heap.size, 1, none⟩ = some (.slice K2 K3 K4) := row16_cells hg5 1
      have y1 : ((w3.alloc (.cells #[.bool false, .slice none 0 0, .bool false, .slice none 0 0, .bool false, .slice none 0 0, .bool false, .slice none 0 0] 30)).setRow w3.heap.size #[.bool K1, .slice K2 K3 K4, .bool K5, .slice K6 K7 K8, .bool L1, .slice L2 L3 L4, .bool L5, .slice L6 L7 L8]).cell? ⟨w.heap.size + 1, 1, none⟩ = some (.slice Y2 Y3 Y4) := row16_cells hr5 1
      have x2 : ((w3.alloc (.cells #[.bool false, .slice none 0 0, .bool false, .slice none 0 0, .bool false, .slice none 0 0, .bool false, .slice none 0 0] 30)).setRow w3.heap.size #[.bool K1, .slice K2 K3 K4, .bool K5, .slice K6 K7 K8, .bool L1, .slice L2 L3 L4, .bool L5, .slice L6 L7 L8]).cell? ⟨w3.heap.size, 2, none⟩ = some (.bool K5) := row16_cells hg5 2
      have y2 : ((w3.alloc (.cells #[.bool false, .slice none 0 0, .bool false, .slice none 0 0, .bool false, .slice none 0 0, .bool false, .slice none 0 0] 30)).setRow w3.heap.size #[.bool K1, .slice K2 K3 K4, .bool K5, .slice K6 K7 K8, .bool L1, .slice L2 L3 L4, .bool L5, .slice L6 L7 L8]).cell? ⟨w.heap.size + 1, 2, none⟩ = some (.bool Y5) := row16_cells hr5 2
      have x3 : ((w3.alloc (.cells #[.bool false, .slice none 0 0, .bool false, .slice none 0 0, .bool false, .slice none 0 0, .bool false, .slice none 0 0] 30)).setRow w3.heap.size #[.bool K1, .slice K2 K3 K4, .bool K5, .slice K6 K7 K8, .bool L1, .slice L2 L3 L4, .bool L5, .slice L6 L7 L8]).cell? ⟨w3.heap.size, 3, none⟩ = some (.slice K6 K7 K8) := row16_cells hg5 3
      have y3 : ((w3.alloc (.cells #[.bool false, .slice none 0 0, .bool false, .slice none 0 0, .bool false, .slice none 0 0, .bool false, .slice none 0 0] 30)).setRow w3.heap.size #[.bool K1, .slice K2 K3 K4, .bool K5, .slice K6 K7 K8, .bool L1, .slice L2 L3 L4, .bool L5, .slice L6 L7 L8]).cell? ⟨w.heap.size + 1, 3, none⟩ = some (.slice Y6 Y7 Y8) := row16_cells hr5 3
      have hE35 : Ext w3 ((w3.alloc (.cells #[.bool false, .slice none 0 0, .bool false, .slice none 0 0, .bool false, .slice none 0 0, .bool false, .slice none 0 0] 30)).setRow w3.heap.size #[.bool K1, .slice K2 K3 K4, .bool K5, .slice K6 K7 K8, .bool L1, .slice L2 L3 L4, .bool L5, .slice L6 L7 L8]) := ((Ext.refl w3).al _).row (Nat.le_refl _) _
      obtain ⟨w5, hw5⟩ : ∃ w5, w5 = (w3.alloc (.cells #[.bool false, .slice none 0 0, .bool false, .slice none 0 0, .bool false, .slice none 0 0, .bool false, .slice none 0 0] 30)).setRow w3.heap.size #[.bool K1, .slice K2 K3 K4, .bool K5, .slice K6 K7 K8, .bool L1, .slice L2 L3 L4, .bool L5, .slice L6 L7 L8] := ⟨_, rfl⟩
      rw [← hw5] at hE35 hg5 hr5
      have hEr5 := hE3.trans hE35
      have gK := mkHid (fK.ext hE35)
      have gL := mkHid (fL.ext hE35)
      have gY := mkHid (HY1.out.ext (hE.out.trans (he.out.trans hEr5)))
      have gU := mkHid (HY2.out.ext (hE.out.trans (he.out.trans hEr5)))
      replace hp := mkHid (hEr5.blk hp.out)
      replace hm := mkHid (hEr5.blk hm.out)
      replace he := mkHid (he.out.trans hEr5)
      replace hEr5 := mkHid hEr5
      replace hg5 := mkHid hg5
      replace hr5 := mkHid hr5
      replace hw5 := mkHid hw5
      clear GN hE3 hE35 fK fL hr3 hrl hr
      go_wp2_with (first
        | (refine wpList_store_row rfl 30 (.tmp 8) (.tmp 24) rfl (w3.heap.size) #[.bool K1, .slice K2 K3 K4, .bool K5, .slice K6 K7 K8, .bool L1, .slice L2 L3 L4, .bool L5, .slice L6 L7 L8] rfl rfl 30 _ (heap_alloc_new _ _) (by kernel_rfl) rfl (by kernel_rfl) ?_))
      rw [← hw5.out]
      clear x0 y0 x1 y1 x2 y2 x3 y3
      clear hw5
      refine (SA.out _ _ w5 gK.out gY.out).mono ?_
      rintro e w6 ⟨rfl, hE6⟩
      replace hg5 := mkHid (hE6.blk hg5.out)
      replace hr5 := mkHid (hE6.blk hr5.out)
      replace hp := mkHid (hE6.blk hp.out)
      replace hm := mkHid (hE6.blk hm.out)
      replace he := mkHid (he.out.trans hE6)
      replace hEr5 := mkHid (hEr5.out.trans hE6)
      replace gL := mkHid (gL.out.ext hE6)
      replace gU := mkHid (gU.out.ext hE6)
      clear hE6 gK gY SA
      cases BY with
      | false =>
        have hnb : ¬ backK a b c d y u k := fun h => absurd ((hbk.out.1 h).1) (of_decide_eq_false hD1.out.symm)
        replace hno2 := hno2.out hnb
        replace hnb := mkHid hnb
        replace hno2 := mkHid hno2
        go_wp2_with (first
          | (refine wpList_load_row rfl 28 (.tmp 2) rfl (w.heap.size) rfl 28 #[.bool A1, .slice A2 A3 A4, .bool A5, .slice A6 A7 A8, .bool B1, .slice B2 B3 B4, .bool B5, .slice B6 B7 B8, .bool C1, .slice C2 C3 C4, .bool C5, .slice C6 C7 C8, .bool D1, .slice D2 D3 D4, .bool D5, .slice D6 D7 D8] (0, 0) _ hm.out Tryz.underlying28 rfl (by kernel_rfl) ?_)
          | (refine wpList_load_row rfl 28 (.tmp 6) rfl (w2.heap.size) rfl 28 #[.bool E1, .slice E2 E3 E4, .bool E5, .slice E6 E7 E8, .bool F1, .slice F2 F3 F4, .bool F5, .slice F6 F7 F8, .bool G1, .slice G2 G3 G4, .bool G5, .slice G6 G7 G8, .bool H1, .slice H2 H3 H4, .bool H5, .slice H6 H7 H8] (0, 0) _ hp.out Tryz.underlying28 rfl (by kernel_rfl) ?_))
        refine (TMk.out w6 hEr5.out).mono ?_
        rintro e w9 ⟨v9, rfl, h9, hE9⟩
        obtain ⟨P1, P2, P3, P4, P5, P6, P7, P8, Q1, Q2, Q3, Q4, Q5, Q6, Q7, Q8, S1, S2, S3, S4, S5, S6, S7, S8, T1, T2, T3, T4, T5, T6, T7, T8, rfl⟩ := h9.shape
        have hp9 := hE9.blk hp.out
        have st2 : AgI w2 w2.heap.size a b c d y u (k + 1) (w9.setRow w2.heap.size #[.bool P1, .slice P2 P3 P4, .bool P5, .slice P6 P7 P8, .bool Q1, .slice Q2 Q3 Q4, .bool Q5, .slice Q6 Q7 Q8, .bool S1, .slice S2 S3 S4, .bool S5, .slice S6 S7 S8, .bool T1, .slice T2 T3 T4, .bool T5, .slice T6 T7 T8]) :=
          ⟨by omega, by omega, ⟨_, setRow_heap _ _ _ _ _ _ hp9, h9.flat hp9 (by simp [flatV]) _⟩, hn2.out, hno2.out, (he.out.trans hE9).row (Nat.le_refl _) _⟩
        replace st2 := mkHid st2
        replace hp9 := mkHid hp9
        clear h9 hE9 hp he hn2 hno2 TMk
        go_wp2_with (first
          | (refine wpList_store_row rfl 28 (.tmp 6) (.tmp 40) rfl (w2.heap.size) #[.bool P1, .slice P2 P3 P4, .bool P5, .slice P6 P7 P8, .bool Q1, .slice Q2 Q3 Q4, .bool Q5, .slice Q6 Q7 Q8, .bool S1, .slice S2 S3 S4, .bool S5, .slice S6 S7 S8, .bool T1, .slice T2 T3 T4, .bool T5, .slice T6 T7 T8] rfl rfl 28 _ hp9.out (by kernel_rfl) rfl (by kernel_rfl) ?_))
        go_roundw
        case rel => exact ⟨k + 1, by go_num, st2.out⟩
        case measure => simp [intOf] <;> omega
      | true =>
        have x0 : w6.cell? ⟨w3.heap.size, 4, none⟩ = some (.bool L1) := row16_cells hg5.out 4
        have y0 : w6.cell? ⟨w.heap.size + 1, 4, none⟩ = some (.bool U1) := row16_cells hr5.out 4
        have x1 : w6.cell? ⟨w3.heap.size, 5, none⟩ = some (.slice L2 L3 L4) := row16_cells hg5.out 5
        have y1 : w6.cell? ⟨w.heap.size + 1, 5, none⟩ = some (.slice U2 U3 U4) := row16_cells hr5.out 5
        have x2 : w6.cell? ⟨w3.heap.size, 6, none⟩ = some (.bool L5) := row16_cells hg5.out 6
        have y2 : w6.cell? ⟨w.heap.size + 1, 6, none⟩ = some (.bool U5) := row16_cells hr5.out 6
        have x3 : w6.cell? ⟨w3.heap.size, 7, none⟩ = some (.slice L6 L7 L8) := row16_cells hg5.out 7
        have y3 : w6.cell? ⟨w.heap.size + 1, 7, none⟩ = some (.slice U6 U7 U8) := row16_cells hr5.out 7
        go_wp2_with fail
        clear x0 y0 x1 y1 x2 y2 x3 y3
        refine (SB.out _ _ w6 gL.out gU.out).mono ?_
        rintro e w7 ⟨rfl, hE7⟩
        replace hp := mkHid (hE7.blk hp.out)
        replace hm := mkHid (hE7.blk hm.out)
        replace he := mkHid (he.out.trans hE7)
        replace hEr5 := mkHid (hEr5.out.trans hE7)
        clear hE7 gL gU SB hg5 hr5
        cases BU with
        | false =>
          have hnb : ¬ backK a b c d y u k := fun h => absurd ((hbk.out.1 h).2) (of_decide_eq_false hD2.out.symm)
          replace hno2 := hno2.out hnb
          replace hnb := mkHid hnb
          replace hno2 := mkHid hno2
          go_wp2_with (first
            | (refine wpList_load_row rfl 28 (.tmp 2) rfl (w.heap.size) rfl 28 #[.bool A1, .slice A2 A3 A4, .bool A5, .slice A6 A7 A8, .bool B1, .slice B2 B3 B4, .bool B5, .slice B6 B7 B8, .bool C1, .slice C2 C3 C4, .bool C5, .slice C6 C7 C8, .bool D1, .slice D2 D3 D4, .bool D5, .slice D6 D7 D8] (0, 0) _ hm.out Tryz.underlying28 rfl (by kernel_rfl) ?_)
            | (refine wpList_load_row rfl 28 (.tmp 6) rfl (w2.heap.size) rfl 28 #[.bool E1, .slice E2 E3 E4, .bool E5, .slice E6 E7 E8, .bool F1, .slice F2 F3 F4, .bool F5, .slice F6 F7 F8, .bool G1, .slice G2 G3 G4, .bool G5, .slice G6 G7 G8, .bool H1, .slice H2 H3 H4, .bool H5, .slice H6 H7 H8] (0, 0) _ hp.out Tryz.underlying28 rfl (by kernel_rfl) ?_))
          refine (TMk.out w7 hEr5.out).mono ?_
          rintro e w9 ⟨v9, rfl, h9, hE9⟩
          obtain ⟨P1, P2, P3, P4, P5, P6, P7, P8, Q1, Q2, Q3, Q4, Q5, Q6, Q7, Q8, S1, S2, S3, S4, S5, S6, S7, S8, T1, T2, T3, T4, T5, T6, T7, T8, rfl⟩ := h9.shape
          have hp9 := hE9.blk hp.out
          have st2 : AgI w2 w2.heap.size a b c d y u (k + 1) (w9.setRow w2.heap.size #[.bool P1, .slice P2 P3 P4, .bool P5, .slice P6 P7 P8, .bool Q1, .slice Q2 Q3 Q4, .bool Q5, .slice Q6 Q7 Q8, .bool S1, .slice S2 S3 S4, .bool S5, .slice S6 S7 S8, .bool T1, .slice T2 T3 T4, .bool T5, .slice T6 T7 T8]) :=
            ⟨by omega, by omega, ⟨_, setRow_heap _ _ _ _ _ _ hp9, h9.flat hp9 (by simp [flatV]) _⟩, hn2.out, hno2.out, (he.out.trans hE9).row (Nat.le_refl _) _⟩
          replace st2 := mkHid st2
          replace hp9 := mkHid hp9
          clear h9 hE9 hp he hn2 hno2 TMk
          go_wp2_with (first
            | (refine wpList_store_row rfl 28 (.tmp 6) (.tmp 40) rfl (w2.heap.size) #[.bool P1, .slice P2 P3 P4, .bool P5, .slice P6 P7 P8, .bool Q1, .slice Q2 Q3 Q4, .bool Q5, .slice Q6 Q7 Q8, .bool S1, .slice S2 S3 S4, .bool S5, .slice S6 S7 S8, .bool T1, .slice T2 T3 T4, .bool T5, .slice T6 T7 T8] rfl rfl 28 _ hp9.out (by kernel_rfl) rfl (by kernel_rfl) ?_))
          go_roundw
          case rel => exact ⟨k + 1, by go_num, st2.out⟩
          case measure => simp [intOf] <;> omega
        | true =>
          have hOk := hfirst.out (hbk.out.2 ⟨of_decide_eq_true hD1.out.symm, of_decide_eq_true hD2.out.symm⟩)
          subst hOk
          replace hE := mkHid (hE.out.trans he.out)
          clear he hno2 hfirst hbk
          go_wp2_with fail
          go_ret2
          exact ⟨rfl, hE.out⟩
    · obtain rfl : k = 7 := by omega
      have hO0 : O = 0 := hO.out.trans (no_ag hdet.out hno)
      subst hO0
      replace hE := mkHid (hE.out.trans he)
      replace hno := mkHid hno
      clear hp mp hn he
      go_wp2_with fail
      go_ret2
      exact ⟨rfl, hE.out⟩
end Go.Proofs.YtpmfohhpaoagfaaGreat
namespace Go.Proofs.YtpmfohhpaoagfaaGreat
open Go Go.RowKit Go.Proofs
theorem wpList_append_ran1 {P : Program} {ops : Array Oper} {rest : List Oper} {o : Oper} {a : Act} {Q : Exit → Act → World → Prop} {w w' : World} {v' vs vx : Value} (hgd : o.guard = none) (s x : Operand) (t : TypeId)
    (ho : o.op = .call { callee := .builtin .append, args := #[s, x], argTypes := #[t, t] }) (hs : a.eval s = vs) (hx : a.eval x = vx)
    (hr : (Builtin.append_ #[t, t] o.type #[vs, vx]).run P w = .ok v' w') (h : wpList P ops Q rest (a.put o.dst v') w') : wpList P ops Q (o :: rest) a w := by
  refine wpList_plain hgd fun K hK => ?_
  unfold Oper.wp execOp
  simp only [ho, resolve, invoke, builtin, Sem.run_bind, Sem.run_pure, Result.andThen_ok, List.map_toArray, List.map_cons, List.map_nil, hs, hx, hr]
  exact hK _ _ h
theorem givesV_append_ran1 {P : Program} {o : Oper} {a : Act} {S : World → Value → Prop} {w w' : World} {v' vs vx : Value} (s x : Operand) (t : TypeId)
    (ho : o.op = .call { callee := .builtin .append, args := #[s, x], argTypes := #[t, t] }) (hs : a.eval s = vs) (hx : a.eval x = vx)
    (hr : (Builtin.append_ #[t, t] o.type #[vs, vx]).run P w = .ok v' w') (h : S w' v') : givesV P S ((execOp a.eval o).run P w) := by
  unfold execOp
  simp only [ho, resolve, invoke, builtin, Sem.run_bind, Sem.run_pure, Result.andThen_ok, List.map_toArray, List.map_cons, List.map_nil, hs, hx, hr]
  exact h
/-- Nothing has turned but, perhaps, one row. -/
structure But (g : Nat) (w w' : World) : Prop where
  os : w'.os = w.os
  tape : w'.tape = w.tape
  output : w'.output = w.output
  size : w.heap.size ≤ w'.heap.size
  block : ∀ k, k < w.heap.size → k ≠ g → w'.heap[k]? = w.heap[k]?
theorem But.refl (g : Nat) (w : World) : But g w w := ⟨rfl, rfl, rfl, Nat.le_refl _, fun _ _ _ => rfl⟩
theorem But.trans {g : Nat} {a b c : World} (h : But g a b) (k : But g b c) : But g a c :=
  ⟨k.os.trans h.os, k.tape.trans h.tape, k.output.trans h.output, Nat.le_trans h.size k.size, fun i hi hn => (k.block i (Nat.lt_of_lt_of_le hi h.size) hn).trans (h.block i hi hn)⟩
theorem But.of_ext {g : Nat} {w w' : World} (h : Ext w w') : But g w w' := ⟨h.os, h.tape, h.output, h.size, fun k hk _ => h.block k hk⟩
theorem But.row (g : Nat) (w : World) (cs : Array Value) : But g w (w.setRow g cs) :=
  ⟨rfl, rfl, rfl, by simp [World.setRow], fun k _ hn => setRow_other _ _ _ _ hn⟩
theorem But.blk {g k : Nat} {w w' : World} {o : Obj} (h : But g w w') (hk : w.heap[k]? = some o) (hn : k ≠ g) : w'.heap[k]? = some o := by
  rw [h.block k (Array.getElem?_eq_some_iff.1 hk).1 hn]
  exact hk
/-- From a world in which the row was not yet there. -/
theorem But.ext {g : Nat} {w wr w' : World} (e : Ext w wr) (h : But g wr w') (hg : w.heap.size ≤ g) : Ext w w' :=
  ⟨h.os.trans e.os, h.tape.trans e.tape, h.output.trans e.output, Nat.le_trans e.size h.size, fun k hk => (h.block k (Nat.lt_of_lt_of_le hk e.size) (by omega)).trans (e.block k hk)⟩
/-- As But, and the row is as it was, or has these cells. -/
structure TwR (g : Nat) (cs : Array Value) (w w' : World) : Prop where
  but : But g w w'
  own : w'.heap[g]? = w.heap[g]? ∨ w'.heap[g]? = some (.cells cs 85 (0, 0))
theorem TwR.refl {g : Nat} {cs : Array Value} (w : World) : TwR g cs w w := ⟨But.refl _ _, .inl rfl⟩
theorem TwR.trans {g : Nat} {cs : Array Value} {a b c : World} (h : TwR g cs a b) (k : TwR g cs b c) : TwR g cs a c := by
  refine ⟨h.but.trans k.but, ?_⟩
  rcases k.own with e | e
  · rcases h.own with f | f
    · exact .inl (e.trans f)
    · exact .inr (e.trans f)
  · exact .inr e
theorem TwR.of_ext {g : Nat} {cs : Array Value} {w w' : World} (h : Ext w w') (hg : g < w.heap.size) : TwR g cs w w' := ⟨But.of_ext h, .inl (h.block g hg)⟩
/-- Append of limbs that read so, nil included, to a row that has room. -/
theorem append_room (w : World) (g n cap m c : Nat) (a : Option Addr) (l q : List Nat) (ty : TypeId) (hg : w.heap[g]? = some (.cells (limV q).toArray 85 (0, 0))) (hq : q.length = cap) (hm : m = l.length) (hroom : n + m ≤ cap) (hr : Row w a (limV l)) :
    ∃ w', (Builtin.append_ #[22, 22] ty #[.slice (some ⟨g, 0, none⟩) n cap, .slice a m c]).run Tryz.prog w = .ok (.slice (some ⟨g, 0, none⟩) (n + m) cap) w' ∧
      w'.heap[g]? = some (.cells (limV (q.take n ++ l ++ q.drop (n + m))).toArray 85 (0, 0)) ∧ But g w w' := by
  subst hm
  obtain ⟨i0, hi, hz0, hz1, hz2⟩ := info_parts u32_info
  obtain ⟨b, off, ha, hc⟩ := hr
  cases a with
  | none =>
    have hl : l = [] := by
      cases l with
      | nil => rfl
      | cons x l => exact absurd (ha (by simp [limV])) (by simp)
    subst hl
    refine ⟨w, ?_, ?_, But.refl _ _⟩
    · simp at hroom
      simp [Builtin.append_, run_underlying u32_under, sizeOf, typeInfo, hi, Builtin.lenOf, Builtin.firstCells, hroom, storeCells]
    · simpa using hg
  | some ad =>
    have hnews : ∀ j u, (limV l)[j]? = some u → w.cell? (ad.add j) = some u := by
      intro j u hu
      have hne : limV l ≠ [] := by
        intro h0
        rw [h0] at hu
        cases hu
      have := ha hne
      rw [Option.some.inj this]
      exact row_cells hc j u hu
    have h := run_append_room (P := Tryz.prog) w 22 ty 85 i0 u32_under hi g n cap (limV q).toArray hg ad l.length c (limV l) (by rw [hz1, limV_length, Nat.mul_one]) hnews (limV_one l) hroom (by rw [hz1, limV_length]; simp [limV_length]; omega)
    refine ⟨_, h, ?_, But.row _ _ _⟩
    rw [setRow_heap _ _ _ _ _ _ hg, hz1, limV_length]
    simp [limV]
/-- A number's twin: its limbs in a row with one place more, marked. -/
def TwinR (w : World) (v : Value) (b : Bool) (l : List Nat) : Prop :=
  ∃ g c, v = .agg #[.bool b, .slice (some ⟨g, 0, none⟩) l.length c] ∧ OkL l ∧ l.length + 1 ≤ c ∧ (∀ j, j < (limV l).length → w.cell? ⟨g, 0 + j, none⟩ = some ((limV l).getD j undef)) ∧ w.cell? ⟨g, l.length, none⟩ = some (.int .u32 7777)
theorem TwinR.ext {w w' : World} {v : Value} {b : Bool} {l : List Nat} (h : TwinR w v b l) (e : Ext w w') : TwinR w' v b l := by
  obtain ⟨g, c, h1, h2, h3, h4, h5⟩ := h
  exact ⟨g, c, h1, h2, h3, fun j hj => e.cell (h4 j hj), e.cell h5⟩
theorem TwinR.any {w : World} {v : Value} {b : Bool} {l : List Nat} (h : TwinR w v b l) : AnyR w v b l := by
  obtain ⟨g, c, h1, h2, h3, h4, h5⟩ := h
  exact ⟨_, c, h1, h2, by omega, g, 0, fun _ => rfl, h4⟩
theorem TwinR.shape {w : World} {v : Value} {b : Bool} {l : List Nat} (h : TwinR w v b l) : ∃ a c, v = .agg #[.bool b, .slice a l.length c] := by
  obtain ⟨g, c, h1, -⟩ := h
  exact ⟨_, c, h1⟩
/-- The new cell that is put behind. -/
def OneN (lo : Nat) (W : World) (v : Value) : Prop := ∃ k, v = .slice (some ⟨k, 0, none⟩) 1 1 ∧ lo ≤ k ∧ W.heap[k]? = some (.cells #[.int .u32 7777] 85 (0, 0))
theorem st_tw_val {g : Nat} {cs : Array Value} {ss : List FSpec} (c : Value) (h : StableAll (TwR g cs) ss) : StableAll (TwR g cs) (.val c :: ss) := ⟨stable_val c, h⟩
theorem st_tw_one {g : Nat} {cs : Array Value} {ss : List FSpec} (lo : Nat) (hlo : g < lo) (h : StableAll (TwR g cs) ss) : StableAll (TwR g cs) (.pred (OneN lo) :: ss) := by
  refine ⟨?_, h⟩
  rintro W W' v hR ⟨k, h1, h2, h3⟩
  exact ⟨k, h1, h2, hR.but.blk h3 (by omega)⟩
theorem st_tw_app {g : Nat} {cs : Array Value} {ss : List FSpec} (x : Value) (h : StableAll (TwR g cs) ss) : StableAll (TwR g cs) (.pred (fun W v => v = x ∧ W.heap[g]? = some (.cells cs 85 (0, 0))) :: ss) := by
  refine ⟨?_, h⟩
  rintro W W' v hR ⟨h1, h2⟩
  refine ⟨h1, ?_⟩
  rcases hR.own with e | e
  · rw [e]; exact h2
  · exact e
theorem giv_want {P : Program} {S : World → Value → Prop} {r : Result Next} {X c : Prop} [Decidable c] (hw : c) (h : givesV P S r) : if c then givesV P S r else X := by rw [if_pos hw]; exact h
theorem make0 (n : Nat) (w : World) (h : n ≤ 70368744177664) : (Instr.makeSlice 22 (.int .i64 0) (.int .i64 n)).run Tryz.prog w = .ok (.slice (some ⟨w.heap.size, 0, none⟩) 0 n) (w.alloc (.cells (limV (List.replicate n 0)).toArray 85)) := by
  obtain ⟨i0, hi, hz0, hz1, hz2⟩ := info_parts u32_info
  have := run_make w 22 85 i0 _ u32_under hi hz0 .i64 .i64 0 n (by omega) (by omega) (by rw [hz2]; omega) (by omega)
  rw [this, hz1]
  have e : madeCells #[Value.int IntKind.u32 0] (n * 1) = (limV (List.replicate n 0)).toArray := by
    simp [madeCells, limV, Array.ext_iff, Nat.mod_one]
  simp only [Int.toNat_natCast, Value.cells, e]
  rfl
theorem region_tw {g : Nat} {cs : Array Value} {id : Nat} {l : List Oper} {a : Act} {w : World} {Q : Exit → Act → World → Prop} (specs : List FSpec) (hdr : ∀ w : World, TwR g cs w w.drew) (hok : okFree specs.length a.tmps.size l = true) (hst : StableAll (TwR g cs) specs)
    (h : freeSteps Tryz.prog l (TwR g cs) w Q 0 specs l a []) : (Code.region id l.toArray true).wp Tryz.prog Q a w :=
  region_free (TwR g cs) specs mixed hok TwR.refl (fun _ _ _ => TwR.trans) hdr (stableAll_mem hst) h
theorem TwR.dr {g : Nat} {cs : Array Value} (w : World) : TwR g cs w w.drew := ⟨But.of_ext (Ext.refl w).dr, .inl rfl⟩
set_option maxRecDepth 100000 in
set_option maxHeartbeats 1600000 in
theorem twinInt_c (v : Value) (b : Bool) (l : List Nat) (w : World) (hl : l.length ≤ 4294967296) (h : AnyR w v b l) :
    Calls Tryz.prog 41 #[v] w fun e w' => ∃ v', e = .returned v' ∧ TwinR w' v' b l ∧ Ext w w' := by
  obtain ⟨a, c, rfl, okl, hc, r⟩ := h
  obtain ⟨n, hn⟩ : ∃ n, n = l.length := ⟨_, rfl⟩
  rw [← hn]
  have hn2 : n ≤ 4294967296 := by omega
  have hmk := fun w => make0 (n + 1) w (by omega)
  rw [show (((n + 1 : Nat)) : Int) = (n : Int) + 1 by omega] at hmk
  obtain ⟨wb, hwb⟩ : ∃ wb, wb = ((w.alloc (.cells #[.bool b, .slice a n c] 24)).alloc (.cells #[.bool false, .slice none 0 0] 24)) := ⟨_, rfl⟩
  have hE : Ext w wb := by rw [hwb]; exact ((Ext.refl w).al _).al _
  have hsz : wb.heap.size = w.heap.size + 2 := by rw [hwb]; simp
  have z0 : wb.heap[w.heap.size]? = some (.cells #[.bool b, .slice a n c] 24 (0, 0)) := by rw [hwb]; exact (heap_alloc_old _ _ (by simp)).trans (heap_alloc_new _ _)
  have z1 : wb.heap[w.heap.size + 1]? = some (.cells #[.bool false, .slice none 0 0] 24 (0, 0)) := by rw [hwb]; exact heap_at _ _ _ (by simp)
  obtain ⟨w4, hrun, hg4, hbut⟩ := append_room (wb.alloc (.cells (limV (List.replicate (n + 1) 0)).toArray 85)) wb.heap.size 0 (n + 1) n c a l (List.replicate (n + 1) 0) 22 (heap_alloc_new _ _) (by simp) hn (by omega) (r.ext (hE.al _))
  have hE4 : Ext wb w4 := But.ext ((Ext.refl wb).al _) hbut (Nat.le_refl _)
  have z0' := hE4.blk z0
  have z1' := hE4.blk z1
  have hw4 := hbut.size
  rw [show List.take 0 (List.replicate (n + 1) 0) ++ l ++ List.drop (0 + n) (List.replicate (n + 1) 0) = l ++ [0] by simp [List.drop_replicate]] at hg4
  obtain ⟨g, hgg⟩ : ∃ g, g = wb.heap.size := ⟨_, rfl⟩
  rw [← hgg] at hg4 hrun hsz hbut
  have hgl : g < w4.heap.size := (Array.getElem?_eq_some_iff.1 hg4).1
  rw [hwb] at hrun
  rw [Nat.zero_add] at hrun
  replace hE := mkHid (hE.trans hE4)
  replace hrun := mkHid hrun
  replace hn := mkHid hn
  replace hgg := mkHid hgg
  clear hE4 z0 z1 hbut hw4 r hl
  obtain ⟨new, hnew⟩ : ∃ new, new = (limV (l ++ [7777])).toArray := ⟨_, rfl⟩
  replace hnew := mkHid hnew
  have h00 : ∀ W, TwR g new w4 W → W.cell? ⟨w.heap.size, 0, none⟩ = some (.bool b) := fun W e => (row2_cells (e.but.blk z0' (by omega))).1
  have h01 : ∀ W, TwR g new w4 W → W.cell? ⟨w.heap.size, 1, none⟩ = some (.slice a n c) := fun W e => (row2_cells (e.but.blk z0' (by omega))).2
  have hsz2 := mkHid hsz
  have hwb2 := mkHid hwb
  go_enter Tryz.func41, Tryz.ntmps41
  have hgs : g = w.heap.size + 1 + 1 := by omega
  subst hgs
  replace hsz := mkHid hsz
  replace hwb := mkHid hwb
  go_wp2_with (at_builtin; refine wpList_append_ran1 rfl (.tmp 9) (.tmp 11) 22 rfl rfl rfl hrun.out ?_)
  clear hrun hmk
  apply region_tw [.val _, .val _, .val _, .pred (OneN w4.heap.size), .pred (fun W v => v = .slice (some ⟨w.heap.size + 1 + 1, 0, none⟩) (n + 1) (n + 1) ∧ W.heap[w.heap.size + 1 + 1]? = some (.cells new 85 (0, 0))), .val _, .val _, .val _, .val (.slice (some ⟨w.heap.size + 1 + 1, 0, none⟩) n (n + 1))] TwR.dr (by kernel_rfl)
    (st_tw_val _ (st_tw_val _ (st_tw_val _ (st_tw_one _ hgl (st_tw_app _ (st_tw_val _ (st_tw_val _ (st_tw_val _ (st_tw_val _ trivial)))))))))
  iterate 3 (refine ⟨fun W hW _ => by go_simp; exact ⟨TwR.refl _, rfl⟩, ?_⟩)
  refine ⟨fun W hW hF => ?g3, fun v3 => ?_⟩
  case g3 =>
    have hx := hW.but.size
    have hR : TwR (w.heap.size + 1 + 1) new W (W.alloc (.cells #[.int .u32 7777] 85)) := TwR.of_ext ((Ext.refl W).al _) (by omega)
    have hO : OneN w4.heap.size (W.alloc (.cells #[.int .u32 7777] 85)) (.slice (some ⟨W.heap.size, 0, none⟩) 1 1) := ⟨_, rfl, hx, heap_alloc_new _ _⟩
    replace hR := mkHid hR
    replace hO := mkHid hO
    go_simp
    exact ⟨hR.out, hO.out⟩
  refine ⟨fun W hW hF => ?g4, fun v4 => ?_⟩
  case g4 =>
    have d3 : OneN w4.heap.size W v3 := hF.1 (by kernel_rfl)
    clear hF
    obtain ⟨k, rfl, hk1, hk2⟩ := d3
    have hrow : Row W (some ⟨k, 0, none⟩) (limV [7777]) := by
      refine ⟨k, 0, fun _ => rfl, fun j hj => ?_⟩
      have : j = 0 := by simp [limV] at hj; omega
      subst this
      unfold World.cell?
      simp only [Nat.zero_add, hk2]
      rfl
    have key : ∀ q : List Nat, q.length = n + 1 → q.take n = l → W.heap[w.heap.size + 1 + 1]? = some (.cells (limV q).toArray 85 (0, 0)) →
        ∃ w', (Builtin.append_ #[22, 22] 22 #[.slice (some ⟨w.heap.size + 1 + 1, 0, none⟩) n (n + 1), .slice (some ⟨k, 0, none⟩) 1 1]).run Tryz.prog W = .ok (.slice (some ⟨w.heap.size + 1 + 1, 0, none⟩) (n + 1) (n + 1)) w' ∧
          w'.heap[w.heap.size + 1 + 1]? = some (.cells new 85 (0, 0)) ∧ But (w.heap.size + 1 + 1) W w' := by
      intro q hq1 hq2 hq3
      obtain ⟨w', h1, h2, h3⟩ := append_room W (w.heap.size + 1 + 1) n (n + 1) 1 1 (some ⟨k, 0, none⟩) [7777] q 22 hq3 hq1 rfl (by omega) hrow
      refine ⟨w', h1, ?_, h3⟩
      rw [h2, hnew.out, hq2, List.drop_of_length_le (by omega), List.append_nil]
    have hrun : ∃ w', (Builtin.append_ #[22, 22] 22 #[.slice (some ⟨w.heap.size + 1 + 1, 0, none⟩) n (n + 1), .slice (some ⟨k, 0, none⟩) 1 1]).run Tryz.prog W = .ok (.slice (some ⟨w.heap.size + 1 + 1, 0, none⟩) (n + 1) (n + 1)) w' ∧
          w'.heap[w.heap.size + 1 + 1]? = some (.cells new 85 (0, 0)) ∧ But (w.heap.size + 1 + 1) W w' := by
      rcases hW.own with e | e
      · exact key (l ++ [0]) (by simp [hn.out]) (by rw [hn.out]; simp) (e.trans hg4)
      · exact key (l ++ [7777]) (by simp [hn.out]) (by rw [hn.out]; simp) (by rw [e, hnew.out])
    obtain ⟨w', h1, h2, h3⟩ := hrun
    refine giv_want rfl ?_
    refine givesV_append_ran1 (.tmp 15) (.tmp 16) 22 rfl rfl rfl h1 ?_
    exact ⟨⟨h3, .inr h2⟩, rfl, h2⟩
  iterate 3 (refine ⟨fun W hW _ => by go_simp; exact ⟨TwR.refl _, rfl⟩, ?_⟩)
  refine ⟨fun W hW hF => ?g8, fun W hW hF => ?fin⟩
  case g8 =>
    have d4 : v4 = .slice (some ⟨w.heap.size + 1 + 1, 0, none⟩) (n + 1) (n + 1) ∧ W.heap[w.heap.size + 1 + 1]? = some (.cells new 85 (0, 0)) := hF.1 (by kernel_rfl)
    replace d4 := d4.1
    subst d4
    have hle : (n : Int) ≤ (n : Int) + 1 := by omega
    clear hF
    go_simp
    exact TwR.refl _
  case fin =>
    have d4 : v4 = .slice (some ⟨w.heap.size + 1 + 1, 0, none⟩) (n + 1) (n + 1) ∧ W.heap[w.heap.size + 1 + 1]? = some (.cells new 85 (0, 0)) := hF.1 rfl
    obtain ⟨rfl, hg5⟩ := d4
    have hBW := hW.but.blk z1' (by omega)
    have hEW := But.ext hE.out hW.but (by omega)
    have hg6 : (W.setRow (w.heap.size + 1) #[.bool b, .slice (some ⟨w.heap.size + 1 + 1, 0, none⟩) n (n + 1)]).heap[w.heap.size + 1 + 1]? = some (.cells (limV (l ++ [7777])).toArray 85 (0, 0)) := by
      rw [setRow_other _ _ _ _ (by omega), hg5, hnew.out]
    have hT : TwinR (W.setRow (w.heap.size + 1) #[.bool b, .slice (some ⟨w.heap.size + 1 + 1, 0, none⟩) n (n + 1)]) (.agg #[.bool b, .slice (some ⟨w.heap.size + 1 + 1, 0, none⟩) n (n + 1)]) b l := by
      refine ⟨_, n + 1, by rw [hn.out], okl, by rw [hn.out]; exact Nat.le_refl _, fun j hj => ?_, ?_⟩
      · have hj2 : j < l.length := by rwa [limV_length] at hj
        simp only [World.cell?, hg6, Nat.zero_add]
        simp [limV, List.getElem?_append, hj2]
      · simp only [World.cell?, hg6]
        simp [limV]
    have hF2 := hEW.row (show w.heap.size ≤ w.heap.size + 1 by omega) #[.bool b, .slice (some ⟨w.heap.size + 1 + 1, 0, none⟩) n (n + 1)]
    replace hT := mkHid hT
    replace hF2 := mkHid hF2
    clear hF hg5 hg6 hEW h00 h01 hW hg4 z0'
    go_simp
    go_wp2_with (refine wpList_store_row rfl 24 (.tmp 2) (.tmp 22) rfl (w.heap.size + 1) #[.bool b, .slice (some ⟨w.heap.size + 1 + 1, 0, none⟩) n (n + 1)] rfl rfl 24 _ hBW (by kernel_rfl) rfl (by kernel_rfl) ?_)
    exact bodyPost_ret (results_cell_row rfl _ _ (w.heap.size + 1) 24 #[.bool b, .slice (some ⟨w.heap.size + 1 + 1, 0, none⟩) n (n + 1)] (0, 0) _ rfl (setRow_heap _ _ _ _ _ _ hBW) Tryz.underlying24 rfl (by kernel_rfl)) rfl ⟨_, rfl, hT.out, hF2.out⟩
end Go.Proofs.YtpmfohhpaoagfaaGreat
namespace Go.Proofs.YtpmfohhpaoagfaaGreat
open Go Go.RowKit Go.Proofs
set_option maxRecDepth 100000 in
set_option maxHeartbeats 3200000 in
theorem leftInt_c (v x : Value) (b : Bool) (l : List Nat) (w : World) (hl : l.length ≤ 4294967296) (h : TwinR w v b l) (hx : AnyR w x b l) :
    Calls Tryz.prog 61 #[v, x] w fun e w' => e = .returned (.bool true) ∧ Ext w w' := by
  have h0 := h.any
  obtain ⟨g, ct, rfl, okl, hct, -, h7⟩ := h
  have hx0 := hx
  obtain ⟨a, c, rfl, -, hc, -⟩ := hx
  have SM := mkHid (fun W (e : Ext w W) => sameInt_c _ _ b b l l W hl hl (h0.ext e) (hx0.ext e))
  rw [show decide (b = b ∧ l = l) = true by simp] at SM
  obtain ⟨n, hn⟩ : ∃ n, n = l.length := ⟨_, rfl⟩
  rw [← hn] at h7 hct hc hl SM ⊢
  replace hn := mkHid hn
  clear h0 hx0 okl
  obtain ⟨wb, hwb⟩ : ∃ wb, wb = ((w.alloc (.cells #[.bool b, .slice (some ⟨g, 0, none⟩) n ct] 24)).alloc (.cells #[.bool b, .slice a n c] 24)) := ⟨_, rfl⟩
  have hE : Ext w wb := by rw [hwb]; exact ((Ext.refl w).al _).al _
  have z0 : wb.heap[w.heap.size]? = some (.cells #[.bool b, .slice (some ⟨g, 0, none⟩) n ct] 24 (0, 0)) := by rw [hwb]; exact (heap_alloc_old _ _ (by simp)).trans (heap_alloc_new _ _)
  have z1 : wb.heap[w.heap.size + 1]? = some (.cells #[.bool b, .slice a n c] 24 (0, 0)) := by rw [hwb]; exact heap_at _ _ _ (by simp)
  have h00 : ∀ W, Ext wb W → W.cell? ⟨w.heap.size, 0, none⟩ = some (.bool b) := fun W e => e.cell (row2_cells z0).1
  have h01 : ∀ W, Ext wb W → W.cell? ⟨w.heap.size, 1, none⟩ = some (.slice (some ⟨g, 0, none⟩) n ct) := fun W e => e.cell (row2_cells z0).2
  have h10 : ∀ W, Ext wb W → W.cell? ⟨w.heap.size + 1, 0, none⟩ = some (.bool b) := fun W e => e.cell (row2_cells z1).1
  have h11 : ∀ W, Ext wb W → W.cell? ⟨w.heap.size + 1, 1, none⟩ = some (.slice a n c) := fun W e => e.cell (row2_cells z1).2
  have h77 : ∀ W, Ext wb W → W.cell? ⟨g, n, none⟩ = some (.int .u32 7777) := fun W e => (hE.trans e).cell h7
  have hgt : (n : Int) < ct := by omega
  have hle : (n : Int) + 1 ≤ ct := by omega
  have hlt : (n : Int) < (n : Int) + 1 := by omega
  have hlt2 : n < n + 1 := by omega
  have hwr : IntKind.i64.wrap ((n : Int) + 1) = (n : Int) + 1 := by rw [IntKind.wrap_i64]; omega
  have hn0 : 0 ≤ (n : Int) + 1 := by omega
  have htn : ((n : Int) + 1).toNat = n + 1 := by omega
  replace hE := mkHid hE
  replace hwb := mkHid hwb
  clear z0 z1 h7
  go_enter Tryz.func61, Tryz.ntmps61
  go_wp2_with fail
  rw [← hwb.out]
  clear hwb
  apply region_ext [.val _, .val _, .val (.bool true), .val _, .val _, .val _, .val _, .val _, .val _, .val _, .val _, .val _, .val _, .val _, .val _, .val _, .val _, .val _, .val _, .val _, .val _, .val _, .val _, .val _, .val _, .val _, .val _] (by kernel_rfl) (stable_vals _ (stable_vals _ (stable_vals _ (stable_vals _ (stable_vals _ (stable_vals _ (stable_vals _ (stable_vals _ (stable_vals _ (stable_vals _ (stable_vals _ (stable_vals _ (stable_vals _ (stable_vals _ (stable_vals _ (stable_vals _ (stable_vals _ (stable_vals _ (stable_vals _ (stable_vals _ (stable_vals _ (stable_vals _ (stable_vals _ (stable_vals _ (stable_vals _ (stable_vals _ (stable_vals _ trivial)))))))))))))))))))))))))))
  iterate 2 (refine ⟨fun W hW _ => by go_simp; first | exact ⟨Ext.refl _, rfl⟩ | rfl, ?_⟩)
  refine ⟨fun W hW _ => ?g2, ?_⟩
  case g2 =>
    go_simp
    refine (SM.out W (hE.out.trans hW)).mono ?_
    rintro e w' ⟨rfl, e1⟩
    exact ⟨rfl, e1⟩
  iterate 24 (refine ⟨fun W hW _ => by go_simp; first | exact ⟨Ext.refl _, rfl⟩ | exact Ext.refl _ | rfl, ?_⟩)
  intro W hW _
  replace hE := mkHid (hE.out.trans hW)
  clear hwr hn0 htn
  clear hW h00 h01 h10 h11 h77
  go_simp
  go_wp2_with fail
  go_ret
  exact ⟨rfl, hE.out⟩
end Go.Proofs.YtpmfohhpaoagfaaGreat
