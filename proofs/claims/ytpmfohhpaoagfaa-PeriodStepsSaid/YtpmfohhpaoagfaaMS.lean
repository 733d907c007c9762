/-
  period: the plain law of returns: which powers of a matrix of determinant one are one, which give a ray back. Matrices and rays with limbs of whatever number. A region's load of a whole row, by the row's law: no program. (The walk's own load of 16 cells costs the kernel 14 s and 2 GB.) PeriodReturns, walked: printed by tools/gen_returns.py.
-/
import Derived.Test.YtpmfohhpaoagfaaMQ
import Derived.Test.YtpmfohhpaoagfaaMN
import Derived.Test.YtpmfohhpaoagfaaMA
import Derived.Test.YtpmfohhpaoagfaaMR
namespace Go.Proofs.Ytpmfohhpaoagfaa
open Go Go.RowKit Go.Proofs
/-- 1 or -1. -/
def sgn (k : Nat) : Rat := if k % 2 = 0 then 1 else -1
theorem sgn_succ (k : Nat) : sgn (k + 1) = -sgn k := by
  unfold sgn
  rcases Nat.mod_two_eq_zero_or_one k with h | h
  · have h2 : (k + 1) % 2 = 1 := by omega
    rw [h, h2]
    show (-1 : Rat) = -1
    rfl
  · have h2 : (k + 1) % 2 = 0 := by omega
    rw [h, h2]
    show (1 : Rat) = - -1
    rfl
theorem it_two (k : Nat) : itR 2 k (-1, 0) = ((k : Rat) - 1, (k : Rat)) := by
  induction k with
  | zero => simp only [itR]; exact Prod.ext (by show (-1 : Rat) = 0 - 1; grind) rfl
  | succ k ih =>
    have e : ((k + 1 : Nat) : Rat) = (k : Rat) + 1 := by push_cast; rfl
    simp only [itR, ih, e]
    exact Prod.ext (by show (k : Rat) = _; grind) (by show 2 * (k : Rat) - ((k : Rat) - 1) = _; grind)
theorem it_mtwo (k : Nat) : itR (-2) k (-1, 0) = (sgn k * ((k : Rat) - 1), -(sgn k * (k : Rat))) := by
  induction k with
  | zero => simp only [itR]; exact Prod.ext (by show (-1 : Rat) = 1 * (0 - 1); grind) (by show (0 : Rat) = -(1 * 0); grind)
  | succ k ih =>
    have e : ((k + 1 : Nat) : Rat) = (k : Rat) + 1 := by push_cast; rfl
    simp only [itR, ih, e, sgn_succ]
    exact Prod.ext (by show -(sgn k * (k : Rat)) = _; grind) (by show -2 * -(sgn k * (k : Rat)) - sgn k * ((k : Rat) - 1) = _; grind)
theorem it_m1 (q : Nat) : itR (-1) (3 * q) (-1, 0) = (-1, 0) := by
  induction q with
  | zero => rfl
  | succ q ih =>
    rw [show 3 * (q + 1) = 3 * q + 1 + 1 + 1 by omega]
    simp only [itR, ih]
    exact Prod.ext (by grind) (by grind)
theorem it_0 (q : Nat) : itR 0 (4 * q) (-1, 0) = (-1, 0) := by
  induction q with
  | zero => rfl
  | succ q ih =>
    rw [show 4 * (q + 1) = 4 * q + 1 + 1 + 1 + 1 by omega]
    simp only [itR, ih]
    exact Prod.ext (by grind) (by grind)
theorem it_1 (q : Nat) : itR 1 (6 * q) (-1, 0) = (-1, 0) := by
  induction q with
  | zero => rfl
  | succ q ih =>
    rw [show 6 * (q + 1) = 6 * q + 1 + 1 + 1 + 1 + 1 + 1 by omega]
    simp only [itR, ih]
    exact Prod.ext (by grind) (by grind)
theorem it_inv (t : Rat) (k : Nat) : (itR t k (-1, 0)).2 * (itR t k (-1, 0)).2 - t * (itR t k (-1, 0)).2 * (itR t k (-1, 0)).1 + (itR t k (-1, 0)).1 * (itR t k (-1, 0)).1 = 1 := by
  induction k with
  | zero => simp only [itR]; grind
  | succ k ih =>
    simp only [itR]
    generalize (itR t k (-1, 0)).1 = v at *
    generalize (itR t k (-1, 0)).2 = u at *
    grind
/-- Twice Chebyshev's numbers T, times powers of the denominator. -/
def nseq (P Q : Int) : Nat → Int × Int
  | 0 => (2, P)
  | k + 1 => ((nseq P Q k).2, P * (nseq P Q k).2 - Q * Q * (nseq P Q k).1)
theorem nseq_it (t : Rat) (k : Nat) : (t * (itR t k (-1, 0)).2 - 2 * (itR t k (-1, 0)).1) * (t.den : Rat) ^ k = ((nseq t.num t.den k).1 : Rat) ∧
    (t * (itR t (k + 1) (-1, 0)).2 - 2 * (itR t (k + 1) (-1, 0)).1) * (t.den : Rat) ^ (k + 1) = ((nseq t.num t.den k).2 : Rat) := by
  have hd := rat_den t
  induction k with
  | zero =>
    constructor
    · simp only [itR, nseq]
      show _ = (2 : Rat)
      grind
    · simp only [itR, nseq]
      rw [← hd]
      generalize (t.den : Rat) = q
      grind
  | succ k ih =>
    refine ⟨ih.2, ?_⟩
    obtain ⟨h1, h2⟩ := ih
    simp only [nseq]
    have e : ((t.num * (nseq t.num t.den k).2 - (t.den : Int) * (t.den : Int) * (nseq t.num t.den k).1 : Int) : Rat) = (t.num : Rat) * ((nseq t.num t.den k).2 : Rat) - (t.den : Rat) * (t.den : Rat) * ((nseq t.num t.den k).1 : Rat) := by push_cast; rfl
    rw [e, ← h1, ← h2, ← hd]
    simp only [itR]
    generalize (itR t k (-1, 0)).1 = v
    generalize (itR t k (-1, 0)).2 = u
    generalize (t.den : Rat) = q
    grind
theorem nseq_mod (P Q : Int) (k : Nat) : (∃ m, (nseq P Q (k + 1)).1 = P ^ (k + 1) + Q * m) ∧ ∃ m, (nseq P Q (k + 1)).2 = P ^ (k + 2) + Q * m := by
  induction k with
  | zero =>
    refine ⟨⟨0, by simp only [nseq]; grind⟩, ⟨-(Q * 2), ?_⟩⟩
    simp only [nseq]
    grind
  | succ k ih =>
    refine ⟨ih.2, ?_⟩
    obtain ⟨⟨m1, h1⟩, ⟨m2, h2⟩⟩ := ih
    refine ⟨P * m2 - Q * (nseq P Q (k + 1)).1, ?_⟩
    show P * (nseq P Q (k + 1)).2 - Q * Q * (nseq P Q (k + 1)).1 = _
    rw [h2]
    grind
theorem nseq_grow (P : Int) (hP : 3 ≤ P.natAbs) (k : Nat) : 2 ≤ (nseq P 1 k).1.natAbs ∧ (nseq P 1 k).1.natAbs < (nseq P 1 k).2.natAbs := by
  induction k with
  | zero => simp only [nseq]; omega
  | succ k ih =>
    simp only [nseq]
    obtain ⟨h1, h2⟩ := ih
    refine ⟨by omega, ?_⟩
    generalize (nseq P 1 k).1 = x at *
    generalize (nseq P 1 k).2 = y at *
    have h3 : (P * y).natAbs = P.natAbs * y.natAbs := Int.natAbs_mul _ _
    have h4 : 3 * y.natAbs ≤ P.natAbs * y.natAbs := Nat.mul_le_mul_right _ hP
    have h5 : 1 * 1 * x = x := by grind
    rw [h5]
    generalize P * y = z at *
    omega
/-- Where a power's trace is two, the trace is a whole number from -2 to 2. -/
theorem tau_two {t : Rat} {k : Nat} (hk : 1 ≤ k) (h : t * powU k t - 2 * powV k t = 2) : ∃ T : Int, t = (T : Rat) ∧ -2 ≤ T ∧ T ≤ 2 := by
  have h1 := (nseq_it t k).1
  have h2 : (t * (itR t k (-1, 0)).2 - 2 * (itR t k (-1, 0)).1) = 2 := h
  rw [h2] at h1
  have h3 : (nseq t.num t.den k).1 = 2 * (t.den : Int) ^ k := by
    have e : ((2 * (t.den : Int) ^ k : Int) : Rat) = 2 * (t.den : Rat) ^ k := by push_cast; rfl
    exact_mod_cast (e.trans h1).symm
  obtain ⟨j, rfl⟩ : ∃ j, k = j + 1 := ⟨k - 1, by omega⟩
  obtain ⟨m, hm⟩ := (nseq_mod t.num t.den j).1
  have hdvd : (t.den : Int) ∣ t.num ^ (j + 1) := by
    refine ⟨2 * (t.den : Int) ^ j - m, ?_⟩
    rw [h3, Int.pow_succ] at hm
    grind
  have hn : t.den ∣ t.num.natAbs ^ (j + 1) := by
    have := Int.natAbs_dvd_natAbs.2 hdvd
    rwa [Int.natAbs_pow, Int.natAbs_natCast] at this
  have hcop : Nat.Coprime t.den (t.num.natAbs ^ (j + 1)) := Nat.Coprime.pow_right _ t.reduced.symm
  have hone : t.den = 1 := Nat.Coprime.eq_one_of_dvd hcop hn
  refine ⟨t.num, ?_, ?_⟩
  · have := rat_den t
    rw [hone] at this
    simpa using this
  · rw [hone] at h3
    have h4 : (nseq t.num 1 (j + 1)).1 = 2 := by
      have : (2 : Int) * ((1 : Nat) : Int) ^ (j + 1) = 2 := by rw [show ((1 : Nat) : Int) = 1 from rfl, Int.one_pow]; rfl
      rw [← this]
      exact h3
    rcases Nat.lt_or_ge t.num.natAbs 3 with h5 | h5
    · omega
    · have := nseq_grow t.num h5 j
      have e : (nseq t.num 1 (j + 1)).1 = (nseq t.num 1 j).2 := rfl
      rw [e] at h4
      rw [h4] at this
      have := this.1
      omega
theorem det_zero {A B C D y w : Rat} (h1 : A * y + B * w = 0) (h2 : C * y + D * w = 0) (hr : ¬ (y = 0 ∧ w = 0)) : A * D - B * C = 0 := by
  by_cases hy : y = 0
  · have hw : w ≠ 0 := fun e => hr ⟨hy, e⟩
    grind
  · grind
theorem powUV_inv (t : Rat) (k : Nat) : powU k t * powU k t - t * powU k t * powV k t + powV k t * powV k t = 1 := it_inv t k
theorem natCast_pos {k : Nat} (hk : 1 ≤ k) : (k : Rat) ≠ 0 := by
  intro h
  have : k = 0 := by exact_mod_cast h
  omega
/-- Where the trace is a whole number from -2 to 2: the two numbers of the power k. -/
theorem pw_2 (k : Nat) : powU k 2 = (k : Rat) ∧ powV k 2 = (k : Rat) - 1 := by unfold powU powV; rw [it_two]; exact ⟨rfl, rfl⟩
theorem pw_m2 (k : Nat) : powU k (-2) = -(sgn k * (k : Rat)) ∧ powV k (-2) = sgn k * ((k : Rat) - 1) := by unfold powU powV; rw [it_mtwo]; exact ⟨rfl, rfl⟩
theorem pw_m1 (k : Nat) : (k % 3 = 0 → powU k (-1) = 0 ∧ powV k (-1) = -1) ∧ (¬ k % 3 = 0 → -1 * powU k (-1) - 2 * powV k (-1) ≠ 2) := by
  unfold powU powV
  have hk : k = 3 * (k / 3) + k % 3 := by omega
  have h3 : k % 3 = 0 ∨ k % 3 = 1 ∨ k % 3 = 2 := by omega
  generalize k / 3 = q at hk
  generalize k % 3 = r at *
  subst hk
  rcases h3 with rfl | rfl | rfl <;> simp only [itR, it_m1, Nat.add_zero] <;> grind
theorem pw_0 (k : Nat) : (k % 4 = 0 → powU k 0 = 0 ∧ powV k 0 = -1) ∧ (¬ k % 4 = 0 → 0 * powU k 0 - 2 * powV k 0 ≠ 2) := by
  unfold powU powV
  have hk : k = 4 * (k / 4) + k % 4 := by omega
  have h3 : k % 4 = 0 ∨ k % 4 = 1 ∨ k % 4 = 2 ∨ k % 4 = 3 := by omega
  generalize k / 4 = q at hk
  generalize k % 4 = r at *
  subst hk
  rcases h3 with rfl | rfl | rfl | rfl <;> simp only [itR, it_0, Nat.add_zero] <;> grind
theorem pw_1 (k : Nat) : (k % 6 = 0 → powU k 1 = 0 ∧ powV k 1 = -1) ∧ (¬ k % 6 = 0 → 1 * powU k 1 - 2 * powV k 1 ≠ 2) := by
  unfold powU powV
  have hk : k = 6 * (k / 6) + k % 6 := by omega
  have h3 : k % 6 = 0 ∨ k % 6 = 1 ∨ k % 6 = 2 ∨ k % 6 = 3 ∨ k % 6 = 4 ∨ k % 6 = 5 := by omega
  generalize k / 6 = q at hk
  generalize k % 6 = r at *
  subst hk
  rcases h3 with rfl | rfl | rfl | rfl | rfl | rfl <;> simp only [itR, it_1, Nat.add_zero] <;> grind
/-- What a power is: u times the matrix less v times one. -/
def isOne (a b c d u v : Rat) : Prop := u * a - v = 1 ∧ u * b = 0 ∧ u * c = 0 ∧ u * d - v = 1
theorem plain_iff {a b c d : Rat} : plainM a b c d = true ↔ b = 0 ∧ c = 0 ∧ a = d := by unfold plainM; rw [decide_eq_true_iff]
/-- The law of orders. -/
theorem one_iff {a b c d : Rat} (hdet : a * d - b * c = 1) {k : Nat} (hk : 1 ≤ k) : isOne a b c d (powU k (a + d)) (powV k (a + d)) ↔ (0 < ordM a b c d ∧ (k : Int) % ordM a b c d = 0) := by
  have hkr := natCast_pos hk
  by_cases t2 : a + d = 2
  · have o := @ord_2 a b c d (by rw [t2]; rfl)
    obtain ⟨eu, ev⟩ := pw_2 k
    rw [t2, eu, ev, o]
    unfold isOne
    by_cases hp : plainM a b c d = true
    · rw [if_pos hp]
      obtain ⟨rfl, rfl, rfl⟩ := plain_iff.1 hp
      exact ⟨fun _ => ⟨by omega, by omega⟩, fun _ => by refine ⟨?_, ?_, ?_, ?_⟩ <;> grind⟩
    · rw [if_neg hp]
      refine ⟨fun h => absurd (plain_iff.2 ?_) hp, fun h => absurd h.1 (by omega)⟩
      obtain ⟨h1, h2, h3, h4⟩ := h
      refine ⟨?_, ?_, ?_⟩ <;> grind
  · by_cases m2 : a + d = -2
    · have o := @ord_m2 a b c d (by rw [m2]; rfl)
      obtain ⟨eu, ev⟩ := pw_m2 k
      rw [m2, eu, ev, o]
      unfold isOne
      by_cases hp : plainM a b c d = true
      · rw [if_pos hp]
        obtain ⟨rfl, rfl, rfl⟩ := plain_iff.1 hp
        have ha : a = -1 := by grind
        subst ha
        unfold sgn
        by_cases he : k % 2 = 0
        · rw [if_pos he]
          exact ⟨fun _ => ⟨by omega, by omega⟩, fun _ => by refine ⟨?_, ?_, ?_, ?_⟩ <;> grind⟩
        · rw [if_neg he]
          refine ⟨fun h => ?_, fun h => absurd h.2 (by omega)⟩
          have := h.1
          grind
      · rw [if_neg hp]
        refine ⟨fun h => absurd (plain_iff.2 ?_) hp, fun h => absurd h.1 (by omega)⟩
        obtain ⟨h1, h2, h3, h4⟩ := h
        have hs : sgn k * sgn k = 1 := by unfold sgn; split <;> grind
        refine ⟨?_, ?_, ?_⟩ <;> grind
    · have key : ∀ (n : Nat), 0 < n → ordM a b c d = (n : Int) → (k % n = 0 → powU k (a + d) = 0 ∧ powV k (a + d) = -1) → (¬ k % n = 0 → (a + d) * powU k (a + d) - 2 * powV k (a + d) ≠ 2) →
          (isOne a b c d (powU k (a + d)) (powV k (a + d)) ↔ (0 < ordM a b c d ∧ (k : Int) % ordM a b c d = 0)) := by
        intro n hn ho h1 h2
        rw [ho]
        constructor
        · intro h
          refine ⟨by omega, ?_⟩
          by_cases hm : k % n = 0
          · exact_mod_cast hm
          · refine absurd ?_ (h2 hm)
            obtain ⟨g1, _, _, g4⟩ := h
            grind
        · rintro ⟨_, h⟩
          have hm : k % n = 0 := by exact_mod_cast h
          obtain ⟨e1, e2⟩ := h1 hm
          unfold isOne
          rw [e1, e2]
          refine ⟨?_, ?_, ?_, ?_⟩ <;> grind
      by_cases t1 : a + d = -1
      · refine key 3 (by omega) (ord_m1 (by rw [t1]; rfl)) ?_ ?_ <;> rw [t1]
        · exact (pw_m1 k).1
        · exact (pw_m1 k).2
      · by_cases t0 : a + d = 0
        · refine key 4 (by omega) (ord_0 (by rw [t0]; rfl)) ?_ ?_ <;> rw [t0]
          · exact (pw_0 k).1
          · exact (pw_0 k).2
        · by_cases tt : a + d = 1
          · refine key 6 (by omega) (ord_1 (by rw [tt]; rfl)) ?_ ?_ <;> rw [tt]
            · exact (pw_1 k).1
            · exact (pw_1 k).2
          · have o : ordM a b c d = 0 := by unfold ordM; rw [if_neg t2, if_neg m2, if_neg t1, if_neg t0, if_neg tt]
            rw [o]
            refine ⟨fun h => ?_, fun h => absurd h.1 (by omega)⟩
            obtain ⟨g1, _, _, g4⟩ := h
            obtain ⟨T, e, l1, l2⟩ := tau_two (t := a + d) hk (by grind)
            have hT : T = -2 ∨ T = -1 ∨ T = 0 ∨ T = 1 ∨ T = 2 := by omega
            rcases hT with rfl | rfl | rfl | rfl | rfl
            · exact absurd e m2
            · exact absurd e t1
            · exact absurd e t0
            · exact absurd e tt
            · exact absurd e t2
/-- Does the power u, v give the ray back? -/
def isBack (a b c d u v y w : Rat) : Prop := (u * a - v) * y + u * b * w = y ∧ u * c * y + (u * d - v) * w = w
theorem tau_of_back {a b c d y w : Rat} (hdet : a * d - b * c = 1) {k : Nat} (hr : ¬ (y = 0 ∧ w = 0)) (h : isBack a b c d (powU k (a + d)) (powV k (a + d)) y w) : (a + d) * powU k (a + d) - 2 * powV k (a + d) = 2 := by
  have hi := powUV_inv (a + d) k
  obtain ⟨h1, h2⟩ := h
  generalize powU k (a + d) = u at *
  generalize powV k (a + d) = v at *
  have := det_zero (A := u * a - v - 1) (B := u * b) (C := u * c) (D := u * d - v - 1) (by grind) (by grind) hr
  grind
theorem ord_cases {a b c d : Rat} (T : Int) (h : a + d = (T : Rat)) (h1 : -2 ≤ T) (h2 : T ≤ 2) (ho : ¬ 0 < ordM a b c d) : (T = 2 ∨ T = -2) ∧ ¬ plainM a b c d = true := by
  have hT : T = -2 ∨ T = -1 ∨ T = 0 ∨ T = 1 ∨ T = 2 := by omega
  rcases hT with rfl | rfl | rfl | rfl | rfl
  · refine ⟨.inr rfl, fun hp => ho ?_⟩
    rw [ord_m2 h, if_pos hp]
    omega
  · rw [ord_m1 h] at ho; omega
  · rw [ord_0 h] at ho; omega
  · rw [ord_1 h] at ho; omega
  · refine ⟨.inl rfl, fun hp => ho ?_⟩
    rw [ord_2 h, if_pos hp]
    omega
theorem back_of_one {a b c d u v : Rat} (h : isOne a b c d u v) (y w : Rat) : isBack a b c d u v y w := by
  obtain ⟨h1, h2, h3, h4⟩ := h
  unfold isBack
  rw [h1, h2, h3, h4]
  constructor <;> grind
theorem sgn_sq (k : Nat) : sgn k * sgn k = 1 := by unfold sgn; split <;> grind
/-- The law of a ray's return. -/
theorem back_iff {a b c d y w : Rat} (hdet : a * d - b * c = 1) {k : Nat} (hk : 1 ≤ k) : isBack a b c d (powU k (a + d)) (powV k (a + d)) y w ↔ (0 < agM a b c d y w ∧ (k : Int) % agM a b c d y w = 0) := by
  have hkr := natCast_pos hk
  unfold agM
  by_cases h0 : y = 0 ∧ w = 0
  · rw [if_pos h0]
    obtain ⟨rfl, rfl⟩ := h0
    refine ⟨fun _ => ⟨by omega, by omega⟩, fun _ => ?_⟩
    unfold isBack
    constructor <;> grind
  · rw [if_neg h0]
    by_cases ho : 0 < ordM a b c d
    · rw [if_pos ho, ← one_iff hdet hk]
      refine ⟨fun h => ?_, fun h => back_of_one h y w⟩
      have ht := tau_of_back hdet h0 h
      obtain ⟨T, e, l1, l2⟩ := tau_two hk ht
      have hT : T = -2 ∨ T = -1 ∨ T = 0 ∨ T = 1 ∨ T = 2 := by omega
      have key : ∀ (t : Rat) (n : Nat), a + d = t → (k % n = 0 → powU k t = 0 ∧ powV k t = -1) → (¬ k % n = 0 → t * powU k t - 2 * powV k t ≠ 2) → isOne a b c d (powU k (a + d)) (powV k (a + d)) := by
        intro t n e2 g1 g2
        rw [e2] at ht ⊢
        by_cases hm : k % n = 0
        · obtain ⟨e3, e4⟩ := g1 hm
          unfold isOne
          rw [e3, e4]
          refine ⟨?_, ?_, ?_, ?_⟩ <;> grind
        · exact absurd ht (g2 hm)
      rcases hT with rfl | rfl | rfl | rfl | rfl
      · have e2 : a + d = -2 := e
        have hp : plainM a b c d = true := by
          cases hp : plainM a b c d with
          | true => rfl
          | false => rw [ord_m2 e, hp] at ho; exact absurd ho (by decide)
        obtain ⟨rfl, rfl, rfl⟩ := plain_iff.1 hp
        have ha : a = -1 := by grind
        subst ha
        obtain ⟨eu, ev⟩ := pw_m2 k
        obtain ⟨g1, g2⟩ := h
        rw [e2, eu, ev] at g1 g2 ⊢
        have hs := sgn_sq k
        have hs1 : sgn k = 1 := by
          have q1 : sgn k * y = y := by grind
          have q2 : sgn k * w = w := by grind
          by_cases hy : y = 0
          · have hw : w ≠ 0 := fun e => h0 ⟨hy, e⟩
            grind
          · grind
        rw [hs1]
        unfold isOne
        refine ⟨?_, ?_, ?_, ?_⟩ <;> grind
      · exact key (-1) 3 e (pw_m1 k).1 (pw_m1 k).2
      · exact key 0 4 e (pw_0 k).1 (pw_0 k).2
      · exact key 1 6 e (pw_1 k).1 (pw_1 k).2
      · have e2 : a + d = 2 := e
        have hp : plainM a b c d = true := by
          cases hp : plainM a b c d with
          | true => rfl
          | false => rw [ord_2 e, hp] at ho; exact absurd ho (by decide)
        obtain ⟨rfl, rfl, rfl⟩ := plain_iff.1 hp
        obtain ⟨eu, ev⟩ := pw_2 k
        rw [e2, eu, ev]
        unfold isOne
        refine ⟨?_, ?_, ?_, ?_⟩ <;> grind
    · rw [if_neg ho]
      by_cases h1 : a * y + b * w = y ∧ c * y + d * w = w
      · rw [if_pos h1]
        refine ⟨fun _ => ⟨by omega, by omega⟩, fun _ => ?_⟩
        obtain ⟨g1, g2⟩ := h1
        have hd := det_zero (A := a - 1) (B := b) (C := c) (D := d - 1) (by grind) (by grind) h0
        have t2 : a + d = 2 := by grind
        obtain ⟨eu, ev⟩ := pw_2 k
        rw [t2, eu, ev]
        unfold isBack
        constructor <;> grind
      · rw [if_neg h1]
        by_cases h2 : a * y + b * w = -y ∧ c * y + d * w = -w
        · rw [if_pos h2]
          obtain ⟨g1, g2⟩ := h2
          have hd := det_zero (A := a + 1) (B := b) (C := c) (D := d + 1) (by grind) (by grind) h0
          have t2 : a + d = -2 := by grind
          obtain ⟨eu, ev⟩ := pw_m2 k
          rw [t2, eu, ev]
          unfold isBack sgn
          by_cases he : k % 2 = 0
          · rw [if_pos he]
            exact ⟨fun _ => ⟨by omega, by omega⟩, fun _ => by constructor <;> grind⟩
          · rw [if_neg he]
            refine ⟨fun h => ?_, fun h => absurd h.2 (by omega)⟩
            obtain ⟨q1, q2⟩ := h
            exact absurd ⟨by grind, by grind⟩ h0
        · rw [if_neg h2]
          refine ⟨fun h => ?_, fun h => absurd h.1 (by omega)⟩
          have ht := tau_of_back hdet h0 h
          obtain ⟨T, e, l1, l2⟩ := tau_two hk ht
          obtain ⟨hT, _⟩ := ord_cases T e l1 l2 ho
          obtain ⟨q1, q2⟩ := h
          rcases hT with rfl | rfl
          · have e2 : a + d = 2 := e
            obtain ⟨eu, ev⟩ := pw_2 k
            rw [e2, eu, ev] at q1 q2
            exact absurd ⟨by grind, by grind⟩ h1
          · have e2 : a + d = -2 := e
            obtain ⟨eu, ev⟩ := pw_m2 k
            rw [e2, eu, ev] at q1 q2
            unfold sgn at q1 q2
            by_cases he : k % 2 = 0
            · rw [if_pos he] at q1 q2
              exact absurd ⟨by grind, by grind⟩ h2
            · rw [if_neg he] at q1 q2
              have hd := det_zero (A := (k : Rat) * a + ((k : Rat) - 1) - 1) (B := (k : Rat) * b) (C := (k : Rat) * c) (D := (k : Rat) * d + ((k : Rat) - 1) - 1) (by grind) (by grind) h0
              grind
end Go.Proofs.Ytpmfohhpaoagfaa
namespace Go.Proofs.Ytpmfohhpaoagfaa
open Go Go.RowKit Go.Proofs
/-- A value of api.Matrix, of api.Ray, with limbs of whatever number. -/
def RawM (w : World) (v : Value) : Prop :=
  ∃ v1 v2 v3 v4 v5 v6 v7 v8 v9 v10 v11 v12 v13 v14 v15 v16, v = .agg #[v1, v2, v3, v4, v5, v6, v7, v8, v9, v10, v11, v12, v13, v14, v15, v16] ∧ RawF w (.agg #[v1, v2, v3, v4]) ∧ RawF w (.agg #[v5, v6, v7, v8]) ∧ RawF w (.agg #[v9, v10, v11, v12]) ∧ RawF w (.agg #[v13, v14, v15, v16])
def RawY (w : World) (v : Value) : Prop :=
  ∃ v1 v2 v3 v4 v5 v6 v7 v8, v = .agg #[v1, v2, v3, v4, v5, v6, v7, v8] ∧ RawF w (.agg #[v1, v2, v3, v4]) ∧ RawF w (.agg #[v5, v6, v7, v8])
end Go.Proofs.Ytpmfohhpaoagfaa
namespace Go.Proofs.Ytpmfohhpaoagfaa
open Go Go.RowKit Go.Proofs
theorem fr_load {P : Program} {S : World → Value → Prop} {o : Oper} {a : Act} {W : World} {X : Prop} {c : Prop} [Decidable c] (hw : c) (ty : TypeId) (x : Operand) (ho : o.op = .load ty x)
    (g : Nat) (hx : a.eval x = .pointer (some ⟨g, 0, none⟩)) (t : TypeId) (cs : Array Value) (fr : Nat × Nat) (d : TypeDesc) (hg : W.heap[g]? = some (.cells cs t fr))
    (hu : P.underlying ty = some d) (hd : (match d with | .struct _ | .array _ _ => true | _ => false) = true) (hi : (P.info? ty).map (·.size) = some cs.size)
    (h : S W (.agg cs)) : if c then givesV P S ((execOp a.eval o).run P W) else X := by
  rw [if_pos hw]
  unfold execOp
  simp only [ho, hx, Instr.loadAt, Instr.sureAddr, Sem.run_bind, Sem.run_pure, Result.andThen_ok, run_loadVar_row W g t ty cs fr d hg hu hd hi]
  exact h
end Go.Proofs.Ytpmfohhpaoagfaa
namespace Go.Proofs.Ytpmfohhpaoagfaa
open Go Go.RowKit Go.Proofs
/-- A slice of two numbers. -/
def SlI (x y : Int) (W : World) (v : Value) : Prop := ∃ g, v = .slice (some ⟨g, 0, none⟩) 2 2 ∧ W.heap[g]? = some (.cells #[.int .i64 x, .int .i64 y] 3 (0, 0))
theorem st_slI {ss : List FSpec} (x y : Int) (h : StableAll Ext ss) : StableAll Ext (.pred (SlI x y) :: ss) := ⟨fun _ _ _ e h => by obtain ⟨g, h1, h2⟩ := h; exact ⟨g, h1, e.blk h2⟩, h⟩
theorem st_byV {ss : List FSpec} (s : Int) (h : StableAll Ext ss) : StableAll Ext (.pred (fun _ v => ByV s v) :: ss) := ⟨fun _ _ _ _ h => h, h⟩
theorem again_no (v r : Value) (oa ob oc od oy ou : Option Rat) (w : World) (h : AnyM w v oa ob oc od) (hr : AnyY w r oy ou) (hk : okM oa ob oc od = false ∨ okY oy ou = false) :
    Calls Try.prog 19 #[v, r] w fun e w' => e = .returned (.tuple #[.int .i64 0, .int .i64 1]) ∧ Ext w w' := again_refused v r oa ob oc od oy ou w h hr hk
theorem order_no (v : Value) (oa ob oc od : Option Rat) (w : World) (h : AnyM w v oa ob oc od) (hk : okM oa ob oc od = false) :
    Calls Try.prog 18 #[v] w fun e w' => e = .returned (.tuple #[.int .i64 0, .int .i64 1]) ∧ Ext w w' := by
  have h2 := order_c v oa ob oc od w h
  have e1 : ordE oa ob oc od = 1 := by unfold ordE; rw [hk]; rfl
  have e2 : ordO oa ob oc od = 0 := by
    cases oa <;> cases ob <;> cases oc <;> cases od <;> first | rfl | skip
    rename_i a b c d
    show (if a * d - b * c = 1 then ordM a b c d else 0) = _
    rw [if_neg (by simpa [okM] using hk)]
  rw [e1, e2] at h2
  exact h2
theorem order_yes (v : Value) (a b c d : Rat) (w : World) (h : AnyM w v (some a) (some b) (some c) (some d)) (hk : a * d - b * c = 1) :
    Calls Try.prog 18 #[v] w fun e w' => e = .returned (.tuple #[.int .i64 (ordM a b c d), .int .i64 0]) ∧ Ext w w' := by
  have h2 := order_c v _ _ _ _ w h
  have e1 : ordE (some a) (some b) (some c) (some d) = 0 := by unfold ordE; rw [show okM (some a) (some b) (some c) (some d) = true by simpa [okM] using hk]; rfl
  have e2 : ordO (some a) (some b) (some c) (some d) = ordM a b c d := by
    show (if a * d - b * c = 1 then ordM a b c d else 0) = _
    rw [if_pos hk]
  rw [e1, e2] at h2
  exact h2
theorem powE_ok {k : Nat} {a b c d : Rat} (h : powE k a b c d = 0) : powOA k a b c d = some (pwA k a d) ∧ powOB k a b c d = some (pwX k a d b) ∧ powOC k a b c d = some (pwX k a d c) ∧ powOD k a b c d = some (pwA k d a) := by
  unfold powE fineE at h
  unfold powOA powOB powOC powOD fineO
  cases hf : fine4 (pwA k a d) (pwX k a d b) (pwX k a d c) (pwA k d a) with
  | true => exact ⟨rfl, rfl, rfl, rfl⟩
  | false => rw [hf] at h; exact absurd h (by decide)
theorem thE_ok {a b c d y u : Rat} (h : thE (some a) (some b) (some c) (some d) (some y) (some u) = 0) : thY (some a) (some b) (some c) (some d) (some y) (some u) = some (a * y + b * u) ∧ thU (some a) (some b) (some c) (some d) (some y) (some u) = some (c * y + d * u) ∧ a * d - b * c = 1 := by
  have e1 : (if a * d - b * c = 1 then (if thOk (a * y + b * u) (c * y + d * u) then (0 : Int) else 4) else 1) = 0 := h
  by_cases hd : a * d - b * c = 1
  · rw [if_pos hd] at e1
    cases ht : thOk (a * y + b * u) (c * y + d * u) with
    | false => rw [ht] at e1; exact absurd e1 (by decide)
    | true =>
      refine ⟨?_, ?_, hd⟩
      · show (if a * d - b * c = 1 then (if thOk (a * y + b * u) (c * y + d * u) then some (a * y + b * u) else none) else none) = _
        rw [if_pos hd, ht]; rfl
      · show (if a * d - b * c = 1 then (if thOk (a * y + b * u) (c * y + d * u) then some (c * y + d * u) else none) else none) = _
        rw [if_pos hd, ht]; rfl
  · rw [if_neg hd] at e1; exact absurd e1 (by decide)
theorem one_dec {a b c d : Rat} (hdet : a * d - b * c = 1) {k : Nat} (hk : 1 ≤ k) : decide (pwA k a d = 1 ∧ pwX k a d b = 0 ∧ pwX k a d c = 0 ∧ pwA k d a = 1) = decide (0 < ordM a b c d ∧ (k : Int) % ordM a b c d = 0) := by
  have h := one_iff hdet hk
  unfold isOne at h
  have e : pwA k d a = powU k (a + d) * d - powV k (a + d) := by unfold pwA; rw [show d + a = a + d by grind]
  rw [e]
  unfold pwA pwX
  exact decide_eq_decide.2 h
theorem back_dec {a b c d y w : Rat} (hdet : a * d - b * c = 1) {k : Nat} (hk : 1 ≤ k) : decide (pwA k a d * y + pwX k a d b * w = y ∧ pwX k a d c * y + pwA k d a * w = w) = decide (0 < agM a b c d y w ∧ (k : Int) % agM a b c d y w = 0) := by
  have h := back_iff (y := y) (w := w) hdet hk
  unfold isBack at h
  have e : pwA k d a = powU k (a + d) * d - powV k (a + d) := by unfold pwA; rw [show d + a = a + d by grind]
  rw [e]
  unfold pwA pwX
  exact decide_eq_decide.2 h
theorem ordM_nonneg (a b c d : Rat) : 0 ≤ ordM a b c d ∧ ordM a b c d ≤ 6 := by
  unfold ordM
  split
  · split <;> omega
  · split
    · split <;> omega
    · split
      · omega
      · split
        · omega
        · split <;> omega
theorem agM_facts (a b c d y u : Rat) : 0 ≤ agM a b c d y u ∧ agM a b c d y u ≤ 6 ∧ (0 < ordM a b c d → 0 < agM a b c d y u ∧ ordM a b c d % agM a b c d y u = 0) := by
  have ho := ordM_nonneg a b c d
  unfold agM
  split
  · exact ⟨by omega, by omega, fun _ => ⟨by omega, Int.emod_one _⟩⟩
  · split
    · exact ⟨by omega, by omega, fun h => ⟨h, Int.emod_self⟩⟩
    · rename_i hn
      split
      · exact ⟨by omega, by omega, fun h => absurd h hn⟩
      · split
        · exact ⟨by omega, by omega, fun h => absurd h hn⟩
        · exact ⟨by omega, by omega, fun h => absurd h hn⟩
end Go.Proofs.Ytpmfohhpaoagfaa
