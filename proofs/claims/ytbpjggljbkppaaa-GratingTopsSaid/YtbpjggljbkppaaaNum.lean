/-
  Limbs: lists of numbers below 2^32, the lowest first; the one list without noughts at its end. No program.
-/
import Derived.Test.YtbpjggljbkppaaaBase
namespace Go.Proofs.Ytbpjggljbkppaaa
open Go Go.RowKit
def val : List Nat → Nat
  | [] => 0
  | x :: l => x + 4294967296 * val l
def OkL (l : List Nat) : Prop := ∀ x ∈ l, x < 4294967296
def lim (n : Nat) : List Nat := if h : n = 0 then [] else n % 4294967296 :: lim (n / 4294967296)
termination_by n
decreasing_by exact Nat.div_lt_self (by omega) (by omega)
theorem lim_zero : lim 0 = [] := by unfold lim; simp
theorem lim_pos {n : Nat} (h : n ≠ 0) : lim n = n % 4294967296 :: lim (n / 4294967296) := by
  rw [lim]
  simp [h]
theorem lim_ind {P : Nat → Prop} (h0 : P 0) (h1 : ∀ n, n ≠ 0 → P (n / 4294967296) → P n) (n : Nat) : P n := by
  induction n using Nat.strongRecOn with
  | _ n ih =>
    by_cases h : n = 0
    · subst h; exact h0
    · exact h1 n h (ih _ (Nat.div_lt_self (by omega) (by omega)))
theorem val_lim (n : Nat) : val (lim n) = n := by
  refine lim_ind (P := fun n => val (lim n) = n) ?_ ?_ n
  · rw [lim_zero]; rfl
  · intro n h ih
    rw [lim_pos h, val, ih]
    omega
theorem lim_ok (n : Nat) : OkL (lim n) := by
  refine lim_ind (P := fun n => OkL (lim n)) ?_ ?_ n
  · rw [lim_zero]; intro x hx; cases hx
  · intro n h ih
    rw [lim_pos h]
    intro x hx
    cases hx with
    | head => omega
    | tail _ hx => exact ih x hx
theorem okL_cons {x : Nat} {l : List Nat} : OkL (x :: l) ↔ x < 4294967296 ∧ OkL l := by
  unfold OkL
  simp
theorem okL_append {l m : List Nat} : OkL (l ++ m) ↔ OkL l ∧ OkL m := by
  unfold OkL
  simp only [List.mem_append]
  constructor
  · intro h
    exact ⟨fun x hx => h x (.inl hx), fun x hx => h x (.inr hx)⟩
  · rintro ⟨h1, h2⟩ x (hx | hx)
    · exact h1 x hx
    · exact h2 x hx
theorem okL_take {l : List Nat} (h : OkL l) (n : Nat) : OkL (l.take n) := fun x hx => h x (List.mem_of_mem_take hx)
theorem okL_drop {l : List Nat} (h : OkL l) (n : Nat) : OkL (l.drop n) := fun x hx => h x (List.mem_of_mem_drop hx)
theorem okL_get {l : List Nat} (h : OkL l) (k : Nat) : l.getD k 0 < 4294967296 := by
  by_cases hk : k < l.length
  · have := h l[k] (List.getElem_mem hk)
    simpa [hk] using this
  · simp [List.getD_eq_getElem?_getD, List.getElem?_eq_none (show l.length ≤ k by omega)]
theorem val_append (l m : List Nat) : val (l ++ m) = val l + 4294967296 ^ l.length * val m := by
  induction l with
  | nil => simp [val]
  | cons x l ih =>
    simp only [List.cons_append, val, ih, List.length_cons, Nat.pow_succ]
    rw [Nat.mul_add, ← Nat.add_assoc, ← Nat.mul_assoc, Nat.mul_comm 4294967296 (4294967296 ^ l.length)]
theorem val_lt {l : List Nat} (h : OkL l) : val l < 4294967296 ^ l.length := by
  induction l with
  | nil => simp [val]
  | cons x l ih =>
    rw [okL_cons] at h
    have := ih h.2
    simp only [val, List.length_cons, Nat.pow_succ]
    omega
theorem val_replicate (n : Nat) : val (List.replicate n 0) = 0 := by
  induction n with
  | zero => rfl
  | succ n ih => simp [List.replicate_succ, val, ih]
theorem val_zero {l : List Nat} (h : val l = 0) : l = List.replicate l.length 0 := by
  induction l with
  | nil => rfl
  | cons x l ih =>
    simp only [val] at h
    have h1 : x = 0 := by omega
    have h2 : val l = 0 := by omega
    rw [List.length_cons, List.replicate_succ, ← ih h2, h1]
/-- The one list of a number. -/
theorem lim_val {l : List Nat} (h : OkL l) (hl : l = [] ∨ l.getLastD 0 ≠ 0) : lim (val l) = l := by
  induction l with
  | nil => exact lim_zero
  | cons x l ih =>
    rw [okL_cons] at h
    have hne : val (x :: l) ≠ 0 := by
      intro h0
      have hz := val_zero h0
      rcases hl with hl | hl
      · cases hl
      · apply hl
        rw [hz]
        simp [List.getLastD_eq_getLast?, List.getLast?_replicate]
    rw [lim_pos hne]
    have e1 : val (x :: l) % 4294967296 = x := by simp only [val]; omega
    have e2 : val (x :: l) / 4294967296 = val l := by simp only [val]; omega
    rw [e1, e2, ih h.2]
    rcases hl with hl | hl
    · cases hl
    · by_cases h0 : l = []
      · exact .inl h0
      · refine .inr ?_
        intro h1
        apply hl
        obtain ⟨y, m, rfl⟩ := List.exists_cons_of_ne_nil h0
        simpa [List.getLastD] using h1
theorem lim_length_le {n k : Nat} (h : n < 4294967296 ^ k) : (lim n).length ≤ k := by
  induction k generalizing n with
  | zero => simp at h; subst h; simp [lim_zero]
  | succ k ih =>
    by_cases h0 : n = 0
    · subst h0; simp [lim_zero]
    · rw [lim_pos h0, List.length_cons]
      have : n / 4294967296 < 4294967296 ^ k := by
        rw [Nat.pow_succ] at h
        exact Nat.div_lt_of_lt_mul (by rw [Nat.mul_comm]; exact h)
      have := ih this
      omega
theorem lt_pow_lim (n : Nat) : n < 4294967296 ^ (lim n).length := by
  have := val_lt (lim_ok n)
  rwa [val_lim] at this
theorem pow_lim_le {n : Nat} (h : n ≠ 0) : 4294967296 ^ ((lim n).length - 1) ≤ n := by
  have key : ∀ n, n ≠ 0 → 4294967296 ^ ((lim n).length - 1) ≤ n := by
    intro n
    refine lim_ind (P := fun n => n ≠ 0 → 4294967296 ^ ((lim n).length - 1) ≤ n) ?_ ?_ n
    · intro h; exact absurd rfl h
    · intro n h ih _
      rw [lim_pos h, List.length_cons]
      by_cases h0 : n / 4294967296 = 0
      · rw [h0, lim_zero]; simp; omega
      · have := ih h0
        have hl : (lim (n / 4294967296)).length ≠ 0 := by rw [lim_pos h0]; simp
        obtain ⟨k, hk⟩ : ∃ k, (lim (n / 4294967296)).length = k + 1 := ⟨_, (Nat.succ_pred_eq_of_ne_zero hl).symm⟩
        rw [hk] at this ⊢
        simp only [Nat.add_sub_cancel] at this ⊢
        rw [Nat.pow_succ]
        calc 4294967296 ^ k * 4294967296 ≤ n / 4294967296 * 4294967296 := Nat.mul_le_mul_right _ this
          _ ≤ n := Nat.div_mul_le_self _ _
  exact key n h
theorem lim_mono {m n : Nat} (h : m ≤ n) : (lim m).length ≤ (lim n).length := lim_length_le (Nat.lt_of_le_of_lt h (lt_pow_lim n))
theorem lim_length_val {l : List Nat} (h : OkL l) : (lim (val l)).length ≤ l.length := lim_length_le (val_lt h)
/-- Trimmed: the first limbs. -/
theorem take_lim {l : List Nat} (h : OkL l) : l.take (lim (val l)).length = lim (val l) := by
  induction l with
  | nil => simp [val, lim_zero]
  | cons x l ih =>
    have h2 := okL_cons.1 h
    by_cases h0 : val (x :: l) = 0
    · rw [h0, lim_zero]; rfl
    · rw [lim_pos h0]
      have e1 : val (x :: l) % 4294967296 = x := by simp only [val]; omega
      have e2 : val (x :: l) / 4294967296 = val l := by simp only [val]; omega
      rw [e1, e2, List.length_cons, List.take_succ_cons, ih h2.2]
theorem val_take_succ (l : List Nat) (k : Nat) (h : k < l.length) : val (l.take (k + 1)) = val (l.take k) + 4294967296 ^ k * l.getD k 0 := by
  rw [List.take_succ_eq_append_getElem h, val_append]
  simp [val, h, Nat.min_eq_left (Nat.le_of_lt h)]
theorem val_drop (l : List Nat) (k : Nat) : val l = val (l.take k) + 4294967296 ^ (l.take k).length * val (l.drop k) := by
  rw [← val_append, List.take_append_drop]
/-- Number of limbs of a number. -/
def nl (x : Int) : Nat := (lim x.natAbs).length
theorem lim_add (m n : Nat) : (lim (m + n)).length ≤ max (lim m).length (lim n).length + 1 := by
  refine lim_length_le ?_
  have h1 := lt_pow_lim m
  have h2 := lt_pow_lim n
  have h3 : 4294967296 ^ (lim m).length ≤ 4294967296 ^ max (lim m).length (lim n).length := Nat.pow_le_pow_right (by omega) (by omega)
  have h4 : 4294967296 ^ (lim n).length ≤ 4294967296 ^ max (lim m).length (lim n).length := Nat.pow_le_pow_right (by omega) (by omega)
  rw [Nat.pow_succ]
  omega
theorem lim_mul (m n : Nat) : (lim (m * n)).length ≤ (lim m).length + (lim n).length := by
  refine lim_length_le ?_
  rw [Nat.pow_add]
  exact Nat.mul_lt_mul'' (lt_pow_lim m) (lt_pow_lim n)
theorem lim_one_le {n : Nat} (h : n < 4294967296) : (lim n).length ≤ 1 := lim_length_le (by simpa using h)
/-- The highest place at which two lists part decides. -/
theorem val_lt_of {l m : List Nat} (hl : OkL l) (k : Nat) (hk : k < l.length) (hlen : l.length = m.length) (hd : l.drop (k + 1) = m.drop (k + 1)) (h : l.getD k 0 < m.getD k 0) : val l < val m := by
  have e1 := val_drop l (k + 1)
  have e2 := val_drop m (k + 1)
  rw [← hd] at e2
  have t1 : (l.take (k + 1)).length = k + 1 := by rw [List.length_take]; omega
  have t2 : (m.take (k + 1)).length = k + 1 := by rw [List.length_take]; omega
  rw [t1] at e1
  rw [t2] at e2
  have f1 := val_take_succ l k hk
  have f2 := val_take_succ m k (by omega)
  have g := val_lt (okL_take hl k)
  rw [List.length_take, Nat.min_eq_left (by omega)] at g
  have : 4294967296 ^ k * (l.getD k 0 + 1) ≤ 4294967296 ^ k * m.getD k 0 := Nat.mul_le_mul_left _ h
  rw [Nat.mul_add, Nat.mul_one] at this
  omega
theorem eq_of_lim {m n : Nat} (h : lim m = lim n) : m = n := by rw [← val_lim m, ← val_lim n, h]
theorem lt_of_lim_length {m n : Nat} (h : (lim m).length < (lim n).length) : m < n := by
  rcases Nat.lt_or_ge m n with h1 | h1
  · exact h1
  · have := lim_mono h1
    omega
def limV (l : List Nat) : List Value := l.map fun x : Nat => .int .u32 (x : Int)
theorem limV_length (l : List Nat) : (limV l).length = l.length := by simp [limV]
theorem limV_take (l : List Nat) (n : Nat) : limV (l.take n) = (limV l).take n := by simp [limV, List.map_take]
theorem limV_getD (l : List Nat) (j : Nat) (h : j < l.length) : (limV l).getD j undef = .int .u32 ((l.getD j 0 : Nat) : Int) := by simp [limV, h]
end Go.Proofs.Ytbpjggljbkppaaa
