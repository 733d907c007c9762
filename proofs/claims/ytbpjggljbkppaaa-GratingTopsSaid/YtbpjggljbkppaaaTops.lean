/-
  Tops under turning: plain lists.
-/
import Derived.Test.YtbpjggljbkppaaaTopsK
namespace Go.Proofs.Ytbpjggljbkppaaa
open Go Go.RowKit Go.Proofs
/-- Turned round by some places. -/
def rot (xs : List Nat) (b i : Nat) : Nat := xs.getD ((i + b) % xs.length) 0
def rots (xs : List Nat) (b k : Nat) : List Nat := (List.range k).map (rot xs b)
theorem rots_length (xs : List Nat) (b k : Nat) : (rots xs b k).length = k := by simp [rots]
theorem rots_getD (xs : List Nat) (b k i : Nat) (h : i < k) : (rots xs b k).getD i 0 = rot xs b i := by
  simp [rots, List.getD_eq_getElem?_getD, h]
theorem rots_next (xs : List Nat) (b k : Nat) : rots xs b (k + 1) = rots xs b k ++ [rot xs b k] := by
  simp [rots, List.range_succ]
theorem topB_rots (xs : List Nat) (b i : Nat) (hi : i < xs.length) : topB (rots xs b xs.length) i = topB xs ((i + b) % xs.length) := by
  have hn : 0 < xs.length := by omega
  unfold topB
  rw [rots_length, rots_getD _ _ _ _ hi, rots_getD _ _ _ _ (Nat.mod_lt _ hn), rots_getD _ _ _ _ (Nat.mod_lt _ hn)]
  unfold rot
  have e1 : ((i + xs.length - 1) % xs.length + b) % xs.length = ((i + b) % xs.length + xs.length - 1) % xs.length := by
    rw [Nat.mod_add_mod, Nat.add_sub_assoc hn, Nat.add_sub_assoc hn, Nat.mod_add_mod]
    congr 1
    omega
  have e2 : ((i + 1) % xs.length + b) % xs.length = ((i + b) % xs.length + 1) % xs.length := by
    rw [Nat.mod_add_mod, Nat.mod_add_mod]
    congr 1
    omega
  rw [e1, e2]
theorem range_turn (n b : Nat) (hb : b ≤ n) : ((List.range n).map fun i => (i + b) % n).Perm (List.range n) := by
  rcases Nat.lt_or_ge b n with h | h
  · obtain ⟨c, rfl⟩ : ∃ c, n = c + b := ⟨n - b, by omega⟩
    have e1 : (List.range (c + b)).map (fun i => (i + b) % (c + b)) = (List.range c).map (fun i => b + i) ++ List.range b := by
      rw [List.range_add, List.map_append, List.map_map]
      congr 1
      · apply List.map_congr_left
        intro i hi
        have := List.mem_range.1 hi
        rw [Nat.mod_eq_of_lt (by omega), Nat.add_comm]
      · conv => rhs; rw [← List.map_id (List.range b)]
        apply List.map_congr_left
        intro i hi
        have := List.mem_range.1 hi
        show (c + i + b) % (c + b) = i
        rw [show c + i + b = i + (c + b) by omega, Nat.add_mod_right, Nat.mod_eq_of_lt (by omega)]
    rw [e1, Nat.add_comm c b, List.range_add]
    exact List.perm_append_comm
  · obtain rfl : b = n := by omega
    have e1 : (List.range b).map (fun i => (i + b) % b) = List.range b := by
      conv => rhs; rw [← List.map_id (List.range b)]
      apply List.map_congr_left
      intro i hi
      have := List.mem_range.1 hi
      show (i + b) % b = i
      rw [Nat.add_mod_right, Nat.mod_eq_of_lt (by omega)]
    rw [e1]
theorem range_turn' (n b : Nat) (hn : 0 < n) : ((List.range n).map fun i => (i + b) % n).Perm (List.range n) := by
  have := range_turn n (b % n) (Nat.le_of_lt (Nat.mod_lt _ hn))
  simpa only [Nat.add_mod_mod] using this
theorem tops_rots_length (xs : List Nat) (b : Nat) : (tops (rots xs b xs.length) xs.length).length = (tops xs xs.length).length := by
  rcases Nat.eq_zero_or_pos xs.length with h0 | hn
  · rw [h0]; rfl
  · unfold tops
    rw [← List.countP_eq_length_filter, ← List.countP_eq_length_filter, ← (range_turn' xs.length b hn).countP_eq (topB xs), List.countP_map]
    apply List.countP_congr
    intro i hi
    show topB (rots xs b xs.length) i = true ↔ topB xs ((i + b) % xs.length) = true
    rw [topB_rots _ _ _ (List.mem_range.1 hi)]
theorem mem_tops {xs : List Nat} {k i : Nat} : i ∈ tops xs k ↔ i < k ∧ topB xs i = true := by simp [tops]
/-- A place found. -/
theorem tops_found (xs : List Nat) (b a : Nat) (ha : a ∈ tops xs xs.length) : ∃ i, i ∈ tops (rots xs b xs.length) xs.length ∧ (i + b) % xs.length = a := by
  obtain ⟨h1, h2⟩ := mem_tops.1 ha
  have hn : 0 < xs.length := by omega
  have := (range_turn' xs.length b hn).mem_iff.2 (List.mem_range.2 h1)
  obtain ⟨i, hi, he⟩ := List.mem_map.1 this
  have hi' := List.mem_range.1 hi
  refine ⟨i, mem_tops.2 ⟨hi', ?_⟩, he⟩
  rw [topB_rots _ _ _ hi', he]
  exact h2
theorem tops_split (xs : List Nat) (i n : Nat) (h : i < n) : ∃ r, tops xs n = tops xs i ++ (if topB xs i then [i] else []) ++ r ∧ ∀ x ∈ r, i < x := by
  obtain ⟨d, rfl⟩ : ∃ d, n = (i + 1) + d := ⟨n - (i + 1), by omega⟩
  refine ⟨((List.range d).map fun j => i + 1 + j).filter (topB xs), ?_, ?_⟩
  · rw [← tops_next]
    unfold tops
    rw [List.range_add, List.filter_append]
  · intro x hx
    obtain ⟨hx, _⟩ := List.mem_filter.1 hx
    obtain ⟨j, _, rfl⟩ := List.mem_map.1 hx
    omega
/-- A top stands in its place. -/
theorem tops_at (xs : List Nat) (i n : Nat) (h : i < n) (ht : topB xs i = true) : (tops xs i).length < (tops xs n).length ∧ (tops xs n).getD (tops xs i).length 0 = i := by
  obtain ⟨r, e, _⟩ := tops_split xs i n h
  rw [ht] at e
  rw [e]
  simp
theorem tops_not (xs : List Nat) (i n : Nat) (h : i < n) (ht : topB xs i = false) (hl : (tops xs i).length < (tops xs n).length) : (tops xs n).getD (tops xs i).length 0 ≠ i := by
  obtain ⟨r, e, hr⟩ := tops_split xs i n h
  rw [ht] at e
  simp only [Bool.false_eq_true, if_false, List.append_nil] at e
  rw [e] at hl ⊢
  have hl' : 0 < r.length := by simpa using hl
  obtain ⟨x, q, rfl⟩ := List.exists_cons_of_length_pos hl'
  have := hr x (by simp)
  simp
  omega
theorem tops_lt {xs : List Nat} {k : Nat} (j : Nat) (h : j < (tops xs k).length) : (tops xs k).getD j 0 < k := by
  have : (tops xs k).getD j 0 ∈ tops xs k := by
    have e : (tops xs k).getD j 0 = (tops xs k)[j] := by simp [h]
    rw [e]
    exact List.getElem_mem h
  exact (mem_tops.1 this).1
/-- No number but numbers, turned. -/
theorem rots_clean {xs : List Nat} (h : xs.any nanB = false) (b : Nat) (hn : 0 < xs.length) : (rots xs b xs.length).any nanB = false := by
  rw [List.any_eq_false] at h ⊢
  intro x hx
  obtain ⟨i, _, rfl⟩ := List.mem_map.1 hx
  refine h _ ?_
  unfold rot
  have hm := Nat.mod_lt (i + b) hn
  rw [show xs.getD ((i + b) % xs.length) 0 = xs[(i + b) % xs.length] by simp [hm]]
  exact List.getElem_mem hm
end Go.Proofs.Ytbpjggljbkppaaa
