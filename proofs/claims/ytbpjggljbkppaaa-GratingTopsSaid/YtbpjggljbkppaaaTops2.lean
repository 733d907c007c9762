/-
  GratingTops: what is found; Beyond; the law's short ways.
-/
import Derived.Test.YtbpjggljbkppaaaTops
import Derived.Test.YtbpjggljbkppaaaAlive
namespace Go.Proofs.Ytbpjggljbkppaaa
open Go Go.RowKit Go.Proofs
/-- Where the turned peaks come from. -/
def cameAt (xs : List Nat) (b q : Nat) : Nat := ((tops (rots xs b xs.length) xs.length).getD q 0 + b) % xs.length
def fdL (xs : List Nat) (b : Nat) : Nat → List Bool
  | 0 => List.replicate xs.length false
  | q + 1 => (fdL xs b q).set (cameAt xs b q) true
theorem fdL_length (xs : List Nat) (b q : Nat) : (fdL xs b q).length = xs.length := by
  induction q with
  | zero => simp [fdL]
  | succ q ih => simp [fdL, ih]
theorem fdL_true (xs : List Nat) (b q i : Nat) (hi : i < q) (hn : 0 < xs.length) : (fdL xs b q).getD (cameAt xs b i) false = true := by
  induction q with
  | zero => omega
  | succ q ih =>
    have hl := fdL_length xs b q
    have hc : cameAt xs b i < xs.length := Nat.mod_lt _ hn
    simp only [fdL]
    by_cases e : cameAt xs b q = cameAt xs b i
    · rw [e]
      simp [hl, hc]
    · have hiq : i < q := by
        rcases Nat.lt_or_ge i q with h | h
        · exact h
        · obtain rfl : i = q := by omega
          exact absurd rfl e
      have := ih hiq
      simpa [List.getD_eq_getElem?_getD, List.getElem?_set_ne e] using this
theorem fdL_all (xs : List Nat) (b a : Nat) (ha : a ∈ tops xs xs.length) : (fdL xs b (tops (rots xs b xs.length) xs.length).length).getD a false = true := by
  obtain ⟨i, hi, he⟩ := tops_found xs b a ha
  obtain ⟨j, hj, rfl⟩ := List.getElem_of_mem hi
  have hn : 0 < xs.length := by have := (mem_tops.1 ha).1; omega
  have := fdL_true xs b _ j hj hn
  unfold cameAt at this
  rw [show (tops (rots xs b xs.length) xs.length).getD j 0 = (tops (rots xs b xs.length) xs.length)[j] by simp [hj], he] at this
  exact this
def bools (l : List Bool) : List Value := l.map Value.bool
theorem bools_set (l : List Bool) (k : Nat) (x : Bool) : (bools l).set k (.bool x) = bools (l.set k x) := by simp [bools, List.map_set]
theorem infoBool : (Try.prog.info? 4).map (fun i => (i.zero, i.size, i.bytes)) = some (some (.bool false), 1, 1) := by kernel_rfl
theorem underBools : Try.prog.underlying 32 = some (.slice 4) := by kernel_rfl
theorem makeBools (n : Nat) (w : World) (h : n ≤ 1048576) : (Instr.makeSlice 32 (.int .i64 n) (.int .i64 n)).run Try.prog w = .ok (.slice (some ⟨w.heap.size, 0, none⟩) n n) (w.alloc (.cells (bools (List.replicate n false)).toArray 4)) := by
  obtain ⟨i0, hi, hz0, hz1, hz2⟩ := info_parts infoBool
  have := run_make w 32 4 i0 _ underBools hi hz0 .i64 .i64 n n (by omega) (by omega) (by rw [hz2]; omega) (by omega)
  rw [this, hz1]
  have e : madeCells (Value.bool false).cells ((n : Int).toNat * 1) = (bools (List.replicate n false)).toArray := by
    show madeCells #[.bool false] (n * 1) = _
    apply Array.ext
    · simp [madeCells, bools]
    · intro i h1 h2
      simp [madeCells, bools, Nat.mod_one]
  rw [e]
  rfl
theorem beyond1_c (b n : Nat) (w : World) (hn : (n : Int) ≤ 9223372036854775807) (h : w.cell? ⟨b, 0, none⟩ = some (.int .i64 n)) :
    Calls Try.prog 5 #[.slice (some ⟨b, 0, none⟩) 1 1] w fun e w' => e = .returned (.bool (decide (1048576 < n))) ∧ w = w' := by
  go_enter Try.func5, Try.ntmps5
  go_wp2_with fail
  go_loopw [4, 3] (fun i s wr => (i = .int .i64 0 ∧ s = .int .i64 0 ∨ i = .int .i64 1 ∧ s = .int .i64 n ∧ n ≤ 1048576) ∧ w = wr) (fun i _ _ => 1 - (intOf i).toNat)
  case atStart => exact ⟨.inl ⟨rfl, rfl⟩, rfl⟩
  case round =>
    obtain ⟨h0, rfl⟩ := hrel
    rcases h0 with ⟨rfl, rfl⟩ | ⟨rfl, rfl, hle⟩
    · by_cases hgt : 1048576 < n
      · go_wp2_with fail
        go_ret
        exact ⟨by simp [hgt], rfl⟩
      · go_wp2_with fail
        go_roundw
        case rel => exact ⟨.inr ⟨rfl, rfl, by omega⟩, trivial⟩
        case measure => simp [intOf]
    · go_wp2_with fail
      go_ret
      exact ⟨by simp; omega, rfl⟩
theorem beyond_new (n : Nat) (w : World) (E : Nat) (hn : (n : Int) ≤ 9223372036854775807) :
    Calls Try.prog 5 #[.slice (some ⟨w.heap.size, 0, none⟩) 1 1] (w.alloc (.cells #[.int .i64 n] E)) fun e w' => e = .returned (.bool (decide (1048576 < n))) ∧ Ext w w' := by
  refine (beyond1_c w.heap.size n _ hn (by go_simp)).mono ?_
  rintro e w' ⟨rfl, rfl⟩
  exact ⟨rfl, (Ext.refl _).al _⟩
set_option maxRecDepth 100000 in
theorem tops_big (a : Option Addr) (c n : Nat) (b : Nat) (w : World) (hn : (n : Int) ≤ 9223372036854775807) (hbig : 1048576 < n) :
    Calls Try.prog 3 #[.slice a n c, .int .u16 b] w fun e w' => e = .returned (.bool true) ∧ Ext w w' := by
  have hb := fun w => beyond_new n w 3 hn
  rw [decide_eq_true hbig] at hb
  replace hb := mkHid hb
  go_enter Try.func3, Try.ntmps3
  go_wp2_with fail
  refine (alive_c _).mono ?_
  rintro e w1 ⟨rfl, hE1⟩
  replace hE1 := mkHid hE1
  go_wp2_with fail
  refine (hb.out _).mono ?_
  rintro e w2 ⟨rfl, hE2⟩
  replace hE2 := mkHid hE2
  go_wp2_with fail
  refine (alive_c _).mono ?_
  rintro e w3 ⟨rfl, hE3⟩
  replace hE3 := mkHid hE3
  go_wp2_with fail
  go_ret
  exact ⟨rfl, (hE1.out.trans hE2.out).trans hE3.out⟩
set_option maxRecDepth 100000 in
set_option maxHeartbeats 800000 in
theorem tops_nan (a : Option Addr) (c n : Nat) (b : Nat) (xs : List Nat) (w : World) (hlen : xs.length = n) (hn : n ≤ 1048576) (hnan : xs.any nanB = true) (h : Row w a (xs.map flV)) :
    Calls Try.prog 3 #[.slice a n c, .int .u16 b] w fun e w' => e = .returned (.bool true) ∧ Ext w w' := by
  have hb := fun w => beyond_new n w 3 (by omega)
  rw [decide_eq_false (by omega)] at hb
  have hp := fun w h => peaks_nan a c xs w (by omega) hnan h
  rw [hlen] at hp
  replace hb := mkHid hb
  replace hp := mkHid hp
  replace hnan := mkHid hnan
  replace hlen := mkHid hlen
  replace h := mkHid h
  go_enter Try.func3, Try.ntmps3
  go_wp2_with fail
  refine (alive_c _).mono ?_
  rintro e w1 ⟨rfl, hE1⟩
  replace hE1 := mkHid hE1
  go_wp2_with fail
  refine (hb.out _).mono ?_
  rintro e w2 ⟨rfl, hE2⟩
  replace hE2 := mkHid hE2
  go_wp2_with fail
  refine (hp.out _ (h.out.ext (hE1.out.trans hE2.out))).mono ?_
  rintro e w3 ⟨rfl, rfl⟩
  have hr := h.out.ext (hE1.out.trans hE2.out)
  obtain ⟨bk, off, ha, hc⟩ := hr
  replace ha := mkHid ha
  replace hc := mkHid hc
  go_wp2_with fail
  go_loopw [7] (fun i wr => ∃ k : Nat, k ≤ n ∧ i = .int .i64 k ∧ Clean xs k ∧ w2 = wr) (fun i _ => n - (intOf i).toNat)
  case atStart => exact ⟨0, Nat.zero_le _, rfl, fun j hj => absurd hj (Nat.not_lt_zero _), rfl⟩
  case round =>
    obtain ⟨k, hk, rfl, hcl, rfl⟩ := hrel
    replace hcl := mkHid hcl
    by_cases hlt : k < n
    · have hl0 := hlen.out
      have h1 := hc.out k (by simp; omega)
      rw [flV_get (by omega)] at h1
      have hA := ha.out (flV_ne (k := k) (by omega))
      clear hl0
      rw [hA]
      replace hA := mkHid hA
      obtain ⟨x, hx⟩ : ∃ x, x = xs.getD k 0 := ⟨_, rfl⟩
      rw [← hx] at h1
      replace hx := mkHid hx
      by_cases hnn : nanB x = true
      · go_wp2_with (go_at_call 7; refine (isNaN_c x _).mono ?_; rintro e w' ⟨rfl, rfl⟩)
        go_ret
        exact ⟨rfl, hE1.out.trans hE2.out⟩
      · have hnan2 : nanB x = false := by simpa using hnn
        have hnext := mkHid (clean_next hcl.out (by rw [← hx.out]; exact hnan2))
        go_wp2_with (go_at_call 7; refine (isNaN_c x _).mono ?_; rintro e w' ⟨rfl, rfl⟩)
        go_roundw
        case rel => exact ⟨k + 1, by omega, by go_num, hnext.out, by simp⟩
        case measure => simp [intOf] <;> omega
    · exfalso
      obtain rfl : k = n := by omega
      have := hcl.out
      rw [← hlen.out] at this
      have h2 := clean_any this
      rw [hnan.out] at h2
      cases h2
end Go.Proofs.Ytbpjggljbkppaaa
