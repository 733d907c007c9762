/-
  Slits, for GratingTops.
-/
import Derived.Test.YtbpjggljbkppaaaMem
namespace Go.Proofs.Ytbpjggljbkppaaa
open Go Go.RowKit Go.Proofs
/-- Which places are open when j slits are done and k samples of the next one. -/
def onB (wd ap j k i : Nat) : Bool := (List.range j).any (fun a => (List.range wd).any fun b => i == a * ap + b) || (List.range k).any fun b => i == j * ap + b
def oneV : Value := .complex .f64 4607182418800017408 0
def zeroV : Value := .complex .f64 0 0
def litV (b : Bool) : Value := if b then oneV else zeroV
/-- Places of a row: what stands in each. -/
def Lit (wd ap : Nat) (p j k : Nat) (arr : Array Value) : Prop := arr.size = p ∧ ∀ i, i < p → arr[i]? = some (litV (onB wd ap j k i))
theorem lit_start (wd ap p : Nat) : Lit wd ap p 0 0 (madeCells #[.complex .f64 0 0] p) := by
  refine ⟨by simp [madeCells], fun i hi => ?_⟩
  simp [madeCells, onB, litV, zeroV, hi, Nat.mod_one]
theorem lit_next (wd ap p j : Nat) (arr : Array Value) (h : Lit wd ap p j wd arr) : Lit wd ap p (j + 1) 0 arr := by
  refine ⟨h.1, fun i hi => ?_⟩
  rw [h.2 i hi]
  congr 2
  simp [onB, List.range_succ]
theorem lit_set (wd ap p j k : Nat) (arr : Array Value) (h : Lit wd ap p j k arr) : Lit wd ap p j (k + 1) (arr.setIfInBounds (j * ap + k) oneV) := by
  refine ⟨by simpa using h.1, fun i hi => ?_⟩
  by_cases e : i = j * ap + k
  · subst e
    have : onB wd ap j (k + 1) (j * ap + k) = true := by simp [onB, List.range_succ]
    rw [this, Array.getElem?_setIfInBounds_self_of_lt (by have := h.1; omega)]
    rfl
  · rw [Array.getElem?_setIfInBounds_ne (by omega), h.2 i hi]
    congr 2
    simp [onB, List.range_succ, show (i == j * ap + k) = false by simpa using e]
theorem off_eq (J K : Nat) (ap : Int) (h : 0 ≤ ap) : ((J : Int) * ap + K).toNat = J * ap.toNat + K := by
  obtain ⟨A, rfl⟩ := Int.eq_ofNat_of_zero_le h
  have : (J : Int) * (A : Int) + K = ((J * A + K : Nat) : Int) := by simp
  rw [this, Int.toNat_natCast, Int.toNat_natCast]
theorem makeC_info : (Try.prog.info? 41).map (fun i => (i.zero, i.size, i.bytes)) = some (some (.complex .f64 0 0), 1, 16) := by kernel_rfl
theorem makeC_under : Try.prog.underlying 34 = some (.slice 41) := by kernel_rfl
theorem makeC (n : Nat) (w : World) (h : n ≤ 65536) : (Instr.makeSlice 34 (.int .i64 n) (.int .i64 n)).run Try.prog w = .ok (.slice (some ⟨w.heap.size, 0, none⟩) n n) (w.alloc (.cells (madeCells #[.complex .f64 0 0] (n * 1)) 41)) := by
  obtain ⟨i0, hi, hz0, hz1, hz2⟩ := info_parts makeC_info
  have := run_make w 34 41 i0 _ makeC_under hi hz0 .i64 .i64 n n (by omega) (by omega) (by rw [hz2]; omega) (by omega)
  rw [this, hz1]
  rfl
set_option maxRecDepth 100000 in
set_option maxHeartbeats 800000 in
theorem slits_ok (n s wd ap : Int) (p : Nat) (w : World) (h0 : 0 ≤ n) (h1 : 1 ≤ s) (h2 : 1 ≤ wd) (h3 : wd ≤ ap) (h4 : n ≤ 16) (_hap : ap ≤ 9223372036854775807) (hs : s ≤ 9223372036854775807)
    (hp : wrap64 (2 ^ n.toNat) = (p : Int)) (hp1 : p ≤ 65536) (hw : wd ≤ p) (hq : s - 1 ≤ ((p : Int) - wd) / ap) :
    Calls Try.prog 8 #[.int .i64 n, .int .i64 s, .int .i64 wd, .int .i64 ap] w fun e w' =>
      e = .returned (.tuple #[.slice (some ⟨w.heap.size, 0, none⟩) p p, .int .i64 0]) ∧ ∃ arr : Array Value, w' = w.alloc (.cells arr 41) ∧ Lit wd.toNat ap.toNat p s.toNat 0 arr := by
  have hmk := fun w => makeC p w hp1
  have hin : ∀ j k : Nat, (j : Int) < s → (k : Int) < wd → 0 ≤ (j : Int) * ap ∧ (j : Int) * ap + k < p := by
    intro j k hj hk
    have a1 : (s - 1) * ap ≤ (p : Int) - wd := by
      have := Int.mul_le_mul_of_nonneg_right hq (show 0 ≤ ap by omega)
      have b := Int.ediv_mul_le ((p : Int) - wd) (show ap ≠ 0 by omega)
      omega
    have a2 : (j : Int) * ap ≤ (s - 1) * ap := Int.mul_le_mul_of_nonneg_right (by omega) (by omega)
    exact ⟨Int.mul_nonneg (by omega) (by omega), by omega⟩
  have HIN := mkHid hin
  clear hin
  go_enter Try.func8, Try.ntmps8
  go_wp2_with fail
  go_loopw [51] (fun j wr => ∃ J : Nat, (J : Int) ≤ s ∧ j = .int .i64 J ∧ ∃ arr, wr = w.alloc (.cells arr 41) ∧ Lit wd.toNat ap.toNat p J 0 arr) (fun j _ => (s - intOf j).toNat)
  case atStart => exact ⟨0, by omega, rfl, _, rfl, lit_start _ _ _⟩
  case round =>
    obtain ⟨J, hJ, rfl, arr, rfl, hlit⟩ := hrel
    have hLit := mkHid hlit
    clear hlit
    by_cases hlt : (J : Int) < s
    · go_wp2_with fail
      go_loopw [55] (fun k wr => ∃ K : Nat, (K : Int) ≤ wd ∧ k = .int .i64 K ∧ ∃ arr, wr = w.alloc (.cells arr 41) ∧ Lit wd.toNat ap.toNat p J K arr) (fun k _ => (wd - intOf k).toNat)
      case atStart => exact ⟨0, by omega, rfl, _, rfl, hLit.out⟩
      case round =>
        obtain ⟨K, hK, rfl, arr', rfl, hlit'⟩ := hrel
        by_cases hltk : (K : Int) < wd
        · obtain ⟨b1, b2⟩ := HIN.out J K hlt hltk
          have hsz := hlit'.1
          have hset := mkHid (lit_set wd.toNat ap.toNat p J K arr' hlit')
          have hold := hlit'.2 ((J : Int) * ap + K).toNat (by omega)
          obtain ⟨old, hold⟩ : ∃ old, arr'[((J : Int) * ap + K).toNat]? = some old := ⟨_, hold⟩
          clear hlit'
          go_wp2_with fail
          go_roundw
          case rel => exact ⟨K + 1, by omega, by go_num, _, rfl, by rw [off_eq J K ap (by omega)]; exact hset.out⟩
          case measure => simp [intOf] <;> omega
        · have hK' : K = wd.toNat := by omega
          subst hK'
          go_wp2_with fail
          go_roundw
          case rel => exact ⟨J + 1, by omega, by go_num, arr', rfl, lit_next _ _ _ _ _ hlit'⟩
          case measure => simp [intOf] <;> omega
    · go_wp2_with fail
      go_ret2
      have hJ' : J = s.toNat := by omega
      subst hJ'
      exact ⟨rfl, arr, rfl, hLit.out⟩
theorem slits_lim3 (n s wd ap : Int) (p : Nat) (w : World) (h0 : 0 ≤ n) (h1 : 1 ≤ s) (h2 : 1 ≤ wd) (h3 : wd ≤ ap) (h4 : n ≤ 16) (_hap : ap ≤ 9223372036854775807) (hs : s ≤ 9223372036854775807)
    (hp : wrap64 (2 ^ n.toNat) = (p : Int)) (hp1 : p ≤ 65536) (hw : wd ≤ p) (hq : ((p : Int) - wd) / ap < s - 1) :
    Calls Try.prog 8 #[.int .i64 n, .int .i64 s, .int .i64 wd, .int .i64 ap] w fun e w' => e = .returned (.tuple #[.slice none 0 0, .int .i64 4]) ∧ w = w' := by
  go_enter Try.func8, Try.ntmps8
  go_wp2_with fail
  go_ret2
  exact ⟨rfl, rfl⟩
end Go.Proofs.Ytbpjggljbkppaaa
