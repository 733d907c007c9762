/-
  Peaks: SameNumbers, TwinFloats, LeftFloats, Beyond.
-/
import Derived.Test.YtbpjggljbkppaaaGreatDoorPeaks3
namespace Go.Proofs.YtbpjggljbkppaaaGreatDoor
open Go Go.RowKit Go.Proofs
set_option maxHeartbeats 400000 in
theorem sameNumbers_c (a a' : Option Addr) (c c' : Nat) (l : List Nat) (w : World) (hl : l.length ≤ 1048576) (h : Row w a (l.map inV)) (h' : Row w a' (l.map inV)) :
    Calls Tryz.prog 14 #[.slice a l.length c, .slice a' l.length c'] w fun e w' => e = .returned (.bool true) ∧ Ext w w' := by
  obtain ⟨b, off, ha, hc⟩ := h
  obtain ⟨b', off', ha', hc'⟩ := h'
  go_enter Tryz.func14, Tryz.ntmps14
  go_wp2
  go_loopw [5] (fun i wr => ∃ k : Nat, k ≤ l.length ∧ i = .int .i64 k ∧ ∃ n, wr = w.drewN n) (fun i _ => l.length - (intOf i).toNat)
  case atStart => exact ⟨0, Nat.zero_le _, rfl, 0, rfl⟩
  case round =>
    obtain ⟨k, hk, rfl, hd⟩ := hrel
    by_cases hlt : k < l.length
    · have hne : l.map inV ≠ [] := by
        intro h0
        have := congrArg List.length h0
        simp at this
        subst this
        simp at hlt
      have h1 := hc k (by simpa using hlt)
      have h2 := hc' k (by simpa using hlt)
      have hcx : (l.map inV).getD k undef = .int .i64 (l.getD k 0 : Nat) := by simp [hlt, inV]
      rw [hcx] at h1 h2
      replace h1 : wr.cell? _ = _ := (cell_drew hd _).trans h1
      replace h2 : wr.cell? _ = _ := (cell_drew hd _).trans h2
      replace hd := mkHid hd
      rw [ha hne, ha' hne]
      clear hc hc' ha ha' hcx hne
      generalize l.getD k 0 = x at *
      go_wp2
      go_quiet (fail)
      go_wp2
      go_roundw
      case rel => exact ⟨k + 1, by omega, by go_num, drew_more hd.out _⟩
      case measure => simp [intOf] <;> omega
    · go_wp2
      go_ret
      obtain ⟨n, rfl⟩ := hd
      exact ⟨rfl, (Ext.refl w).drN n⟩
theorem infoF : (Tryz.prog.info? 65).map (fun i => (i.zero, i.size, i.bytes)) = some (some (.float .f64 0), 1, 8) := by kernel_rfl
theorem underFs : Tryz.prog.underlying 50 = some (.slice 65) := by kernel_rfl
def spareV : Value := .float .f64 4665272916630306816
theorem makeF (n : Nat) (w : World) (h : n ≤ 1048576) : (Instr.makeSlice 50 (.int .i64 0) (.int .i64 ((n : Int) + 1))).run Tryz.prog w = .ok (.slice (some ⟨w.heap.size, 0, none⟩) 0 (n + 1)) (w.alloc (.cells (madeCells #[.float .f64 0] ((n + 1) * 1)) 65)) := by
  obtain ⟨i0, hi, hz0, hz1, hz2⟩ := info_parts infoF
  have := run_make w 50 65 i0 _ underFs hi hz0 .i64 .i64 0 ((n : Int) + 1) (by omega) (by omega) (by rw [hz2]; omega) (by omega)
  rw [this, hz1]
  rfl
set_option maxHeartbeats 800000 in
theorem twinFloats_c (a : Option Addr) (c n : Nat) (xs : List Nat) (w : World) (hlen : xs.length = n) (hl : n ≤ 1048576) (h : Row w a (xs.map flV)) :
    Calls Tryz.prog 11 #[.slice a n c] w fun e w' => e = .returned (.slice (some ⟨w.heap.size, 0, none⟩) n (n + 1)) ∧
      w'.ownsRow w.heap.size 65 1 (.slice (some ⟨w.heap.size, 0, none⟩) (n + 1) (n + 1)) (n + 1) (xs.map flV ++ [spareV]) ∧ Ext w w' := by
  obtain ⟨b, off, ha, hc⟩ := h
  replace ha := mkHid ha
  replace hc := mkHid hc
  replace hlen := mkHid hlen
  have hmk := makeF n w hl
  obtain ⟨i0, hi, hz0, hz1, hz2⟩ := info_parts infoF
  have hst : (w.alloc (.cells (madeCells #[.float .f64 0] ((n + 1) * 1)) 65)).ownsRow w.heap.size 65 1 (.slice (some ⟨w.heap.size, 0, none⟩) 0 (n + 1)) 0 [] :=
    World.ownsRow_made w _ _ (Nat.le_refl _) (by unfold maxLen; omega) (by simp [madeCells])
  generalize madeCells #[.float .f64 0] ((n + 1) * 1) = cs at *
  replace hst := mkHid hst
  go_enter Tryz.func11, Tryz.ntmps11
  go_wp2_with fail
  go_loopw [4, 3] (fun i v wr => ∃ k : Nat, k ≤ n ∧ i = .int .i64 k ∧ v = .slice (some ⟨w.heap.size, 0, none⟩) k (n + 1) ∧ wr.ownsRow w.heap.size 65 1 (.slice (some ⟨w.heap.size, 0, none⟩) k (n + 1)) k ((xs.take k).map flV) ∧ Ext w wr) (fun i _ _ => n - (intOf i).toNat)
  case atStart => exact ⟨0, Nat.zero_le _, rfl, rfl, hst.out, (Ext.refl w).al _⟩
  case round =>
    obtain ⟨k, hk, rfl, rfl, ho, hE⟩ := hrel
    clear hmk
    by_cases hlt : k < n
    · have hl0 := hlen.out
      have h0 := hE.cell ((hc.out k (by simp; omega)).trans (by rw [flV_get (by omega)]))
      have hA := ha.out (flV_ne (k := k) (by omega))
      have htk : (xs.take (k + 1)).map flV = (xs.take k).map flV ++ [.float .f64 (xs.getD k 0)] := by
        have hk2 : k < xs.length := by omega
        have e : xs.getD k 0 = xs[k] := by simp [hk2]
        rw [List.take_succ_eq_append_getElem hk2, List.map_append, e]
        rfl
      clear hl0
      rw [hA]
      replace hA := mkHid hA
      obtain ⟨x, hx⟩ : ∃ x, x = xs.getD k 0 := ⟨_, rfl⟩
      rw [← hx] at h0 htk
      replace hx := mkHid hx
      have hal : (wr.alloc (.cells #[.float .f64 x] 65)).ownsRow w.heap.size 65 1 (.slice (some ⟨w.heap.size, 0, none⟩) k (n + 1)) k ((xs.take k).map flV) := ho.alloc _
      obtain ⟨w', happ, hown, hgr⟩ := run_append_fits (P := Tryz.prog) (wr.alloc (.cells #[.float .f64 x] 65)) w.heap.size 50 50 65 i0 1 underFs hi hz1 w.heap.size k (n + 1) _ hal ⟨wr.heap.size, 0, none⟩ 1 1 [.float .f64 x] rfl
        (new_cell wr _ _) (by intro u hu; simp at hu; subst hu; rfl) (by omega)
      rw [← htk] at hown
      have hE2 := (hE.al (.cells #[.float .f64 x] 65)).trans_grown hgr (fun i h => by cases h; exact Nat.le_refl _)
      replace happ := mkHid happ
      replace hE2 := mkHid hE2
      replace hown := mkHid hown
      replace ho := mkHid ho
      replace hE := mkHid hE
      replace htk := mkHid htk
      clear hgr hal
      go_wp2_with (at_builtin; refine wpList_append_ran rfl (.tmp 15) (.tmp 20) 50 rfl rfl rfl happ.out ?_)
      go_roundw
      case rel => exact ⟨k + 1, by omega, by go_num, rfl, hown.out, hE2.out⟩
      case measure => simp [intOf] <;> omega
    · obtain rfl : n = k := by omega
      have htk : xs.take n = xs := List.take_of_length_le (by have := hlen.out; omega)
      rw [htk] at ho
      have hal : (wr.alloc (.cells #[spareV] 65)).ownsRow w.heap.size 65 1 (.slice (some ⟨w.heap.size, 0, none⟩) n (n + 1)) n (xs.map flV) := ho.alloc _
      obtain ⟨w', happ, hown, hgr⟩ := run_append_fits (P := Tryz.prog) (wr.alloc (.cells #[spareV] 65)) w.heap.size 50 50 65 i0 1 underFs hi hz1 w.heap.size n (n + 1) _ hal ⟨wr.heap.size, 0, none⟩ 1 1 [spareV] rfl
        (new_cell wr _ _) (by intro u hu; simp at hu; subst hu; rfl) (by omega)
      have hE2 := (hE.al (.cells #[spareV] 65)).trans_grown hgr (fun i h => by cases h; exact Nat.le_refl _)
      replace happ := mkHid happ
      replace hE2 := mkHid hE2
      replace hown := mkHid hown
      replace ho := mkHid ho
      replace hE := mkHid hE
      replace htk := mkHid htk
      clear hgr hal
      go_wp2_with (at_builtin; refine wpList_append_ran rfl (.tmp 22) (.tmp 23) 50 rfl rfl rfl happ.out ?_)
      go_ret
      exact ⟨rfl, hown.out, hE2.out⟩
end Go.Proofs.YtbpjggljbkppaaaGreatDoor
