/-
  Peaks: the loop.
-/
import Derived.Test.YtbpjggljbkppaaaGreatDoorPeaks
namespace Go.Proofs.YtbpjggljbkppaaaGreatDoor
open Go Go.RowKit Go.Proofs
theorem infoInt : (Tryz.prog.info? 3).map (fun i => (i.zero, i.size, i.bytes)) = some (some (.int .i64 0), 1, 8) := by kernel_rfl
theorem underInts : Tryz.prog.underlying 53 = some (.slice 3) := by kernel_rfl
def gtF (a b : Nat) : Bool := FloatKind.f64.format.order a b == some .gt
def topB (xs : List Nat) (i : Nat) : Bool := gtF (xs.getD i 0) (xs.getD ((i + xs.length - 1) % xs.length) 0) && gtF (xs.getD i 0) (xs.getD ((i + 1) % xs.length) 0)
def tops (xs : List Nat) (k : Nat) : List Nat := (List.range k).filter (topB xs)
theorem tops_next (xs : List Nat) (k : Nat) : tops xs (k + 1) = tops xs k ++ (if topB xs k then [k] else []) := by
  unfold tops
  rw [List.range_succ, List.filter_append]
  congr 1
  by_cases h : topB xs k <;> simp [h]
theorem tops_le (xs : List Nat) (k : Nat) : (tops xs k).length ≤ k := by
  unfold tops
  exact Nat.le_trans (List.length_filter_le ..) (by simp)
def inV (n : Nat) : Value := .int .i64 (n : Int)
theorem new_cell (w : World) (v : Value) (E : Nat) : ∀ j u, [v][j]? = some u → (w.alloc (.cells #[v] E)).cell? ((⟨w.heap.size, 0, none⟩ : Addr).add j) = some u := by
  intro j u hu
  have : j = 0 ∧ u = v := by
    cases j with
    | zero => simp at hu; exact ⟨rfl, hu.symm⟩
    | succ j => simp at hu
  obtain ⟨rfl, rfl⟩ := this
  go_simp
theorem Ext.trans_grown {a b c : World} {row : Option Nat} (h : Ext a b) (k : b.grownBy c row) (hr : ∀ i, row = some i → a.heap.size ≤ i) : Ext a c :=
  ⟨k.os.trans h.os, k.tape.trans h.tape, k.output.trans h.output, Nat.le_trans h.size k.size, fun i hi => (k.block i (Nat.lt_of_lt_of_le hi h.size) (fun e => by have := hr i e.symm; omega)).trans (h.block i hi)⟩
set_option maxHeartbeats 1600000 in
set_option maxRecDepth 100000 in
theorem peaks_c (a : Option Addr) (c n : Nat) (xs : List Nat) (w : World) (hlen : xs.length = n) (hl : n ≤ 1048576) (hn : xs.any nanB = false) (h : Row w a (xs.map flV)) :
    Calls Tryz.prog 12 #[.slice a n c] w fun e w' => ∃ v, e = .returned (.tuple #[v, .int .i64 0]) ∧ w'.ownsRow w.heap.size 3 1 v (tops xs n).length ((tops xs n).map inV) ∧ Ext w w' := by
  have hcn := containsNaN_c a c xs w (by omega) h
  rw [hn, hlen] at hcn
  replace hcn := mkHid hcn
  obtain ⟨b, off, ha, hc⟩ := h
  replace ha := mkHid ha
  replace hc := mkHid hc
  replace hn := mkHid hn
  replace hlen := mkHid hlen
  go_enter Tryz.func12, Tryz.ntmps12
  go_wp2_with (go_at_call 69; refine hcn.out.mono ?_; rintro e w' ⟨rfl, rfl⟩)
  go_loopw [12, 4] (fun i v wr => ∃ k : Nat, k ≤ n ∧ i = .int .i64 k ∧ wr.ownsRow w.heap.size 3 1 v (tops xs k).length ((tops xs k).map inV) ∧ Ext w wr) (fun i _ _ => n - (intOf i).toNat)
  case atStart => exact ⟨0, Nat.zero_le _, rfl, World.ownsRow_nil _ _ _ _, Ext.refl _⟩
  case round =>
    obtain ⟨k, hk, rfl, ho, hE⟩ := hrel
    by_cases hlt : k < n
    · have hl0 := hlen.out
      obtain ⟨j1, hj1⟩ : ∃ j1, j1 = (k + n - 1) % n := ⟨_, rfl⟩
      obtain ⟨j2, hj2⟩ : ∃ j2, j2 = (k + 1) % n := ⟨_, rfl⟩
      have l1 : j1 < n := by rw [hj1]; exact Nat.mod_lt _ (by omega)
      have l2 : j2 < n := by rw [hj2]; exact Nat.mod_lt _ (by omega)
      have h0 := hE.cell ((hc.out k (by simp; omega)).trans (by rw [flV_get (by omega)]))
      have h1 := hE.cell ((hc.out j1 (by simp; omega)).trans (by rw [flV_get (by omega)]))
      have h2 := hE.cell ((hc.out j2 (by simp; omega)).trans (by rw [flV_get (by omega)]))
      have hA := ha.out (flV_ne (k := k) (by omega))
      clear hl0
      have w1 : IntKind.i64.wrap ((k : Int) + n) = (k : Int) + n := by rw [IntKind.wrap_i64]; omega
      have w2 : IntKind.i64.wrap ((k : Int) + n - 1) = (k : Int) + n - 1 := by rw [IntKind.wrap_i64]; omega
      have w3 : IntKind.i64.wrap ((k : Int) + 1) = (k : Int) + 1 := by rw [IntKind.wrap_i64]; omega
      have t1 : Int.tmod ((k : Int) + n - 1) n = j1 := by rw [Int.tmod_eq_emod_of_nonneg (by omega), hj1, show (k : Int) + n - 1 = ((k + n - 1 : Nat) : Int) by omega]; exact (Int.natCast_emod _ _).symm
      have t2 : Int.tmod ((k : Int) + 1) n = j2 := by rw [Int.tmod_eq_emod_of_nonneg (by omega), hj2, show (k : Int) + 1 = ((k + 1 : Nat) : Int) by omega]; exact (Int.natCast_emod _ _).symm
      have w4 : IntKind.i64.wrap (j1 : Int) = j1 := by rw [IntKind.wrap_i64]; omega
      have w5 : IntKind.i64.wrap (j2 : Int) = j2 := by rw [IntKind.wrap_i64]; omega
      have n0 : n ≠ 0 := by omega
      rw [hA]
      replace hj1 := mkHid hj1
      replace hj2 := mkHid hj2
      replace hA := mkHid hA
      replace ho := mkHid ho
      replace hE := mkHid hE
      obtain ⟨x0, hx0⟩ : ∃ x, x = xs.getD k 0 := ⟨_, rfl⟩
      obtain ⟨x1, hx1⟩ : ∃ x, x = xs.getD j1 0 := ⟨_, rfl⟩
      obtain ⟨x2, hx2⟩ : ∃ x, x = xs.getD j2 0 := ⟨_, rfl⟩
      rw [← hx0] at h0
      rw [← hx1] at h1
      rw [← hx2] at h2
      replace hx0 := mkHid hx0
      replace hx1 := mkHid hx1
      replace hx2 := mkHid hx2
      have htop : topB xs k = (gtF x0 x1 && gtF x0 x2) := by
        unfold topB
        rw [hlen.out, ← hj1.out, ← hj2.out, ← hx0.out, ← hx1.out, ← hx2.out]
      have hnx := tops_next xs k
      rw [htop] at hnx
      have htl := tops_le xs k
      replace hnx := mkHid hnx
      clear htop
      cases hg1 : gtF x0 x1 with
      | false =>
        rw [hg1] at hnx
        unfold gtF at hg1
        go_wp2_with fail
        go_quiet (fail)
        go_wp2_with fail
        go_roundw
        case rel => exact ⟨k + 1, by omega, by go_num, by rw [show tops xs (k + 1) = tops xs k by rw [hnx.out]; simp]; exact ho.out, hE.out.drN _⟩
        case measure => simp [intOf] <;> omega
      | true =>
        cases hg2 : gtF x0 x2 with
        | false =>
          rw [hg1, hg2] at hnx
          unfold gtF at hg1 hg2
          go_wp2_with fail
          go_quiet (fail)
          go_wp2_with fail
          go_roundw
          case rel => exact ⟨k + 1, by omega, by go_num, by rw [show tops xs (k + 1) = tops xs k by rw [hnx.out]; simp]; exact ho.out, hE.out.drN _⟩
          case measure => simp [intOf] <;> omega
        | true =>
          rw [hg1, hg2] at hnx
          unfold gtF at hg1 hg2
          go_wp2_with fail
          go_quiet (fail)
          obtain ⟨i0, hi, hz0, hz1, hz2⟩ := info_parts infoInt
          have hal : ((wr.drewN nq).alloc (.cells #[.int .i64 k] 3)).ownsRow w.heap.size 3 1 u4 (tops xs k).length ((tops xs k).map inV) := World.ownsRow.alloc (w := wr.drewN nq) ho.out _
          obtain ⟨v', w', happ, hown, hgr⟩ := append_one (P := Tryz.prog) ((wr.drewN nq).alloc (.cells #[.int .i64 k] 3)) w.heap.size 53 53 3 i0 _ 1 8 underInts hi hz0 hz1 hz2 rfl (by omega) u4 _ _ hal ⟨(wr.drewN nq).heap.size, 0, none⟩ 1 1 [.int .i64 k] rfl
            (new_cell (wr.drewN nq) (.int .i64 k) _)
            (by intro u hu; simp at hu; subst hu; rfl) (by unfold maxLen; omega) (by omega) (by have := hE.out.size; simp; omega) (by omega)
          have hE2 : Ext w w' := by
            have e1 : Ext w ((wr.drewN nq).alloc (.cells #[.int .i64 k] 3)) := (hE.out.drN nq).al _
            rcases hgr with ⟨g, cap, rfl, _, h⟩ | ⟨_, h⟩
            · have := (ho.out.lt g rfl).1
              exact e1.trans_grown h (fun k' hk' => by cases hk'; exact this)
            · exact e1.trans_grown h (fun k' hk' => by cases hk')
          have hown2 : w'.ownsRow w.heap.size 3 1 v' (tops xs (k + 1)).length ((tops xs (k + 1)).map inV) := by
            rw [hnx.out]
            simpa [inV] using hown
          replace happ := mkHid happ
          replace hE2 := mkHid hE2
          replace hown2 := mkHid hown2
          clear hown hgr hal
          go_wp2_with (at_builtin; refine wpList_append_ran rfl (.tmp 43) (.tmp 45) 53 rfl rfl rfl happ.out ?_)
          go_roundw
          case rel => exact ⟨k + 1, by omega, by go_num, hown2.out, hE2.out⟩
          case measure => simp [intOf] <;> omega
    · obtain rfl : k = n := by omega
      replace ho := mkHid ho
      replace hE := mkHid hE
      go_wp2_with fail
      go_ret2
      exact ⟨_, rfl, ho.out, hE.out⟩
end Go.Proofs.YtbpjggljbkppaaaGreatDoor
