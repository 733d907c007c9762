/-
  What comes in, opened: a fraction, a matrix, a ray as data.
-/
import Derived.Test.YtpmfohhpaoagfaaMN
import Derived.ProofKit
import Derived.OpenShut
import Derived.Lib.SmallJoins
import Derived.Carry
import Derived.Deep.Slices
import Derived.SizedLaws
namespace Go.Proofs.Ytpmfohhpaoagfaa
open Go Go.ChangeShapes Go.WideShapes Go.ChangeAt Go.RowKit Go.Joins Go.Deep
theorem cells_u32 : Try.prog.cellsOf 94 = 1 := by kernel_rfl
theorem bytes_u32 : Try.prog.bytesOf 94 = 4 := by kernel_rfl
theorem cells_bool : Try.prog.cellsOf 4 = 1 := by kernel_rfl
theorem cells_mag : Try.prog.cellsOf 22 = 1 := by kernel_rfl
theorem cells_int : Try.prog.cellsOf 24 = 2 := by kernel_rfl
theorem cells_frac : Try.prog.cellsOf 26 = 4 := by kernel_rfl
theorem cells_mat : Try.prog.cellsOf 40 = 16 := by kernel_rfl
theorem cells_ray : Try.prog.cellsOf 48 = 8 := by kernel_rfl
theorem reach_le : reachBytes ≤ 140737488355328 := Nat.le_trans (Nat.le_of_lt reachBytes_lt) (Nat.le_of_eq (by kernel_rfl))
section
variable {H : Type} {enc : TypeId × Value → H} {w : World} {base : Nat} {spare : Nat → Bool} {held : Bool}
theorem open_mag {fuel : Nat} {cs : List Value} {x : DataW H × List MemPlace} (h : DataW.trod enc Try.prog w base spare held fuel 22 cs = some x) :
    ∃ (a : Option Addr) (c : Nat) (l : List Nat), cs = [.slice a l.length c] ∧ OkL l ∧ l.length ≤ c ∧ Row w a (limV l) ∧ ∀ M, (∀ k ∈ x.1.weights Try.prog 22, k ≤ M) → l.length * 4 ≤ M := by
  rcases open_slice Try.underlying22 h with ⟨rfl, _⟩ | ⟨a, len, cap, m, n, D, Pl, rfl, hb, hl, hm, hmm, rfl, hi⟩
  · exact ⟨none, 0, [], rfl, okL_nil, Nat.le_refl _, row_nil w, fun M _ => by simp⟩
  · have hlm : len ≤ m := by rw [hmm]; split <;> omega
    have hcell : ∀ i, i < len → ∃ b : Nat, b < 4294967296 ∧ w.cell? (a.add i) = some (.int .u32 (b : Int)) := by
      intro i hlt
      obtain ⟨cs', h1, h2⟩ := hi i (by omega)
      obtain ⟨b, rfl, _, hwf⟩ := DataW.trod_int Try.underlying94 h2
      rw [cells_u32] at h1
      obtain ⟨_, _, hat⟩ := World.cells?_some h1
      have := hat 0 (by omega)
      have hb2 : 0 ≤ b ∧ b ≤ 4294967295 := by
        have h : IntKind.u32.min ≤ b ∧ b ≤ IntKind.u32.max := by simpa [Lit.wf] using hwf
        have e1 : IntKind.u32.min = 0 := rfl
        have e2 : IntKind.u32.max = 4294967295 := rfl
        omega
      obtain ⟨b', rfl⟩ := Int.eq_ofNat_of_zero_le hb2.1
      refine ⟨b', by omega, ?_⟩
      simpa [Addr.add] using this
    have hlist : (List.range len).map (fun i => match w.cell? (a.add i) with | some (.int _ b) => b.toNat | _ => 0) = (List.range len).map (fun i => match w.cell? (a.add i) with | some (.int _ b) => b.toNat | _ => 0) := rfl
    refine ⟨some a, cap, (List.range len).map (fun i => match w.cell? (a.add i) with | some (.int _ b) => b.toNat | _ => 0), by simp, ?_, by simpa using hl, ?_, ?_⟩
    · intro y hy
      obtain ⟨i, hi', rfl⟩ := List.mem_map.1 hy
      obtain ⟨b, hb1, hb2⟩ := hcell i (List.mem_range.1 hi')
      simp only [hb2]
      simpa using hb1
    · refine ⟨a.block, a.off, fun hne => ?_, fun j hj => ?_⟩
      · have h0 : 0 < len := by
          rcases Nat.eq_zero_or_pos len with h | h
          · subst h; simp [limV] at hne
          · exact h
        obtain ⟨b, _, hb'⟩ := hcell 0 h0
        obtain ⟨bl, of, sp⟩ := a
        have : sp = none := by simpa [Addr.add] using World.cell?_spot hb'
        subst this
        rfl
      · have hj' : j < len := by simpa [limV] using hj
        obtain ⟨b, _, hb'⟩ := hcell j hj'
        have hadd : a.add j = ⟨a.block, a.off + j, none⟩ := by
          obtain ⟨bl, of, sp⟩ := a
          have : sp = none ∨ j ≠ 0 := by
            rcases Nat.eq_zero_or_pos j with h | h
            · subst h
              exact .inl (by simpa [Addr.add] using World.cell?_spot hb')
            · exact .inr (by omega)
          unfold Addr.add
          split
          · rename_i h
            rcases this with h2 | h2
            · simp [h, h2]
            · exact absurd h h2
          · rfl
        rw [← hadd, hb']
        simp [limV, hj', hb']
    · intro M hM
      have := hM ((len + (m - len)) * Try.prog.bytesOf 94) (by simp [DataW.weights, Try.underlying22])
      rw [bytes_u32] at this
      simp only [List.length_map, List.length_range]
      omega
theorem list_two {α : Type} {l : List α} (h : l.length = 2) : ∃ a b, l = [a, b] := by
  match l, h with
  | [a, b], _ => exact ⟨a, b, rfl⟩
theorem list_four {α : Type} {l : List α} (h : l.length = 4) : ∃ a b c d, l = [a, b, c, d] := by
  match l, h with
  | [a, b, c, d], _ => exact ⟨a, b, c, d, rfl⟩
theorem open_int2 {fuel : Nat} {cs : List Value} {x : DataW H × List MemPlace} (h : DataW.trod enc Try.prog w base spare held fuel 24 cs = some x) :
    ∃ (b : Bool) (a : Option Addr) (c : Nat) (l : List Nat), cs = [.bool b, .slice a l.length c] ∧ OkL l ∧ l.length ≤ c ∧ Row w a (limV l) ∧ ∀ M, (∀ k ∈ x.1.weights Try.prog 24, k ≤ M) → l.length * 4 ≤ M := by
  obtain ⟨xs, n, _, rfl, hlen, hxl, hf⟩ := DataW.trod_struct Try.underlying24 h
  rw [cells_int] at hlen
  obtain ⟨c0, c1, rfl⟩ := list_two hlen
  obtain ⟨y0, y1, rfl⟩ := list_two hxl
  have h0 : DataW.trod enc Try.prog w base spare held n 4 (([c0, c1].drop 0).take (Try.prog.cellsOf 4)) = some y0 := hf 0 _ rfl
  have h1 : DataW.trod enc Try.prog w base spare held n 22 (([c0, c1].drop 1).take (Try.prog.cellsOf 22)) = some y1 := hf 1 _ rfl
  rw [cells_bool] at h0
  rw [cells_mag] at h1
  obtain ⟨b, hb, _⟩ := DataW.trod_bool Try.underlying4 h0
  obtain ⟨a, c, l, hs, hk, hc, hr, hM⟩ := open_mag h1
  simp at hb hs
  subst hb hs
  refine ⟨b, a, c, l, rfl, hk, hc, hr, fun M h => hM M fun k hk => h k ?_⟩
  simp [DataW.weights, Try.underlying24, DataW.weightsEach, hk]
theorem open_frac4 {fuel : Nat} {cs : List Value} {x : DataW H × List MemPlace} (h : DataW.trod enc Try.prog w base spare held fuel 26 cs = some x) :
    ∃ v1 v2 v3 v4, cs = [v1, v2, v3, v4] ∧ ∀ M, (∀ k ∈ x.1.weights Try.prog 26, k ≤ M) → M ≤ 140737488355328 → RawF w (.agg #[v1, v2, v3, v4]) := by
  obtain ⟨xs, n, _, rfl, hlen, hxl, hf⟩ := DataW.trod_struct Try.underlying26 h
  rw [cells_frac] at hlen
  obtain ⟨c0, c1, c2, c3, rfl⟩ := list_four hlen
  obtain ⟨y0, y1, rfl⟩ := list_two hxl
  have h0 : DataW.trod enc Try.prog w base spare held n 24 (([c0, c1, c2, c3].drop 0).take (Try.prog.cellsOf 24)) = some y0 := hf 0 _ rfl
  have h1 : DataW.trod enc Try.prog w base spare held n 24 (([c0, c1, c2, c3].drop 2).take (Try.prog.cellsOf 24)) = some y1 := hf 1 _ rfl
  rw [cells_int] at h0 h1
  obtain ⟨b1, a1, m1, l1, hs1, hk1, hc1, hr1, hM1⟩ := open_int2 h0
  obtain ⟨b2, a2, m2, l2, hs2, hk2, hc2, hr2, hM2⟩ := open_int2 h1
  simp at hs1 hs2
  obtain ⟨rfl, rfl⟩ := hs1
  obtain ⟨rfl, rfl⟩ := hs2
  refine ⟨_, _, _, _, rfl, fun M h hM => ?_⟩
  have g1 := hM1 M fun k hk => h k (by simp [DataW.weights, Try.underlying26, DataW.weightsEach, hk])
  have g2 := hM2 M fun k hk => h k (by simp [DataW.weights, Try.underlying26, DataW.weightsEach, hk])
  exact ⟨b1, a1, m1, b2, a2, m2, l1, l2, rfl, by omega, by omega, ⟨a1, m1, rfl, hk1, hc1, hr1⟩, ⟨a2, m2, rfl, hk2, hc2, hr2⟩⟩
set_option maxRecDepth 100000 in
/-- A fraction that came in. -/
theorem rawF_of {r : Reach} {b0 : Nat} {v : Value} {d : DataW H} {p : List MemPlace} (hv : Value.okWide Try.prog w r b0 26 v) (h : DataW.Trod enc Try.prog w base spare held 26 v d p)
    (hM : ∀ k ∈ d.weights Try.prog 26, k ≤ reachBytes) : RawF w v := by
  obtain ⟨cs, rfl, _⟩ := okWide_struct Try.underlying26 hv
  obtain ⟨fuel, hh⟩ := h
  obtain ⟨v1, v2, v3, v4, hcs, hR⟩ := open_frac4 hh
  have : cs = #[v1, v2, v3, v4] := by
    apply Array.toList_inj.1
    simpa [Value.cells] using hcs
  subst this
  exact hR reachBytes hM reach_le
end
end Go.Proofs.Ytpmfohhpaoagfaa
