/-
  What comes in, opened: a matrix, a ray as data.
-/
import Derived.Test.YtpmfohhpaoagfaaMO
import Derived.Test.YtpmfohhpaoagfaaMS
namespace Go.Proofs.Ytpmfohhpaoagfaa
open Go Go.ChangeShapes Go.WideShapes Go.ChangeAt Go.RowKit Go.Joins Go.Deep
section
variable {H : Type} {enc : TypeId × Value → H} {w : World} {base : Nat} {spare : Nat → Bool} {held : Bool}
theorem list_16 {α : Type} {l : List α} (h : l.length = 16) : ∃ c0 c1 c2 c3 c4 c5 c6 c7 c8 c9 c10 c11 c12 c13 c14 c15, l = [c0, c1, c2, c3, c4, c5, c6, c7, c8, c9, c10, c11, c12, c13, c14, c15] := by
  match l, h with
  | [c0, c1, c2, c3, c4, c5, c6, c7, c8, c9, c10, c11, c12, c13, c14, c15], _ => exact ⟨c0, c1, c2, c3, c4, c5, c6, c7, c8, c9, c10, c11, c12, c13, c14, c15, rfl⟩
theorem open_mat {fuel : Nat} {cs : List Value} {x : DataW H × List MemPlace} (h : DataW.trod enc Try.prog w base spare held fuel 40 cs = some x) :
    ∃ v1 v2 v3 v4 v5 v6 v7 v8 v9 v10 v11 v12 v13 v14 v15 v16, cs = [v1, v2, v3, v4, v5, v6, v7, v8, v9, v10, v11, v12, v13, v14, v15, v16] ∧ ∀ M, (∀ k ∈ x.1.weights Try.prog 40, k ≤ M) → M ≤ 140737488355328 → RawM w (.agg #[v1, v2, v3, v4, v5, v6, v7, v8, v9, v10, v11, v12, v13, v14, v15, v16]) := by
  obtain ⟨xs, n, _, rfl, hlen, hxl, hf⟩ := DataW.trod_struct Try.underlying40 h
  rw [cells_mat] at hlen
  obtain ⟨c0, c1, c2, c3, c4, c5, c6, c7, c8, c9, c10, c11, c12, c13, c14, c15, rfl⟩ := list_16 hlen
  obtain ⟨y0, y1, y2, y3, rfl⟩ := list_four hxl
  have h0 : DataW.trod enc Try.prog w base spare held n 26 (([c0, c1, c2, c3, c4, c5, c6, c7, c8, c9, c10, c11, c12, c13, c14, c15].drop 0).take (Try.prog.cellsOf 26)) = some y0 := hf 0 _ rfl
  have h1 : DataW.trod enc Try.prog w base spare held n 26 (([c0, c1, c2, c3, c4, c5, c6, c7, c8, c9, c10, c11, c12, c13, c14, c15].drop 4).take (Try.prog.cellsOf 26)) = some y1 := hf 1 _ rfl
  have h2 : DataW.trod enc Try.prog w base spare held n 26 (([c0, c1, c2, c3, c4, c5, c6, c7, c8, c9, c10, c11, c12, c13, c14, c15].drop 8).take (Try.prog.cellsOf 26)) = some y2 := hf 2 _ rfl
  have h3 : DataW.trod enc Try.prog w base spare held n 26 (([c0, c1, c2, c3, c4, c5, c6, c7, c8, c9, c10, c11, c12, c13, c14, c15].drop 12).take (Try.prog.cellsOf 26)) = some y3 := hf 3 _ rfl
  rw [cells_frac] at h0 h1 h2 h3
  obtain ⟨v1, v2, v3, v4, e0, f0⟩ := open_frac4 h0
  have e0' : [c0, c1, c2, c3] = [v1, v2, v3, v4] := e0
  simp only [List.cons.injEq, and_true] at e0'
  obtain ⟨rfl, rfl, rfl, rfl⟩ := e0'
  obtain ⟨v5, v6, v7, v8, e1, f1⟩ := open_frac4 h1
  have e1' : [c4, c5, c6, c7] = [v5, v6, v7, v8] := e1
  simp only [List.cons.injEq, and_true] at e1'
  obtain ⟨rfl, rfl, rfl, rfl⟩ := e1'
  obtain ⟨v9, v10, v11, v12, e2, f2⟩ := open_frac4 h2
  have e2' : [c8, c9, c10, c11] = [v9, v10, v11, v12] := e2
  simp only [List.cons.injEq, and_true] at e2'
  obtain ⟨rfl, rfl, rfl, rfl⟩ := e2'
  obtain ⟨v13, v14, v15, v16, e3, f3⟩ := open_frac4 h3
  have e3' : [c12, c13, c14, c15] = [v13, v14, v15, v16] := e3
  simp only [List.cons.injEq, and_true] at e3'
  obtain ⟨rfl, rfl, rfl, rfl⟩ := e3'
  refine ⟨_, _, _, _, _, _, _, _, _, _, _, _, _, _, _, _, rfl, fun M h hM => ⟨_, _, _, _, _, _, _, _, _, _, _, _, _, _, _, _, rfl, f0 M (fun k hk => h k (by simp [DataW.weights, Try.underlying40, DataW.weightsEach, hk])) hM, f1 M (fun k hk => h k (by simp [DataW.weights, Try.underlying40, DataW.weightsEach, hk])) hM, f2 M (fun k hk => h k (by simp [DataW.weights, Try.underlying40, DataW.weightsEach, hk])) hM, f3 M (fun k hk => h k (by simp [DataW.weights, Try.underlying40, DataW.weightsEach, hk])) hM⟩⟩
set_option maxRecDepth 100000 in
theorem rawM_of {r : Reach} {b0 : Nat} {v : Value} {d : DataW H} {p : List MemPlace} (hv : Value.okWide Try.prog w r b0 40 v) (h : DataW.Trod enc Try.prog w base spare held 40 v d p)
    (hM : ∀ k ∈ d.weights Try.prog 40, k ≤ reachBytes) : RawM w v := by
  obtain ⟨cs, rfl, _⟩ := okWide_struct Try.underlying40 hv
  obtain ⟨fuel, hh⟩ := h
  obtain ⟨v1, v2, v3, v4, v5, v6, v7, v8, v9, v10, v11, v12, v13, v14, v15, v16, hcs, hR⟩ := open_mat hh
  have : cs = #[v1, v2, v3, v4, v5, v6, v7, v8, v9, v10, v11, v12, v13, v14, v15, v16] := by
    apply Array.toList_inj.1
    simpa [Value.cells] using hcs
  subst this
  exact hR reachBytes hM reach_le
theorem list_8 {α : Type} {l : List α} (h : l.length = 8) : ∃ c0 c1 c2 c3 c4 c5 c6 c7, l = [c0, c1, c2, c3, c4, c5, c6, c7] := by
  match l, h with
  | [c0, c1, c2, c3, c4, c5, c6, c7], _ => exact ⟨c0, c1, c2, c3, c4, c5, c6, c7, rfl⟩
theorem open_ray {fuel : Nat} {cs : List Value} {x : DataW H × List MemPlace} (h : DataW.trod enc Try.prog w base spare held fuel 48 cs = some x) :
    ∃ v1 v2 v3 v4 v5 v6 v7 v8, cs = [v1, v2, v3, v4, v5, v6, v7, v8] ∧ ∀ M, (∀ k ∈ x.1.weights Try.prog 48, k ≤ M) → M ≤ 140737488355328 → RawY w (.agg #[v1, v2, v3, v4, v5, v6, v7, v8]) := by
  obtain ⟨xs, n, _, rfl, hlen, hxl, hf⟩ := DataW.trod_struct Try.underlying48 h
  rw [cells_ray] at hlen
  obtain ⟨c0, c1, c2, c3, c4, c5, c6, c7, rfl⟩ := list_8 hlen
  obtain ⟨y0, y1, rfl⟩ := list_two hxl
  have h0 : DataW.trod enc Try.prog w base spare held n 26 (([c0, c1, c2, c3, c4, c5, c6, c7].drop 0).take (Try.prog.cellsOf 26)) = some y0 := hf 0 _ rfl
  have h1 : DataW.trod enc Try.prog w base spare held n 26 (([c0, c1, c2, c3, c4, c5, c6, c7].drop 4).take (Try.prog.cellsOf 26)) = some y1 := hf 1 _ rfl
  rw [cells_frac] at h0 h1
  obtain ⟨v1, v2, v3, v4, e0, f0⟩ := open_frac4 h0
  have e0' : [c0, c1, c2, c3] = [v1, v2, v3, v4] := e0
  simp only [List.cons.injEq, and_true] at e0'
  obtain ⟨rfl, rfl, rfl, rfl⟩ := e0'
  obtain ⟨v5, v6, v7, v8, e1, f1⟩ := open_frac4 h1
  have e1' : [c4, c5, c6, c7] = [v5, v6, v7, v8] := e1
  simp only [List.cons.injEq, and_true] at e1'
  obtain ⟨rfl, rfl, rfl, rfl⟩ := e1'
  refine ⟨_, _, _, _, _, _, _, _, rfl, fun M h hM => ⟨_, _, _, _, _, _, _, _, rfl, f0 M (fun k hk => h k (by simp [DataW.weights, Try.underlying48, DataW.weightsEach, hk])) hM, f1 M (fun k hk => h k (by simp [DataW.weights, Try.underlying48, DataW.weightsEach, hk])) hM⟩⟩
set_option maxRecDepth 100000 in
theorem rawY_of {r : Reach} {b0 : Nat} {v : Value} {d : DataW H} {p : List MemPlace} (hv : Value.okWide Try.prog w r b0 48 v) (h : DataW.Trod enc Try.prog w base spare held 48 v d p)
    (hM : ∀ k ∈ d.weights Try.prog 48, k ≤ reachBytes) : RawY w v := by
  obtain ⟨cs, rfl, _⟩ := okWide_struct Try.underlying48 hv
  obtain ⟨fuel, hh⟩ := h
  obtain ⟨v1, v2, v3, v4, v5, v6, v7, v8, hcs, hR⟩ := open_ray hh
  have : cs = #[v1, v2, v3, v4, v5, v6, v7, v8] := by
    apply Array.toList_inj.1
    simpa [Value.cells] using hcs
  subst this
  exact hR reachBytes hM reach_le
end
end Go.Proofs.Ytpmfohhpaoagfaa
