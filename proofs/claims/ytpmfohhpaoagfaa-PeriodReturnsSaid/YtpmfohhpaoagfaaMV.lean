/-
  PeriodReturns: for every input the law returns true, and its arguments read as they did. No condition.
-/
import Derived.Test.YtpmfohhpaoagfaaRows
import Derived.Test.YtpmfohhpaoagfaaMU
import Derived.Test.YtpmfohhpaoagfaaMT
namespace Go.Proofs.Ytpmfohhpaoagfaa
open Go Go.ChangeShapes Go.WideShapes Go.ChangeAt Go.RowKit Go.Joins Go.Deep
theorem ownKnobPeriodReturns : ownKnob Try.prog.godebug = none := by kernel_rfl
set_option maxRecDepth 100000 in
theorem returns_lifted (os : Os) (started : os.Started) (H : Type) (enc : TypeId × Value → H) :
    ReturnsInHanded {} Try.checked os 6 .any (Rows.periodReturnsSpec.pre6 enc Try.prog Try.f6 [] false)
      (Rows.periodReturnsSpec.post enc Try.prog Try.f6 false true false false) := by
  refine returnsInHanded_of_change_sized (C := Try.checked) ownKnobPeriodReturns started (by kernel_rfl) Try.func6
    (ChangeSpec.witness6 (enc := enc) (C := Try.checked) false ⟨#[], #[.agg #[.bool false, .slice none 0 0, .bool false, .slice none 0 0, .bool false, .slice none 0 0, .bool false, .slice none 0 0, .bool false, .slice none 0 0, .bool false, .slice none 0 0, .bool false, .slice none 0 0, .bool false, .slice none 0 0], .agg #[.bool false, .slice none 0 0, .bool false, .slice none 0 0, .bool false, .slice none 0 0, .bool false, .slice none 0 0], .int .i64 0], []⟩ 8 (by kernel_rfl) (by kernel_rfl) (by kernel_rfl) (by kernel_rfl)) ?_
  intro W base args ds gs before hval0 hW _ hsz _
  have hW' := hW
  obtain ⟨p, q, hA0, hV, rfl, hfz, hnd⟩ := hW
  have hA : DataW.TrodAll enc Try.prog W 0 (fun _ => true) true Try.f6.params.toList args.toList ds p := hA0
  rw [Try.params6] at hA
  obtain ⟨v0, v1, v2, d0, d1, d2, p0, p1, p2, rfl, rfl, rfl, h0, h1, h2⟩ := trodAll_three hA
  obtain ⟨rfl, rfl⟩ := trodVars_none hV
  have P3 : Try.f6.params = #[40, 48, 3] := Try.params6
  have hw0 : ∀ k ∈ d0.weights Try.prog 40, k ≤ reachBytes := by
    intro k hk
    have hz := List.all_eq_true.1 hsz
    rw [P3] at hz
    exact of_decide_eq_true (hz k (DataW.weights_mem_each (j := 0) (t := 40) (d := d0) rfl rfl k hk))
  have hR0 : RawM W v0 := rawM_of (hval0 0 40 v0 (by rw [P3]; rfl) rfl) h0 hw0
  have hlt0 : ∀ x ∈ p0, x.block < W.heap.size := fun x hx => hW'.lt x (by simp [hx])
  have hw1 : ∀ k ∈ d1.weights Try.prog 48, k ≤ reachBytes := by
    intro k hk
    have hz := List.all_eq_true.1 hsz
    rw [P3] at hz
    exact of_decide_eq_true (hz k (DataW.weights_mem_each (j := 1) (t := 48) (d := d1) rfl rfl k hk))
  have hR1 : RawY W v1 := rawY_of (hval0 1 48 v1 (by rw [P3]; rfl) rfl) h1 hw1
  have hlt1 : ∀ x ∈ p1, x.block < W.heap.size := fun x hx => hW'.lt x (by simp [hx])
  obtain ⟨n2, rfl, rfl, rfl, wf2⟩ := open_int Try.underlying3 (hval0 2 3 v2 (by rw [P3]; rfl) rfl) h2
  have key : Calls Try.prog 6 #[v0, v1, .int .i64 n2] W fun e w' => e = .returned (.bool true) ∧ Ext W w' := returns_c n2 v0 v1 W hR0 hR1
  refine key.mono fun e W' h => ?_
  obtain ⟨rfl, hE⟩ := h
  refine ⟨_, rfl, _, _, _, [], p0 ++ p1 ++ [], [], hW', trodAll_mk1 (shut_bool Try.underlying4 _), ?_, rfl, hE.frame _, fun h => by cases h⟩
  have : Try.f6.params.toList = [40, 48, 3] := by rw [P3]
  rw [this]
  have hz := trodAll_mk3 (Below.trod (by kernel_rfl) (by kernel_rfl) (of_decide_eq_true (by kernel_rfl)) h0 hE hlt0) (Below.trod (by kernel_rfl) (by kernel_rfl) (of_decide_eq_true (by kernel_rfl)) h1 hE hlt1) (shut_int Try.underlying3 wf2)
  rw [← List.append_assoc] at hz
  exact hz
theorem returns_holds : Rows.PeriodReturnsSaid :=
  OpenClaim.holds_of_wide 6 Try.f6 rfl rfl rfl rfl rfl rfl rfl ⟨rfl, rfl, rfl, rfl, rfl⟩ rfl rfl rfl rfl rfl (by kernel_rfl) Try.func6 (by kernel_rfl)
    (of_decide_eq_true (by kernel_rfl)) (by unfold Func.isWrapper; first | (rw [if_pos (by decide +kernel)]; kernel_rfl) | (rw [if_neg (by decide +kernel)]; exact ⟨rfl, rfl⟩))
    (fun os started H enc _ => returns_lifted os started H enc)
#print axioms returns_holds
end Go.Proofs.Ytpmfohhpaoagfaa
