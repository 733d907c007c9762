/-
  PeriodPell: for every input the law returns true, and its arguments read as they did. No condition.
-/
import Derived.Test.YtpmfohhpaoagfaaRows
import Derived.Test.YtpmfohhpaoagfaaMO
namespace Go.Proofs.Ytpmfohhpaoagfaa
open Go Go.ChangeShapes Go.WideShapes Go.ChangeAt Go.RowKit Go.Joins Go.Deep
theorem ownKnobNone : ownKnob Try.prog.godebug = none := by kernel_rfl
set_option maxRecDepth 100000 in
theorem pell_lifted (os : Os) (started : os.Started) (H : Type) (enc : TypeId × Value → H) :
    ReturnsInHanded {} Try.checked os 3 .any (Rows.periodPellSpec.pre6 enc Try.prog Try.f3 [] false)
      (Rows.periodPellSpec.post enc Try.prog Try.f3 false true false false) := by
  refine returnsInHanded_of_change_sized (C := Try.checked) ownKnobNone started (by kernel_rfl) Try.func3
    (ChangeSpec.witness6 (enc := enc) (C := Try.checked) false ⟨#[], #[.int .i64 0, .int .i64 0, .agg #[.bool false, .slice none 0 0, .bool false, .slice none 0 0]], []⟩ 8 (by kernel_rfl) (by kernel_rfl) (by kernel_rfl) (by kernel_rfl)) ?_
  intro W base args ds gs before hval0 hW _ hsz _
  have hW' := hW
  obtain ⟨p, q, hA0, hV, rfl, hfz, hnd⟩ := hW
  have hA : DataW.TrodAll enc Try.prog W 0 (fun _ => true) true Try.f3.params.toList args.toList ds p := hA0
  rw [Try.params3] at hA
  obtain ⟨v0, v1, v2, d0, d1, d2, p0, p1, p2, rfl, rfl, rfl, h0, h1, h2⟩ := trodAll_three hA
  obtain ⟨rfl, rfl⟩ := trodVars_none hV
  have P3 : Try.f3.params = #[3, 3, 26] := Try.params3
  obtain ⟨n, rfl, rfl, rfl, wf0⟩ := open_int Try.underlying3 (hval0 0 3 v0 (by rw [P3]; rfl) rfl) h0
  obtain ⟨m, rfl, rfl, rfl, wf1⟩ := open_int Try.underlying3 (hval0 1 3 v1 (by rw [P3]; rfl) rfl) h1
  have hb : -9223372036854775808 ≤ n ∧ n ≤ 9223372036854775807 := by
    have h : IntKind.i64.min ≤ n ∧ n ≤ IntKind.i64.max := by simpa [Lit.wf] using wf0
    have e1 : IntKind.i64.min = -9223372036854775808 := rfl
    have e2 : IntKind.i64.max = 9223372036854775807 := rfl
    omega
  have hw2 : ∀ k ∈ d2.weights Try.prog 26, k ≤ reachBytes := by
    intro k hk
    have hz := List.all_eq_true.1 hsz
    rw [P3] at hz
    exact of_decide_eq_true (hz k (DataW.weights_mem_each (j := 2) (t := 26) (d := d2) rfl rfl k hk))
  have hR : RawF W v2 := rawF_of (hval0 2 26 v2 (by rw [P3]; rfl) rfl) h2 hw2
  have hlt : ∀ x ∈ p2, x.block < W.heap.size := fun x hx => hW'.lt x (by simp [hx])
  have key := pell_c n m v2 W hb.1 hb.2 hR
  refine key.mono fun e W' h => ?_
  obtain ⟨rfl, hE⟩ := h
  refine ⟨_, rfl, _, _, _, [], [] ++ [] ++ p2, [], hW', trodAll_mk1 (shut_bool Try.underlying4 _), ?_, rfl, hE.frame _, fun h => by cases h⟩
  have hb := Below.trod (by kernel_rfl) (by kernel_rfl) (of_decide_eq_true (by kernel_rfl)) h2 hE hlt
  have : Try.f3.params.toList = [3, 3, 26] := by rw [P3]
  rw [this]
  exact trodAll_mk3 (shut_int Try.underlying3 wf0) (shut_int Try.underlying3 wf1) hb
theorem pell_holds : Rows.PeriodPellSaid :=
  OpenClaim.holds_of_wide 3 Try.f3 rfl rfl rfl rfl rfl rfl rfl ⟨rfl, rfl, rfl, rfl, rfl⟩ rfl rfl rfl rfl rfl (by kernel_rfl) Try.func3 (by kernel_rfl)
    (of_decide_eq_true (by kernel_rfl)) (by unfold Func.isWrapper; first | (rw [if_pos (by decide +kernel)]; kernel_rfl) | (rw [if_neg (by decide +kernel)]; exact ⟨rfl, rfl⟩))
    (fun os started H enc _ => pell_lifted os started H enc)
#print axioms pell_holds
end Go.Proofs.Ytpmfohhpaoagfaa
