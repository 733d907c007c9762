/-
  Slits and the reference's Slits answer alike.
-/
import Derived.Test.YtbpjggljbkppaaaGreatDoorSlitsRef
import Derived.Test.YtbpjggljbkppaaaGreatDoorApartC
namespace Go.Proofs.YtbpjggljbkppaaaGreatDoor
open Go Go.RowKit Go.Proofs
/-- What both leave. -/
def SRes (xs : List (Nat × Nat)) (code : Int) (w : World) (e : Ending) (w' : World) : Prop :=
  ∃ a, e = .returned (.tuple #[.slice a xs.length xs.length, .int .i64 code]) ∧ w'.ownsRow w.heap.size 61 1 (.slice a xs.length xs.length) xs.length (xs.map cxV) ∧ Ext w w'
theorem sres_none {code : Int} {w w' : World} {e : Ending} (h : e = .returned (.tuple #[.slice none 0 0, .int .i64 code]) ∧ w = w') : SRes [] code w e w' := by
  obtain ⟨rfl, rfl⟩ := h
  exact ⟨none, rfl, World.ownsRow_nil _ _ _ _, Ext.refl _⟩
/-- The row that is thrown. -/
def litXs (wd ap p s : Nat) : List (Nat × Nat) := (List.range p).map fun i => if onB wd ap s 0 i then (4607182418800017408, 0) else (0, 0)
theorem sres_some {wd ap p s : Nat} {w w' : World} {e : Ending} (hp : p ≤ 65536) (h : e = .returned (.tuple #[.slice (some ⟨w.heap.size, 0, none⟩) p p, .int .i64 0]) ∧ ∃ arr : Array Value, w' = w.alloc (.cells arr 61) ∧ Lit wd ap p s 0 arr) : SRes (litXs wd ap p s) 0 w e w' := by
  obtain ⟨rfl, arr, rfl, hsz, hl⟩ := h
  have hlen : (litXs wd ap p s).length = p := by simp [litXs]
  have harr : arr.toList = (litXs wd ap p s).map cxV := by
    apply List.ext_getElem?
    intro i
    by_cases hi : i < p
    · rw [Array.getElem?_toList, hl i hi]
      simp only [litXs, List.map_map, List.getElem?_map, List.getElem?_range hi, Option.map_some, Function.comp]
      congr 1
      unfold litV cxV oneV zeroV
      split <;> rfl
    · rw [List.getElem?_eq_none (by simpa [hsz] using hi), List.getElem?_eq_none (by simpa [litXs] using hi)]
  refine ⟨some ⟨w.heap.size, 0, none⟩, by rw [hlen], ⟨by simp, .inr ⟨w.heap.size, p, arr, by rw [hlen], Nat.le_refl _, heap_alloc_new w _, by rw [hlen]; exact Nat.le_refl _, by unfold maxLen; omega, by rw [hsz]; simp, ?_⟩⟩, (Ext.refl w).al _⟩
  rw [hlen, harr]
  exact List.take_of_length_le (by simp [hlen])
theorem slits_uni (n s wd ap : Int) (hn : n ≤ 9223372036854775807) (hap : ap ≤ 9223372036854775807) (hs : s ≤ 9223372036854775807) : ∃ xs code, xs.length ≤ 65536 ∧
    (∀ w, Calls Tryz.prog 5 #[.int .i64 n, .int .i64 s, .int .i64 wd, .int .i64 ap] w (SRes xs code w)) ∧
    (∀ w, Calls Tryz.prog 6 #[.int .i64 n, .int .i64 s, .int .i64 wd, .int .i64 ap] w (SRes xs code w)) := by
  by_cases h1 : n < 0 ∨ s < 1 ∨ wd < 1 ∨ ap < wd
  · exact ⟨[], 1, by simp, fun w => (slits_arg n s wd ap w h1).mono fun _ _ => sres_none, fun w => (refSlits_arg n s wd ap w h1).mono fun _ _ => sres_none⟩
  · by_cases h4 : 16 < n
    · exact ⟨[], 4, by simp, fun w => (slits_lim n s wd ap w (by omega) (by omega) (by omega) (by omega) h4).mono fun _ _ => sres_none, fun w => (refSlits_lim n s wd ap w (by omega) (by omega) (by omega) (by omega) h4).mono fun _ _ => sres_none⟩
    · obtain ⟨N, rfl⟩ := Int.eq_ofNat_of_zero_le (show 0 ≤ n by omega)
      have hN : N ≤ 16 := by omega
      obtain ⟨p, hp⟩ : ∃ p, p = 2 ^ N := ⟨_, rfl⟩
      have hp1 : p ≤ 65536 := by rw [hp]; exact pow_le16 hN
      have hw : wrap64 (2 ^ ((N : Int)).toNat) = (p : Int) := by
        rw [Int.toNat_natCast, hp]
        have : (2 ^ N : Int) = ((2 ^ N : Nat) : Int) := by simp
        rw [this]
        have := pow_le16 hN
        unfold wrap64; omega
      by_cases h5 : wd ≤ p
      · by_cases h6 : s - 1 ≤ ((p : Int) - wd) / ap
        · exact ⟨litXs wd.toNat ap.toNat p s.toNat, 0, by simp [litXs]; exact hp1,
            fun w => (slits_ok N s wd ap p w (by omega) (by omega) (by omega) (by omega) (by omega) hap hs hw hp1 h5 h6).mono fun _ _ => sres_some hp1,
            fun w => (refSlits_ok N s wd ap p w (by omega) (by omega) (by omega) hN hap hs hp.symm hp1 h5 h6).mono fun _ _ => sres_some hp1⟩
        · exact ⟨[], 4, by simp, fun w => (slits_lim3 N s wd ap p w (by omega) (by omega) (by omega) (by omega) (by omega) hap hs hw hp1 h5 (by omega)).mono fun _ _ => sres_none,
            fun w => (refSlits_lim3 N s wd ap p w (by omega) (by omega) (by omega) hN hap hs hp.symm hp1 h5 (by omega)).mono fun _ _ => sres_none⟩
      · exact ⟨[], 4, by simp, fun w => (slits_lim2 N s wd ap p w (by omega) (by omega) (by omega) (by omega) (by omega) hw hp1 (by omega)).mono fun _ _ => sres_none,
          fun w => (refSlits_lim2 N s wd ap p w (by omega) (by omega) (by omega) hN hp.symm hp1 (by omega)).mono fun _ _ => sres_none⟩
end Go.Proofs.YtbpjggljbkppaaaGreatDoor
