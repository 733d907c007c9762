/-
  exact: trim, signed, slices.Clone, own, size. exact: slices.Clone, own, size. exact: bits.Add32, bits.Sub32, add, sub. exact: add, sub. exact: Plus. exact: Of, Sign, Check, Cmp, Minus. exact: Times.
-/
import Derived.Test.YtpmfohhpaoagfaaMA
import Derived.Laws.AppendOwnNone
namespace Go.Proofs.Ytpmfohhpaoagfaa
open Go Go.RowKit Go.Proofs
theorem limV_ne {l : List Nat} {k : Nat} (h : k < l.length) : limV l ≠ [] := by
  intro h0
  have := congrArg List.length h0
  simp [limV] at this
  subst this
  simp at h
set_option maxHeartbeats 800000 in
theorem trim_c (a : Option Addr) (l : List Nat) (c : Nat) (w : World) (hok : OkL l) (hlen : l.length ≤ 4294967296) (hcap : l.length ≤ c) (h : Row w a (limV l)) :
    Calls Try.prog 89 #[.slice a l.length c] w fun e w' => e = .returned (.slice a (lim (val l)).length c) ∧ w = w' := by
  obtain ⟨b, off, ha, hc⟩ := h
  replace hc := mkHid hc
  replace ha := mkHid ha
  go_enter Try.func89, Try.ntmps89
  go_wp2_with fail
  go_loop [0] (fun s => ∃ m : Nat, m ≤ l.length ∧ s = .slice a m c ∧ val (l.take m) = val l) (fun s => match s with | .slice _ n _ => n | _ => 0)
  case atStart => exact ⟨l.length, Nat.le_refl _, rfl, by rw [List.take_length]⟩
  case round =>
    obtain ⟨m, hm, rfl, hv⟩ := hrel
    replace hv := mkHid hv
    by_cases h0 : m = 0
    · subst h0
      have e0 : lim (val l) = [] := by rw [← hv.out, List.take_zero]; exact lim_zero
      replace e0 := mkHid (congrArg List.length e0)
      go_wp2_with fail
      go_ret
      exact ⟨by rw [e0.out]; rfl, rfl⟩
    · obtain ⟨k, rfl⟩ : ∃ k, m = k + 1 := ⟨m - 1, by omega⟩
      have hcell := hc.out k (by rw [limV_length]; omega)
      rw [limV_getD _ _ (by omega)] at hcell
      have ha2 := ha.out (limV_ne (show k < l.length by omega))
      by_cases hz : l.getD k 0 = 0
      · have HV : Hid (val (l.take k) = val l) := by
          have := val_take_succ l k (by omega)
          rw [hz] at this
          exact mkHid (by rw [← hv.out, this]; simp)
        rw [hz] at hcell
        replace hz := mkHid hz
        rw [ha2]
        replace ha2 := mkHid ha2
        go_wp2_with fail
        go_round
        case rel => exact ⟨k, by omega, rfl, HV.out⟩
        case measure => simp
      · have e0 : lim (val l) = l.take (k + 1) := by
          rw [← hv.out]
          refine lim_val (okL_take hok _) (.inr ?_)
          rw [List.take_succ_eq_append_getElem (by omega), List.getLastD_eq_getLast?, List.getLast?_append]
          simpa [show k < l.length by omega] using hz
        have hn : (lim (val l)).length = k + 1 := by rw [e0, List.length_take]; omega
        have hz2 : (((l.getD k 0 : Nat) : Int) == 0) = false := by simpa using hz
        replace e0 := mkHid e0
        replace hn := mkHid hn
        replace hz := mkHid hz
        generalize l.getD k 0 = y at hcell hz2
        rw [ha2]
        replace ha2 := mkHid ha2
        go_wp2_with fail
        go_ret
        exact ⟨by rw [hn.out, ha2.out]; rfl, rfl⟩
/-- The cells of a trimmed list. -/
theorem Row.lim {w : World} {a : Option Addr} {l : List Nat} (h : Row w a (limV l)) (hok : OkL l) : Row w a (limV (lim (val l))) := by
  rw [← take_lim hok, limV_take]
  exact h.take _
theorem MagO.lim {w : World} {base : Nat} {a : Option Addr} {c : Nat} {l : List Nat} (h : MagO w base (.slice a l.length c) l) (hok : OkL l) : MagO w base (.slice a (lim (val l)).length c) (lim (val l)) := by
  unfold MagO at *
  have := ownsRow_take h (lim_length_val hok)
  rwa [← limV_take, take_lim hok] at this
theorem agg_ret {n : Bool} {s : Value} {n' : Bool} {s' : Value} (h : n = n') (h' : s = s') : Ending.returned (.agg #[.bool n, s]) = .returned (.agg #[.bool n', s']) := by rw [h, h']
def sg (neg : Bool) (n : Nat) : Int := if neg then -(n : Int) else n
theorem sg_natAbs (neg : Bool) (n : Nat) : (sg neg n).natAbs = n := by unfold sg; split <;> simp
theorem sg_neg (neg : Bool) (n : Nat) : decide (sg neg n < 0) = (neg && decide (n ≠ 0)) := by
  unfold sg
  cases neg
  · simp
  · rw [Bool.eq_iff_iff]
    simp
    omega
set_option maxHeartbeats 800000 in
theorem signed_c (neg : Bool) (base : Nat) (s : Value) (l : List Nat) (w : World) (hok : OkL l) (hlen : l.length ≤ 4294967296) (h : MagO w base s l) :
    Calls Try.prog 82 #[.bool neg, s] w fun e w' => ∃ v, e = .returned v ∧ IntO w' base v (sg neg (val l)) ∧ Ext w w' := by
  obtain ⟨a, c, rfl, hcap, hrow⟩ := row_of_owns h
  replace h := mkHid h
  replace hrow := mkHid hrow
  have HT := fun w' (e : Row w' a (limV l)) => trim_c a l c w' hok hlen hcap e
  by_cases h0 : val l = 0
  · rw [h0, lim_zero] at HT
    have hr : ∀ w' : World, IntO w' base (.agg #[.bool false, .slice none 0 0]) (sg neg (val l)) := fun w' =>
      ⟨.slice none 0 0, by rw [sg_neg, h0]; simp, by rw [sg_natAbs, h0, lim_zero]; exact magO_nil _ _⟩
    replace HT := mkHid HT
    clear h0
    go_enter Try.func82, Try.ntmps82
    go_wp2_with fail
    refine (HT.out _ (hrow.out.ext ((Ext.refl _).al _))).mono ?_
    rintro e w' ⟨rfl, rfl⟩
    go_wp2_with fail
    exact bodyPost_ret (v := .agg #[.bool false, .slice none 0 0]) (by simp [results, Try.results82, go_sem]) rfl ⟨_, rfl, hr _, (Ext.refl _).al _⟩
  · have hne : (((lim (val l)).length : Int) == 0) = false := by
      rw [lim_pos h0]
      simp
      omega
    have hr : ∀ w' : World, Ext w w' → IntO w' base (.agg #[.bool neg, .slice a (lim (val l)).length c]) (sg neg (val l)) := fun w' e =>
      ⟨.slice a (lim (val l)).length c, by rw [sg_neg]; simp [h0], by rw [sg_natAbs]; exact (h.out.lim hok).ext e⟩
    replace HT := mkHid HT
    clear h0
    go_enter Try.func82, Try.ntmps82
    go_wp2_with fail
    refine (HT.out _ (hrow.out.ext ((Ext.refl _).al _))).mono ?_
    rintro e w' ⟨rfl, rfl⟩
    go_wp2_with fail
    exact bodyPost_ret (v := .agg #[.bool neg, .slice a (lim (val l)).length c]) (by simp [results, Try.results82, go_sem]) rfl ⟨_, rfl, hr _ ((Ext.refl _).al _), (Ext.refl _).al _⟩
end Go.Proofs.Ytpmfohhpaoagfaa
namespace Go.Proofs.Ytpmfohhpaoagfaa
open Go Go.RowKit Go.Proofs
theorem u32_info : (Try.prog.info? 94).map (fun i => (i.zero, i.size, i.bytes)) = some (some (.int .u32 0), 1, 4) := by kernel_rfl
theorem u32_under : Try.prog.underlying 22 = some (.slice 94) := by kernel_rfl
theorem limV_one (l : List Nat) : ∀ u ∈ limV l, u.oneCell' = true := by
  intro u hu
  simp only [limV, List.mem_map] at hu
  obtain ⟨x, _, rfl⟩ := hu
  rfl
theorem row_cells {w : World} {b off : Nat} {xs : List Value} (h : ∀ j, j < xs.length → w.cell? ⟨b, off + j, none⟩ = some (xs.getD j undef)) :
    ∀ j u, xs[j]? = some u → w.cell? ((⟨b, off, none⟩ : Addr).add j) = some u := by
  intro j u hu
  have hj := (List.getElem?_eq_some_iff.1 hu).1
  have := h j hj
  have e : (⟨b, off, none⟩ : Addr).add j = ⟨b, off + j, none⟩ := by
    unfold Addr.add
    split
    · rename_i h0; subst h0; rfl
    · rfl
  rw [e, this]
  simp [List.getD_eq_getElem?_getD, hu]
set_option maxHeartbeats 800000 in
theorem clone_c (a : Option Addr) (l : List Nat) (c : Nat) (w : World) (hlen : l.length ≤ 4294967296) (h : Row w a (limV l)) :
    Calls Try.prog 86 #[.slice a l.length c] w fun e w' => ∃ v, e = .returned v ∧ MagO w' w.heap.size v l ∧ Ext w w' := by
  obtain ⟨b, off, ha, hc⟩ := h
  have hnil := fun w => Lib.run_eql_slice_nil (P := Try.prog) w 22 94 a l.length c 0 0 u32_under
  cases a with
  | none =>
    have hl : l = [] := by
      cases l with
      | nil => rfl
      | cons x l => exact absurd (ha (by simp [limV])) (by simp)
    subst hl
    clear ha hc hlen
    simp only [List.length_nil, Option.isNone_none] at hnil ⊢
    go_enter Try.func86, Try.ntmps86
    go_wp2_with fail
    go_ret
    exact ⟨_, rfl, magO_nil _ _, Ext.refl _⟩
  | some ad =>
    have hnews : ∀ j u, (limV l)[j]? = some u → w.cell? (ad.add j) = some u := by
      intro j u hu
      have hne : limV l ≠ [] := by
        intro h0
        rw [h0] at hu
        cases hu
      have := ha hne
      rw [Option.some.inj this]
      exact row_cells hc j u hu
    replace hnews := mkHid hnews
    clear ha hc
    obtain ⟨i0, hi, hz0, hz1, hz2⟩ := info_parts u32_info
    go_enter Try.func86, Try.ntmps86
    go_wp2_with (at_builtin; refine wpList_append_own _ rfl (.tmp 5) (.tmp 6) 22 rfl w.heap.size 94 i0 (.int .u32 0) 1 4 u32_under hi hz0 hz1 hz2 rfl (by decide) (.slice (some ⟨w.heap.size, 0, none⟩) 0 0) 0 [] rfl ?c0 ad l.length c (limV l) rfl ?c1 ?c2 ?c3 ?c4 ?c5 ?c6 ?_)
    case c0 => exact World.ownsRow_made _ _ _ (Nat.le_refl _) (by simp [maxLen]) (by simp)
    case c1 => simp [limV]
    case c2 => exact fun j u hu => ((Ext.refl w).al _).cell (hnews.out j u hu)
    case c3 => exact limV_one l
    case c4 => unfold maxLen; omega
    case c5 => omega
    case c6 => simp
    intro v' w1 hown hgrow _
    have hr : MagO w1 w.heap.size v' l := by
      simpa [MagO] using hown
    have he : Ext w w1 := ((Ext.refl w).al _).gr hgrow (fun k hk => by simp [Value.ownBlock] at hk; omega)
    clear hown hgrow
    go_wp2
    go_ret
    exact ⟨_, rfl, hr, he⟩
set_option maxHeartbeats 800000 in
theorem own_c (neg : Bool) (a : Option Addr) (l : List Nat) (c : Nat) (w : World) (hok : OkL l) (hlen : l.length ≤ 4294967296) (h : Row w a (limV l)) :
    Calls Try.prog 80 #[.bool neg, .slice a l.length c] w fun e w' => ∃ v, e = .returned v ∧ IntO w' w.heap.size v (sg neg (val l)) ∧ Ext w w' := by
  replace h := mkHid h
  go_enter Try.func80, Try.ntmps80
  go_wp2_with fail
  refine (clone_c a l c _ hlen (h.out.ext ((Ext.refl _).al _))).mono ?_
  rintro e w1 ⟨v1, rfl, hm, he⟩
  replace hm := mkHid hm
  replace he := mkHid he
  go_wp2_with fail
  refine (signed_c neg _ v1 l w1 hok hlen hm.out).mono ?_
  rintro e w2 ⟨v2, rfl, hi, he2⟩
  have hE : Ext w w2 := (((Ext.refl w).al _).trans he.out).trans he2
  have hB := Ext.new (he.out.trans he2)
  obtain ⟨nb, a2, n2, c2, rfl⟩ := hi.r.shape
  have hR : IntO (w2.setRow w.heap.size #[.bool nb, .slice a2 n2 c2]) w.heap.size (.agg #[.bool nb, .slice a2 n2 c2]) (sg neg (val l)) := (hi.row (by have := he.out.size; simp at this ⊢; try omega) _).mono (by have := he.out.size; simp at this ⊢; try omega)
  go_wp2_with (refine wpList_store_row rfl 24 (.tmp 4) (.tmp 8) rfl w.heap.size #[.bool nb, .slice a2 n2 c2] rfl rfl 24 _ hB (by kernel_rfl) rfl (by kernel_rfl) ?_)
  exact bodyPost_ret (results_cell_row rfl _ _ w.heap.size 24 #[.bool nb, .slice a2 n2 c2] (0, 0) _ rfl (setRow_heap _ _ _ _ _ _ hB) Try.underlying24 rfl (by kernel_rfl)) rfl ⟨_, rfl, hR, hE.row (Nat.le_refl _) _⟩
/-- What 'size' tells. -/
def SizeRes (r : Int) (m n : Nat) : Prop := (r < 0 ↔ m < n) ∧ (r = 0 ↔ m = n) ∧ -9223372036854775807 ≤ r ∧ r ≤ 9223372036854775807
theorem ne_cast {m n : Nat} (h : ¬ m = n) : ((m : Int) != (n : Int)) = true := by
  have : ¬ (m : Int) = n := by omega
  simpa using this
theorem lim_drop_zero (l : List Nat) : l.drop l.length = [] := List.drop_length
set_option maxHeartbeats 1600000 in
theorem size_c (a a' : Option Addr) (c c' : Nat) (m n : Nat) (w : World) (hl : (lim m).length ≤ 4294967296) (hl' : (lim n).length ≤ 4294967296)
    (h : Row w a (limV (lim m))) (h' : Row w a' (limV (lim n))) :
    Calls Try.prog 79 #[.slice a (lim m).length c, .slice a' (lim n).length c'] w fun e w' => ∃ r, e = .returned (.int .i64 r) ∧ SizeRes r m n ∧ Ext w w' := by
  obtain ⟨l, hlm⟩ : ∃ l, l = lim m := ⟨_, rfl⟩
  obtain ⟨l', hln⟩ : ∃ l', l' = lim n := ⟨_, rfl⟩
  have hok : OkL l := hlm ▸ lim_ok m
  have hok' : OkL l' := hln ▸ lim_ok n
  have hv : val l = m := by rw [hlm, val_lim]
  have hv' : val l' = n := by rw [hln, val_lim]
  rw [← hlm] at hl h ⊢
  rw [← hln] at hl' h' ⊢
  by_cases hlen : l.length = l'.length
  · have hE : Hid (l.length = l'.length) := mkHid hlen
    obtain ⟨b, off, ha, hc⟩ := h
    obtain ⟨b', off', ha', hc'⟩ := h'
    replace ha := mkHid ha
    replace ha' := mkHid ha'
    replace hc := mkHid hc
    replace hc' := mkHid hc'
    replace hv := mkHid hv
    replace hv' := mkHid hv'
    rw [← hlen]
    clear hlm hln hl' hlen
    go_enter Try.func79, Try.ntmps79
    go_wp2_with fail
    go_loopw [5] (fun i wr => ∃ k : Nat, k ≤ l.length ∧ i = .int .i64 ((k : Int) - 1) ∧ l.drop k = l'.drop k ∧ Ext w wr) (fun i _ => (intOf i + 1).toNat)
    case atStart => exact ⟨l.length, Nat.le_refl _, rfl, by rw [List.drop_length, hE.out, List.drop_length], Ext.refl _⟩
    case round =>
      obtain ⟨k, hk, rfl, hd, he⟩ := hrel
      replace hd := mkHid hd
      replace he := mkHid he
      by_cases h0 : k = 0
      · subst h0
        go_wp2_with fail
        go_ret
        have e : l = l' := by simpa using hd.out
        exact ⟨0, rfl, ⟨by rw [← hv.out, ← hv'.out, e]; omega, by rw [← hv.out, ← hv'.out, e]; simp, by omega, by omega⟩, he.out⟩
      · obtain ⟨j, rfl⟩ : ∃ j, k = j + 1 := ⟨k - 1, by omega⟩
        have h1 := he.out.cell (hc.out j (by rw [limV_length]; omega))
        have h2 := he.out.cell (hc'.out j (by rw [limV_length]; have := hE.out; omega))
        rw [limV_getD _ _ (by omega)] at h1
        rw [limV_getD _ _ (by have := hE.out; omega)] at h2
        rw [ha.out (limV_ne (show j < l.length by omega)), ha'.out (limV_ne (show j < l'.length by have := hE.out; omega))]
        have hx1 : ((j + 1 : Nat) : Int) - 1 = (j : Int) := by omega
        rw [hx1]
        have d1 : l.drop j = l.getD j 0 :: l.drop (j + 1) := by
          rw [List.drop_eq_getElem_cons (show j < l.length by omega)]; simp [show j < l.length by omega]
        have d2 : l'.drop j = l'.getD j 0 :: l'.drop (j + 1) := by
          have := hE.out
          rw [List.drop_eq_getElem_cons (show j < l'.length by omega)]; simp [show j < l'.length by omega]
        by_cases hx : l.getD j 0 = l'.getD j 0
        · have hdn : Hid (l.drop j = l'.drop j) := mkHid (by rw [d1, d2, hx, hd.out])
          rw [← hx] at h2
          generalize l.getD j 0 = y at h1 h2
          clear d1 d2 hx hx1
          go_wp2_with fail
          go_quiet (fail)
          go_wp2_with fail
          go_roundw
          case rel => exact ⟨j, by omega, by go_num, hdn.out, he.out.drN _⟩
          case measure => simp [intOf] <;> omega
        · have hlt : (l.getD j 0 < l'.getD j 0 → val l < val l') ∧ (l'.getD j 0 < l.getD j 0 → val l' < val l) :=
            ⟨val_lt_of hok j (by omega) hE.out hd.out, val_lt_of hok' j (by have := hE.out; omega) hE.out.symm hd.out.symm⟩
          replace hlt := mkHid hlt
          clear d1 d2 hx1
          have hyb : (((l.getD j 0 : Nat) : Int) != ((l'.getD j 0 : Nat) : Int)) = true := ne_cast hx
          by_cases hy : l.getD j 0 < l'.getD j 0
          · have hr := hlt.out.1 hy
            replace hr := mkHid hr
            have hy2 : (((l.getD j 0 : Nat) : Int)) < ((l'.getD j 0 : Nat) : Int) := by omega
            replace hx := mkHid hx
            replace hy := mkHid hy
            generalize l.getD j 0 = y at h1 hyb hy2
            generalize l'.getD j 0 = y' at h2 hyb hy2
            go_wp2_with fail
            go_quiet (fail)
            go_wp2_with fail
            go_quiet (fail)
            go_wp2_with fail
            go_ret
            exact ⟨-1, rfl, ⟨by rw [← hv.out, ← hv'.out]; simp [hr.out], by rw [← hv.out, ← hv'.out]; have := hr.out; omega, by omega, by omega⟩, (he.out.drN _).drN _⟩
          · have hr := hlt.out.2 (by omega)
            replace hr := mkHid hr
            have hy2 : ¬ ((((l.getD j 0 : Nat) : Int)) < ((l'.getD j 0 : Nat) : Int)) := by omega
            replace hx := mkHid hx
            replace hy := mkHid hy
            generalize l.getD j 0 = y at h1 hyb hy2
            generalize l'.getD j 0 = y' at h2 hyb hy2
            go_wp2_with fail
            go_quiet (fail)
            go_wp2_with fail
            go_quiet (fail)
            go_wp2_with fail
            go_ret
            exact ⟨1, rfl, ⟨by rw [← hv.out, ← hv'.out]; have := hr.out; omega, by rw [← hv.out, ← hv'.out]; have := hr.out; omega, by omega, by omega⟩, (he.out.drN _).drN _⟩
  · have hr : SizeRes ((l.length : Int) - l'.length) m n := by
      subst hlm
      subst hln
      refine ⟨⟨fun h => lt_of_lim_length (by omega), fun h => ?_⟩, ⟨fun h => absurd (by omega) hlen, fun h => ?_⟩, by omega, by omega⟩
      · have := lim_mono (Nat.le_of_lt h); omega
      · subst h; omega
    have hne : (((l.length : Nat) : Int) != ((l'.length : Nat) : Int)) = true := ne_cast hlen
    replace hr := mkHid hr
    clear hlm hln hok hok' hv hv' h h' hlen
    go_enter Try.func79, Try.ntmps79
    go_wp2_with fail
    go_ret
    exact ⟨_, rfl, hr.out, Ext.refl _⟩
end Go.Proofs.Ytpmfohhpaoagfaa
namespace Go.Proofs.Ytpmfohhpaoagfaa
open Go Go.RowKit Go.Proofs
set_option maxHeartbeats 800000 in
theorem add32_c (x y z : Nat) (w : World) (hx : x < 4294967296) (hy : y < 4294967296) (hz : z ≤ 1) :
    Calls Try.prog 92 #[.int .u32 x, .int .u32 y, .int .u32 z] w fun e w' => e = .returned (.tuple #[.int .u32 ((x + y + z) % 4294967296 : Nat), .int .u32 ((x + y + z) / 4294967296 : Nat)]) ∧ w = w' := by
  go_enter Try.func92, Try.ntmps92
  go_wp2_with fail
  go_ret2
  refine ⟨?_, rfl⟩
  have e1 : (((x + y + z) % 4294967296 : Nat) : Int) = ((x : Int) + y + z) % 4294967296 := by omega
  have e2 : (((x + y + z) / 4294967296 : Nat) : Int) = ((x : Int) + y + z) / 4294967296 := by omega
  exact ret2_eq e1.symm e2.symm
theorem wraps_u32 (n : Int) (h₀ : 0 ≤ n) (h₁ : n < 2 ^ 32) : IntKind.u32.wrap n = n := by rw [IntKind.wrap_u32]; omega
theorem and32 (a b : Nat) (ha : a < 4294967296) (hb : b < 4294967296) : bits .and .u32 a b = ((a &&& b : Nat) : Int) := (bits_nat .u32 32 (by decide) wraps_u32 a b ha hb).1
theorem or32 (a b : Nat) (ha : a < 4294967296) (hb : b < 4294967296) : bits .or .u32 a b = ((a ||| b : Nat) : Int) := (bits_nat .u32 32 (by decide) wraps_u32 a b ha hb).2
theorem xor32 (a b : Nat) (ha : a < 4294967296) (hb : b < 4294967296) : bits .xor .u32 a b = ((a ^^^ b : Nat) : Int) := by
  have e : IntKind.u32.bits = 32 := rfl
  have hlt : a ^^^ b < 2 ^ 32 := Nat.xor_lt_two_pow (n := 32) ha hb
  simp only [bits, BitVec.ofInt_natCast, BitVec.toNat_xor, BitVec.toNat_ofNat, e]
  rw [Nat.mod_eq_of_lt (show a < 2 ^ 32 from ha), Nat.mod_eq_of_lt (show b < 2 ^ 32 from hb)]
  exact wraps_u32 _ (Int.natCast_nonneg _) (by exact_mod_cast hlt)
theorem bit31 (a : Nat) (ha : a < 4294967296) : a.testBit 31 = decide (2147483648 ≤ a) := by
  rw [Nat.testBit_eq_decide_div_mod_eq]
  rw [decide_eq_decide]
  omega
theorem top32 (a : Nat) (ha : a < 4294967296) : a / 2147483648 = if a.testBit 31 = true then 1 else 0 := by
  rw [bit31 a ha]
  by_cases h : 2147483648 ≤ a <;> simp [h] <;> omega
theorem borrow32 (x y z : Nat) (hx : x < 4294967296) (hy : y < 4294967296) (hz : z ≤ 1) :
    (((4294967295 ^^^ x) &&& y) ||| ((4294967295 ^^^ (x ^^^ y)) &&& ((x + 4294967296 - y - z) % 4294967296))) / 2147483648 = 1 - (x + 4294967296 - y - z) / 4294967296 := by
  obtain ⟨d, hd⟩ : ∃ d, d = (x + 4294967296 - y - z) % 4294967296 := ⟨_, rfl⟩
  rw [← hd]
  have hdl : d < 4294967296 := by omega
  have a1 : (4294967295 ^^^ x) &&& y < 2 ^ 32 := Nat.and_lt_two_pow _ hy
  have a2 : (4294967295 ^^^ (x ^^^ y)) &&& d < 2 ^ 32 := Nat.and_lt_two_pow _ hdl
  rw [top32 _ (Nat.or_lt_two_pow a1 a2)]
  simp only [Nat.testBit_or, Nat.testBit_and, Nat.testBit_xor, bit31 x hx, bit31 y hy, bit31 d hdl, show Nat.testBit 4294967295 31 = true from by decide]
  by_cases h1 : 2147483648 ≤ x <;> by_cases h2 : 2147483648 ≤ y <;> by_cases h3 : 2147483648 ≤ d <;> simp [h1, h2, h3] <;> omega
set_option maxHeartbeats 800000 in
theorem sub32_c (x y z : Nat) (w : World) (hx : x < 4294967296) (hy : y < 4294967296) (hz : z ≤ 1) :
    Calls Try.prog 93 #[.int .u32 x, .int .u32 y, .int .u32 z] w fun e w' => e = .returned (.tuple #[.int .u32 ((x + 4294967296 - y - z) % 4294967296 : Nat), .int .u32 (1 - (x + 4294967296 - y - z) / 4294967296 : Nat)]) ∧ w = w' := by
  go_enter Try.func93, Try.ntmps93
  go_wp2_with fail
  go_ret2
  refine ⟨?_, rfl⟩
  have m : IntKind.u32.max = ((4294967295 : Nat) : Int) := rfl
  have d : ((x : Int) - y - z) % 4294967296 = (((x + 4294967296 - y - z) % 4294967296 : Nat) : Int) := by omega
  have dl : (x + 4294967296 - y - z) % 4294967296 < 4294967296 := Nat.mod_lt _ (by omega)
  have l1 : 4294967295 ^^^ x < 2 ^ 32 := Nat.xor_lt_two_pow (n := 32) (by omega) hx
  have l2 : x ^^^ y < 2 ^ 32 := Nat.xor_lt_two_pow (n := 32) hx hy
  have l3 : 4294967295 ^^^ (x ^^^ y) < 2 ^ 32 := Nat.xor_lt_two_pow (n := 32) (by omega) l2
  have b : bits .or .u32 (bits .and .u32 (bits .xor .u32 IntKind.u32.max x) y) (bits .and .u32 (bits .xor .u32 IntKind.u32.max (bits .xor .u32 x y)) (((x : Int) - y - z) % 4294967296)) / 2147483648 =
      ((1 - (x + 4294967296 - y - z) / 4294967296 : Nat) : Int) := by
    rw [m, d, xor32 _ _ (by omega) hx, and32 _ _ l1 hy, xor32 _ _ hx hy, xor32 _ _ (by omega) l2, and32 _ _ l3 dl, or32 _ _ (Nat.and_lt_two_pow (n := 32) _ hy) (Nat.and_lt_two_pow (n := 32) _ dl), ← borrow32 x y z hx hy hz]
    simp
  exact ret2_eq d b
end Go.Proofs.Ytpmfohhpaoagfaa
namespace Go.Proofs.Ytpmfohhpaoagfaa
open Go Go.RowKit Go.Proofs
theorem limV_set (q : List Nat) (k v : Nat) : (limV q).set k (.int .u32 (v : Int)) = limV (q.set k v) := by simp [limV, List.map_set]
theorem limV_arr_set (q : List Nat) (k v : Nat) : (limV q).toArray.setIfInBounds k (.int .u32 (v : Int)) = (limV (q.set k v)).toArray := by
  rw [← limV_set]
  simp
theorem okL_set {q : List Nat} (h : OkL q) {k v : Nat} (hv : v < 4294967296) : OkL (q.set k v) := by
  intro x hx
  rcases List.mem_or_eq_of_mem_set hx with h1 | h1
  · exact h x h1
  · omega
theorem take_set (q : List Nat) (k v : Nat) (hk : k < q.length) : (q.set k v).take (k + 1) = q.take k ++ [v] := by
  rw [List.take_succ_eq_append_getElem (by simpa using hk)]
  simp [List.take_set_of_le]
theorem val_take_set (q : List Nat) (k v : Nat) (hk : k < q.length) : val ((q.set k v).take (k + 1)) = val (q.take k) + 4294967296 ^ k * v := by
  rw [take_set q k v hk, val_append]
  simp [val, Nat.min_eq_left (Nat.le_of_lt hk)]
theorem make32 (n : Nat) (w : World) (h : n ≤ 70368744177664) : (Instr.makeSlice 22 (.int .i64 n) (.int .i64 n)).run Try.prog w = .ok (.slice (some ⟨w.heap.size, 0, none⟩) n n) (w.alloc (.cells (limV (List.replicate n 0)).toArray 94)) := by
  obtain ⟨i0, hi, hz0, hz1, hz2⟩ := info_parts u32_info
  have := run_make w 22 94 i0 _ u32_under hi hz0 .i64 .i64 n n (by omega) (by omega) (by rw [hz2]; omega) (by omega)
  rw [this, hz1]
  have e : madeCells #[Value.int IntKind.u32 0] (n * 1) = (limV (List.replicate n 0)).toArray := by
    simp [madeCells, limV, Array.ext_iff, Nat.mod_one]
  simp only [Int.toNat_natCast, Value.cells, e]
theorem magO_block {w : World} {q : List Nat} (hl : q.length ≤ 4294967296) : MagO (w.alloc (.cells (limV q).toArray 94)) w.heap.size (.slice (some ⟨w.heap.size, 0, none⟩) q.length q.length) q := by
  refine ⟨by simp [limV], .inr ⟨w.heap.size, q.length, _, rfl, Nat.le_refl _, heap_alloc_new w _, Nat.le_refl _, by unfold maxLen; omega, by simp [limV], ?_⟩⟩
  rw [Nat.mul_one, List.take_of_length_le (by simp [limV])]
/-- What is kept while adding. -/
def Adding (l m q : List Nat) (k c : Nat) : Prop := q.length = l.length + 1 ∧ OkL q ∧ c ≤ 1 ∧ val (q.take k) + 4294967296 ^ k * c = val (l.take k) + val (m.take k)
theorem val_take_ge (m : List Nat) (k : Nat) : val (m.take (k + 1)) = val (m.take k) + 4294967296 ^ k * (if k < m.length then m.getD k 0 else 0) := by
  by_cases h : k < m.length
  · rw [if_pos h]; exact val_take_succ m k h
  · rw [if_neg h, List.take_of_length_le (by omega), List.take_of_length_le (by omega)]; simp
theorem adding_step {l m q : List Nat} {k c y : Nat} (h : Adding l m q k c) (hl : OkL l) (hm : OkL m) (hk : k < l.length) (hy : y = if k < m.length then m.getD k 0 else 0) :
    Adding l m (q.set k ((l.getD k 0 + y + c) % 4294967296)) (k + 1) ((l.getD k 0 + y + c) / 4294967296) := by
  obtain ⟨h1, h2, h3, h4⟩ := h
  have hx := okL_get hl k
  have hy2 : y < 4294967296 := by
    rw [hy]; split
    · exact okL_get hm k
    · omega
  refine ⟨by simpa using h1, okL_set h2 (Nat.mod_lt _ (by omega)), by omega, ?_⟩
  rw [val_take_set _ _ _ (by omega), val_take_succ l k hk, val_take_ge m k, ← hy, Nat.pow_succ]
  have e : l.getD k 0 + y + c = (l.getD k 0 + y + c) % 4294967296 + 4294967296 * ((l.getD k 0 + y + c) / 4294967296) := (Nat.mod_add_div _ _).symm
  generalize (l.getD k 0 + y + c) % 4294967296 = r at *
  generalize (l.getD k 0 + y + c) / 4294967296 = s at *
  generalize 4294967296 ^ k = p at *
  have e2 : p * (l.getD k 0 + y + c) = p * (r + 4294967296 * s) := by rw [e]
  simp only [Nat.mul_add] at e2
  rw [← Nat.mul_assoc] at e2
  omega
theorem adding_start (l m : List Nat) : Adding l m (List.replicate (l.length + 1) 0) 0 0 :=
  ⟨by simp, fun x hx => by rw [List.eq_of_mem_replicate hx]; omega, by omega, by simp [val]⟩
theorem adding_end {l m q : List Nat} {c : Nat} (h : Adding l m q l.length c) (hm : m.length ≤ l.length) : (q.set l.length c).length = l.length + 1 ∧ OkL (q.set l.length c) ∧ val (q.set l.length c) = val l + val m := by
  obtain ⟨h1, h2, h3, h4⟩ := h
  refine ⟨by simpa using h1, okL_set h2 (by omega), ?_⟩
  have := val_take_set q l.length c (by omega)
  rw [List.take_of_length_le (by simp; omega)] at this
  rw [this, h4, List.take_length, List.take_of_length_le hm]
theorem arr_get {q : List Nat} {k : Nat} (h : k < q.length) : (limV q).toArray[k]? = some (.int .u32 ((q.getD k 0 : Nat) : Int)) := by simp [limV, h]
theorem row_at {w : World} {b off : Nat} {l : List Nat} (hc : ∀ j, j < (limV l).length → w.cell? ⟨b, off + j, none⟩ = some ((limV l).getD j undef)) {k : Nat} (hk : k < l.length) :
    w.cell? ⟨b, off + k, none⟩ = some (.int .u32 ((l.getD k 0 : Nat) : Int)) := by
  rw [hc k (by rw [limV_length]; exact hk), limV_getD _ _ hk]
set_option maxHeartbeats 3200000 in
theorem add_c (a a' : Option Addr) (c c' : Nat) (l m : List Nat) (w : World) (hl : l.length ≤ 2147483648) (hm : m.length ≤ 2147483648) (okl : OkL l) (okm : OkL m)
    (h : Row w a (limV l)) (h' : Row w a' (limV m)) :
    Calls Try.prog 84 #[.slice a l.length c, .slice a' m.length c'] w fun e w' => ∃ v r, e = .returned v ∧ MagO w' w.heap.size v r ∧ OkL r ∧ r.length = max l.length m.length + 1 ∧ val r = val l + val m ∧ Ext w w' := by
  obtain ⟨b, off, ha, hc⟩ := h
  obtain ⟨b', off', ha', hc'⟩ := h'
  replace ha := mkHid ha
  replace hc := mkHid hc
  replace ha' := mkHid ha'
  replace hc' := mkHid hc'
  by_cases hlt : l.length < m.length
  · have hlt2 : ((l.length : Int) < m.length) := by omega
    have hmk := fun w => make32 (m.length + 1) w (by omega)
    rw [show (((m.length + 1 : Nat)) : Int) = (m.length : Int) + 1 by omega] at hmk
    have hst := mkHid (adding_start m l)
    go_enter Try.func84, Try.ntmps84
    go_wp2_with fail
    go_loopw [22, 6] (fun i s wr => ∃ k cr q, k ≤ m.length ∧ i = .int .i64 (k : Nat) ∧ s = .int .u32 (cr : Nat) ∧ wr = w.alloc (.cells (limV q).toArray 94) ∧ Adding m l q k cr) (fun i _ _ => m.length - (intOf i).toNat)
    case atStart => exact ⟨0, 0, _, Nat.zero_le _, rfl, rfl, rfl, hst.out⟩
    case round =>
      obtain ⟨k, cr, q, hk, rfl, rfl, rfl, had⟩ := hrel
      have hq1 := had.1
      have hcr := had.2.2.1
      by_cases hkl : k < m.length
      · have h1 := fun o => ((Ext.refl w).al o).cell (row_at hc'.out hkl)
        have hA := ha'.out (limV_ne hkl)
        have hxl := okL_get okm k
        have hold := arr_get (q := q) (k := k) (by omega)
        by_cases hkm : k < l.length
        · have h2 := fun o => ((Ext.refl w).al o).cell (row_at hc.out hkm)
          have hA' := ha.out (limV_ne hkm)
          have hyl := okL_get okl k
          have hnext := mkHid (adding_step (y := l.getD k 0) had okm okl hkl (by rw [if_pos hkm]))
          rw [hA, hA']
          replace hA := mkHid hA
          replace hA' := mkHid hA'
          replace had := mkHid had
          have hset := limV_arr_set q k ((m.getD k 0 + l.getD k 0 + cr) % 4294967296)
          replace hset := mkHid hset
          generalize m.getD k 0 = x at *
          generalize l.getD k 0 = y at *
          generalize hArr : (limV q).toArray = arr at *
          replace hArr := mkHid hArr
          go_wp2_with (go_at_call 92; refine (add32_c x y cr _ (by assumption) (by assumption) (by assumption)).mono ?_; rintro e w' ⟨rfl, rfl⟩)
          go_roundw
          case rel => exact ⟨k + 1, _, _, by omega, by go_num, rfl, by rw [← hset.out]; simp, hnext.out⟩
          case measure => simp [intOf] <;> omega
        · have hnext := mkHid (adding_step (y := 0) had okm okl hkl (by rw [if_neg hkm]))
          have hyl : 0 < 4294967296 := by omega
          rw [hA]
          replace hA := mkHid hA
          replace had := mkHid had
          have hset := limV_arr_set q k ((m.getD k 0 + 0 + cr) % 4294967296)
          replace hset := mkHid hset
          generalize m.getD k 0 = x at *
          obtain ⟨y, hy⟩ : ∃ y, y = 0 := ⟨0, rfl⟩
          generalize hArr : (limV q).toArray = arr at *
          replace hArr := mkHid hArr
          clear hy
          go_wp2_with (go_at_call 92; refine (add32_c x 0 cr _ (by assumption) (by assumption) (by assumption)).mono ?_; rintro e w' ⟨rfl, rfl⟩)
          go_roundw
          case rel => exact ⟨k + 1, _, _, by omega, by go_num, rfl, by rw [← hset.out]; simp, hnext.out⟩
          case measure => simp [intOf] <;> omega
      · obtain rfl : k = m.length := by omega
        have hend := mkHid (adding_end had (by omega))
        have hold := arr_get (q := q) (k := m.length) (by omega)
        have hset := mkHid (limV_arr_set q m.length cr)
        replace had := mkHid had
        generalize hArr : (limV q).toArray = arr at *
        replace hArr := mkHid hArr
        go_wp2_with fail
        go_ret
        have hb := magO_block (w := w) (q := q.set m.length cr) (by rw [hend.out.1]; omega)
        rw [hend.out.1, ← hset.out] at hb
        exact ⟨_, _, rfl, hb, hend.out.2.1, by rw [hend.out.1]; omega, by rw [hend.out.2.2]; try omega, (Ext.refl w).al _⟩
  · have hlt2 : ¬ ((l.length : Int) < m.length) := by omega
    have hmk := fun w => make32 (l.length + 1) w (by omega)
    rw [show (((l.length + 1 : Nat)) : Int) = (l.length : Int) + 1 by omega] at hmk
    have hst := mkHid (adding_start l m)
    go_enter Try.func84, Try.ntmps84
    go_wp2_with fail
    go_loopw [22, 6] (fun i s wr => ∃ k cr q, k ≤ l.length ∧ i = .int .i64 (k : Nat) ∧ s = .int .u32 (cr : Nat) ∧ wr = w.alloc (.cells (limV q).toArray 94) ∧ Adding l m q k cr) (fun i _ _ => l.length - (intOf i).toNat)
    case atStart => exact ⟨0, 0, _, Nat.zero_le _, rfl, rfl, rfl, hst.out⟩
    case round =>
      obtain ⟨k, cr, q, hk, rfl, rfl, rfl, had⟩ := hrel
      have hq1 := had.1
      have hcr := had.2.2.1
      by_cases hkl : k < l.length
      · have h1 := fun o => ((Ext.refl w).al o).cell (row_at hc.out hkl)
        have hA := ha.out (limV_ne hkl)
        have hxl := okL_get okl k
        have hold := arr_get (q := q) (k := k) (by omega)
        by_cases hkm : k < m.length
        · have h2 := fun o => ((Ext.refl w).al o).cell (row_at hc'.out hkm)
          have hA' := ha'.out (limV_ne hkm)
          have hyl := okL_get okm k
          have hnext := mkHid (adding_step (y := m.getD k 0) had okl okm hkl (by rw [if_pos hkm]))
          rw [hA, hA']
          replace hA := mkHid hA
          replace hA' := mkHid hA'
          replace had := mkHid had
          have hset := limV_arr_set q k ((l.getD k 0 + m.getD k 0 + cr) % 4294967296)
          replace hset := mkHid hset
          generalize l.getD k 0 = x at *
          generalize m.getD k 0 = y at *
          generalize hArr : (limV q).toArray = arr at *
          replace hArr := mkHid hArr
          go_wp2_with (go_at_call 92; refine (add32_c x y cr _ (by assumption) (by assumption) (by assumption)).mono ?_; rintro e w' ⟨rfl, rfl⟩)
          go_roundw
          case rel => exact ⟨k + 1, _, _, by omega, by go_num, rfl, by rw [← hset.out]; simp, hnext.out⟩
          case measure => simp [intOf] <;> omega
        · have hnext := mkHid (adding_step (y := 0) had okl okm hkl (by rw [if_neg hkm]))
          have hyl : 0 < 4294967296 := by omega
          rw [hA]
          replace hA := mkHid hA
          replace had := mkHid had
          have hset := limV_arr_set q k ((l.getD k 0 + 0 + cr) % 4294967296)
          replace hset := mkHid hset
          generalize l.getD k 0 = x at *
          obtain ⟨y, hy⟩ : ∃ y, y = 0 := ⟨0, rfl⟩
          generalize hArr : (limV q).toArray = arr at *
          replace hArr := mkHid hArr
          clear hy
          go_wp2_with (go_at_call 92; refine (add32_c x 0 cr _ (by assumption) (by assumption) (by assumption)).mono ?_; rintro e w' ⟨rfl, rfl⟩)
          go_roundw
          case rel => exact ⟨k + 1, _, _, by omega, by go_num, rfl, by rw [← hset.out]; simp, hnext.out⟩
          case measure => simp [intOf] <;> omega
      · obtain rfl : k = l.length := by omega
        have hend := mkHid (adding_end had (by omega))
        have hold := arr_get (q := q) (k := l.length) (by omega)
        have hset := mkHid (limV_arr_set q l.length cr)
        replace had := mkHid had
        generalize hArr : (limV q).toArray = arr at *
        replace hArr := mkHid hArr
        go_wp2_with fail
        go_ret
        have hb := magO_block (w := w) (q := q.set l.length cr) (by rw [hend.out.1]; omega)
        rw [hend.out.1, ← hset.out] at hb
        exact ⟨_, _, rfl, hb, hend.out.2.1, by rw [hend.out.1]; omega, by rw [hend.out.2.2]; try omega, (Ext.refl w).al _⟩
/-- What is kept while taking away. -/
def Subbing (l m q : List Nat) (k c : Nat) : Prop := q.length = l.length ∧ OkL q ∧ c ≤ 1 ∧ val (q.take k) + val (m.take k) = val (l.take k) + 4294967296 ^ k * c
theorem subbing_start (l m : List Nat) : Subbing l m (List.replicate l.length 0) 0 0 :=
  ⟨by simp, fun x hx => by rw [List.eq_of_mem_replicate hx]; omega, by omega, by simp [val]⟩
theorem subbing_step {l m q : List Nat} {k c y : Nat} (h : Subbing l m q k c) (hl : OkL l) (hm : OkL m) (hk : k < l.length) (hy : y = if k < m.length then m.getD k 0 else 0) :
    Subbing l m (q.set k ((l.getD k 0 + 4294967296 - y - c) % 4294967296)) (k + 1) (1 - (l.getD k 0 + 4294967296 - y - c) / 4294967296) := by
  obtain ⟨h1, h2, h3, h4⟩ := h
  have hx := okL_get hl k
  have hy2 : y < 4294967296 := by
    rw [hy]; split
    · exact okL_get hm k
    · omega
  refine ⟨by simpa using h1, okL_set h2 (Nat.mod_lt _ (by omega)), by omega, ?_⟩
  rw [val_take_set _ _ _ (by omega), val_take_succ l k hk, val_take_ge m k, ← hy, Nat.pow_succ]
  have e : (l.getD k 0 + 4294967296 - y - c) % 4294967296 + y + c = l.getD k 0 + 4294967296 * (1 - (l.getD k 0 + 4294967296 - y - c) / 4294967296) := by omega
  generalize (l.getD k 0 + 4294967296 - y - c) % 4294967296 = r at *
  generalize 1 - (l.getD k 0 + 4294967296 - y - c) / 4294967296 = s at *
  generalize 4294967296 ^ k = p at *
  have e2 : p * (r + y + c) = p * (l.getD k 0 + 4294967296 * s) := by rw [e]
  simp only [Nat.mul_add] at e2
  rw [← Nat.mul_assoc] at e2
  omega
theorem subbing_end {l m q : List Nat} {c : Nat} (h : Subbing l m q l.length c) (hm : m.length ≤ l.length) (hv : val m ≤ val l) : val q = val l - val m := by
  obtain ⟨h1, h2, h3, h4⟩ := h
  rw [List.take_length, List.take_of_length_le (by omega), List.take_of_length_le hm] at h4
  have hq := val_lt h2
  rw [h1] at hq
  have : c = 0 ∨ c = 1 := by omega
  rcases this with rfl | rfl <;> simp at h4 <;> omega
set_option maxHeartbeats 3200000 in
theorem sub_c (a a' : Option Addr) (c c' : Nat) (l m : List Nat) (w : World) (hl : l.length ≤ 2147483648) (hml : m.length ≤ l.length) (okl : OkL l) (okm : OkL m) (hv : val m ≤ val l)
    (h : Row w a (limV l)) (h' : Row w a' (limV m)) :
    Calls Try.prog 85 #[.slice a l.length c, .slice a' m.length c'] w fun e w' => ∃ v, e = .returned v ∧ MagO w' w.heap.size v (lim (val l - val m)) ∧ Ext w w' := by
  obtain ⟨b, off, ha, hc⟩ := h
  obtain ⟨b', off', ha', hc'⟩ := h'
  replace ha := mkHid ha
  replace hc := mkHid hc
  replace ha' := mkHid ha'
  replace hc' := mkHid hc'
  replace hv := mkHid hv
  have hmk := fun w => make32 l.length w (by omega)
  have hst := mkHid (subbing_start l m)
  go_enter Try.func85, Try.ntmps85
  go_wp2_with fail
  go_loopw [14, 6] (fun i s wr => ∃ k cr q, k ≤ l.length ∧ i = .int .i64 (k : Nat) ∧ s = .int .u32 (cr : Nat) ∧ wr = w.alloc (.cells (limV q).toArray 94) ∧ Subbing l m q k cr) (fun i _ _ => l.length - (intOf i).toNat)
  case atStart => exact ⟨0, 0, _, Nat.zero_le _, rfl, rfl, rfl, hst.out⟩
  case round =>
    obtain ⟨k, cr, q, hk, rfl, rfl, rfl, had⟩ := hrel
    have hq1 := had.1
    have hcr := had.2.2.1
    by_cases hkl : k < l.length
    · have h1 := fun o => ((Ext.refl w).al o).cell (row_at hc.out hkl)
      have hA := ha.out (limV_ne hkl)
      have hxl := okL_get okl k
      have hold := arr_get (q := q) (k := k) (by omega)
      by_cases hkm : k < m.length
      · have h2 := fun o => ((Ext.refl w).al o).cell (row_at hc'.out hkm)
        have hA' := ha'.out (limV_ne hkm)
        have hyl := okL_get okm k
        have hnext := mkHid (subbing_step (y := m.getD k 0) had okl okm hkl (by rw [if_pos hkm]))
        rw [hA, hA']
        replace hA := mkHid hA
        replace hA' := mkHid hA'
        replace had := mkHid had
        have hset := limV_arr_set q k ((l.getD k 0 + 4294967296 - m.getD k 0 - cr) % 4294967296)
        replace hset := mkHid hset
        generalize l.getD k 0 = x at *
        generalize m.getD k 0 = y at *
        generalize hArr : (limV q).toArray = arr at *
        replace hArr := mkHid hArr
        obtain ⟨r, hr⟩ : ∃ r, r = (x + 4294967296 - y - cr) % 4294967296 := ⟨_, rfl⟩
        obtain ⟨s, hs⟩ : ∃ s, s = 1 - (x + 4294967296 - y - cr) / 4294967296 := ⟨_, rfl⟩
        have hcall := fun w => sub32_c x y cr w hxl hyl hcr
        rw [← hr, ← hs] at hcall
        rw [← hr] at hset
        rw [← hr, ← hs] at hnext
        have hs1 : s ≤ 1 := by omega
        clear hr hs
        replace hcall := mkHid hcall
        go_wp2_with (go_at_call 93; refine (hcall.out _).mono ?_; rintro e w' ⟨rfl, rfl⟩)
        go_roundw
        case rel => exact ⟨k + 1, _, _, by omega, by go_num, rfl, by rw [← hset.out], hnext.out⟩
        case measure => simp [intOf] <;> omega
      · have hnext := mkHid (subbing_step (y := 0) had okl okm hkl (by rw [if_neg hkm]))
        rw [hA]
        replace hA := mkHid hA
        replace had := mkHid had
        have hset := limV_arr_set q k ((l.getD k 0 + 4294967296 - 0 - cr) % 4294967296)
        replace hset := mkHid hset
        generalize l.getD k 0 = x at *
        generalize hArr : (limV q).toArray = arr at *
        replace hArr := mkHid hArr
        obtain ⟨r, hr⟩ : ∃ r, r = (x + 4294967296 - 0 - cr) % 4294967296 := ⟨_, rfl⟩
        obtain ⟨s, hs⟩ : ∃ s, s = 1 - (x + 4294967296 - 0 - cr) / 4294967296 := ⟨_, rfl⟩
        have hcall := fun w => sub32_c x 0 cr w hxl (by omega) hcr
        rw [← hr, ← hs] at hcall
        rw [← hr] at hset
        rw [← hr, ← hs] at hnext
        have hs1 : s ≤ 1 := by omega
        clear hr hs
        replace hcall := mkHid hcall
        go_wp2_with (go_at_call 93; refine (hcall.out _).mono ?_; rintro e w' ⟨rfl, rfl⟩)
        go_roundw
        case rel => exact ⟨k + 1, _, _, by omega, by go_num, rfl, by rw [← hset.out], hnext.out⟩
        case measure => simp [intOf] <;> omega
    · obtain rfl : k = l.length := by omega
      have hend := subbing_end had hml hv.out
      have hokq := had.2.1
      have hb := magO_block (w := w) (q := q) (by rw [hq1]; omega)
      have hrow := hb
      rw [hq1] at hb hrow
      obtain ⟨aa, cc, he, hle, hrow⟩ := row_of_owns hrow
      simp only [Value.slice.injEq] at he
      obtain ⟨rfl, -, rfl⟩ := he
      have hb2 := hb
      rw [← hq1] at hb2
      have hres := (show MagO _ _ (.slice _ q.length l.length) q from by rw [hq1]; exact hb).lim hokq
      rw [hend] at hres
      have hcall := fun w' (e : Row w' (some ⟨w.heap.size, 0, none⟩) (limV q)) => trim_c (some ⟨w.heap.size, 0, none⟩) q l.length w' hokq (by omega) (by omega) e
      rw [hend, hq1] at hcall
      replace hcall := mkHid hcall
      replace hres := mkHid hres
      replace hb := mkHid hb
      replace hb2 := mkHid hb2
      replace hrow := mkHid hrow
      replace had := mkHid had
      replace hend := mkHid hend
      replace hq1 := mkHid hq1
      generalize hArr : (limV q).toArray = arr at *
      replace hArr := mkHid hArr
      go_wp2_with fail
      refine (hcall.out _ hrow.out).mono ?_
      rintro e w' ⟨rfl, rfl⟩
      go_wp2_with fail
      go_ret
      exact ⟨_, rfl, hres.out, (Ext.refl w).al _⟩
end Go.Proofs.Ytpmfohhpaoagfaa
namespace Go.Proofs.Ytpmfohhpaoagfaa
open Go Go.RowKit Go.Proofs
theorem add_raw (a a' : Option Addr) (c c' : Nat) (x y : Nat) (w : World) (hl : (lim x).length ≤ 2147483648) (hm : (lim y).length ≤ 2147483648) (h : Row w a (limV (lim x))) (h' : Row w a' (limV (lim y))) :
    Calls Try.prog 84 #[.slice a (lim x).length c, .slice a' (lim y).length c'] w fun e w' => ∃ v, e = .returned v ∧ Ext w w' ∧ RawO w' w.heap.size v (x + y) := by
  refine (add_c a a' c c' (lim x) (lim y) w hl hm (lim_ok _) (lim_ok _) h h').mono ?_
  rintro e w' ⟨v, r, he, h1, h2, h3, h4, h5⟩
  exact ⟨v, he, h5, r, h1, h2, by omega, by rw [h4, val_lim, val_lim]⟩
theorem signed_raw (neg : Bool) (base : Nat) (s : Value) (n : Nat) (w : World) (h : RawO w base s n) :
    Calls Try.prog 82 #[.bool neg, s] w fun e w' => ∃ v, e = .returned v ∧ Ext w w' ∧ IntO w' base v (sg neg n) := by
  obtain ⟨r, h1, h2, h3, rfl⟩ := h
  refine (signed_c neg base s r w h2 h3 h1).mono ?_
  rintro e w' ⟨v, he, h1, h2⟩
  exact ⟨v, he, h2, h1⟩
theorem sub_raw (a a' : Option Addr) (c c' : Nat) (x y : Nat) (w : World) (hl : (lim x).length ≤ 2147483648) (hv : y ≤ x) (h : Row w a (limV (lim x))) (h' : Row w a' (limV (lim y))) :
    Calls Try.prog 85 #[.slice a (lim x).length c, .slice a' (lim y).length c'] w fun e w' => ∃ v, e = .returned v ∧ Ext w w' ∧ RawO w' w.heap.size v (x - y) := by
  refine (sub_c a a' c c' (lim x) (lim y) w hl (lim_mono hv) (lim_ok _) (lim_ok _) (by rw [val_lim, val_lim]; exact hv) h h').mono ?_
  rintro e w' ⟨v, he, h1, h2⟩
  rw [val_lim, val_lim] at h1
  refine ⟨v, he, h2, _, h1, lim_ok _, ?_, val_lim _⟩
  have := lim_mono (Nat.sub_le x y)
  omega
set_option maxHeartbeats 1600000 in
theorem plus_same (bx : Bool) (ax ay : Option Addr) (cx cy : Nat) (x y : Nat) (w : World) (hlx : (lim x).length ≤ 1073741824) (hly : (lim y).length ≤ 1073741824)
    (hx : Row w ax (limV (lim x))) (hy : Row w ay (limV (lim y))) :
    Calls Try.prog 68 #[.agg #[.bool bx, .slice ax (lim x).length cx], .agg #[.bool bx, .slice ay (lim y).length cy]] w fun e w' => ∃ v, e = .returned v ∧ IntO w' w.heap.size v (sg bx (x + y)) ∧ Ext w w' := by
  have hb : (bx == bx) = true := by simp
  replace hx := mkHid hx
  replace hy := mkHid hy
  go_enter Try.func68, Try.ntmps68
  go_wp2_with fail
  obtain ⟨w3, hw3⟩ : ∃ w3, w3 = ((w.alloc (.cells #[.bool bx, .slice ax (lim x).length cx] 24)).alloc (.cells #[.bool bx, .slice ay (lim y).length cy] 24)).alloc (.cells #[.bool false, .slice none 0 0] 24) := ⟨_, rfl⟩
  have hE : Ext w w3 := by rw [hw3]; exact (((Ext.refl w).al _).al _).al _
  have h00 : ∀ W, Ext w3 W → W.cell? ⟨w.heap.size, 0, none⟩ = some (.bool bx) := fun W e => e.cell (by rw [hw3]; go_simp)
  have h01 : ∀ W, Ext w3 W → W.cell? ⟨w.heap.size, 1, none⟩ = some (.slice ax (lim x).length cx) := fun W e => e.cell (by rw [hw3]; go_simp)
  have h10 : ∀ W, Ext w3 W → W.cell? ⟨w.heap.size + 1, 0, none⟩ = some (.bool bx) := fun W e => e.cell (by rw [hw3]; go_simp)
  have h11 : ∀ W, Ext w3 W → W.cell? ⟨w.heap.size + 1, 1, none⟩ = some (.slice ay (lim y).length cy) := fun W e => e.cell (by rw [hw3]; go_simp)
  have hsz : w.heap.size + 3 ≤ w3.heap.size := by rw [hw3]; simp
  have hB : ∀ W, Ext w3 W → W.heap[w.heap.size + 2]? = some (.cells #[.bool false, .slice none 0 0] 24) := fun W e => e.blk (by rw [hw3]; exact heap_at _ _ _ (by simp))
  rw [← hw3]
  replace hw3 := mkHid hw3
  replace hB := mkHid hB
  have hz : sg bx (x + y) = sg bx (x + y) := rfl
  replace hz := mkHid hz
  apply region_ext [.val _, .val _, .val _, .val _, .val _, .val _, .pred (fun W v => RawO W w3.heap.size v (x + y)), .pred (fun W v => IntO W w3.heap.size v (sg bx (x + y)))] (by kernel_rfl)
    (stable_vals _ (stable_vals _ (stable_vals _ (stable_vals _ (stable_vals _ (stable_vals _ (st_rawO _ _ (st_intO _ _ trivial))))))))
  · iterate 6 (refine ⟨fun W hW _ => by go_simp; exact ⟨Ext.refl _, rfl⟩, ?_⟩)
    refine ⟨fun W hW _ => ?g6, fun v6 => ⟨fun W hW hF => ?g7, fun v7 => fun W hW hF => ?fin⟩⟩
    case g6 =>
      go_simp
      refine (add_raw _ _ _ _ _ _ _ (by omega) (by omega) (hx.out.ext (hE.trans hW)) (hy.out.ext (hE.trans hW))).mono ?_
      rintro e w' ⟨v, rfl, h1, h2⟩
      exact ⟨v, rfl, h1, h2.mono hW.size⟩
    case g7 =>
      have h6 : RawO W w3.heap.size v6 (x + y) := hF.1 (by kernel_rfl)
      replace h6 := mkHid h6
      clear hF
      have hs := fun neg => signed_raw neg _ _ _ W h6.out
      replace hs := mkHid hs
      go_simp
      have h9 := hs.out bx
      rw [hz.out] at h9
      exact h9
    case fin =>
      have h7 : IntO W w3.heap.size v7 (sg bx (x + y)) := hF.1 rfl
      clear hF
      obtain ⟨nb, a2, n2, c2, rfl⟩ := h7.r.shape
      have hBW := hB.out W hW
      have hR : IntO (W.setRow (w.heap.size + 2) #[.bool nb, .slice a2 n2 c2]) w.heap.size (.agg #[.bool nb, .slice a2 n2 c2]) (sg bx (x + y)) := (h7.row (by omega) _).mono (by omega)
      have hEW := (hE.trans hW).row (show w.heap.size ≤ w.heap.size + 2 by omega) #[.bool nb, .slice a2 n2 c2]
      replace hR := mkHid hR
      replace hEW := mkHid hEW
      clear h7 h00 h01 h10 h11
      go_simp
      refine wpList_store_row rfl 24 (.tmp 4) (.tmp 17) rfl (w.heap.size + 2) #[.bool nb, .slice a2 n2 c2] rfl rfl 24 _ hBW (by kernel_rfl) rfl (by kernel_rfl) ?_
      go_wp2_with fail
      exact bodyPost_ret (results_cell_row rfl _ _ (w.heap.size + 2) 24 #[.bool nb, .slice a2 n2 c2] (0, 0) _ rfl (setRow_heap _ _ _ _ _ _ hBW) Try.underlying24 rfl (by kernel_rfl)) rfl ⟨_, rfl, hR.out, hEW.out⟩
set_option maxHeartbeats 3200000 in
theorem plus_diff (bx bY : Bool) (hne : bx ≠ bY) (ax ay : Option Addr) (cx cy : Nat) (x y : Nat) (z : Int) (hz1 : y ≤ x → sg bx (x - y) = z) (hz2 : ¬ y ≤ x → sg bY (y - x) = z) (w : World) (hlx : (lim x).length ≤ 1073741824) (hly : (lim y).length ≤ 1073741824)
    (hx : Row w ax (limV (lim x))) (hy : Row w ay (limV (lim y))) :
    Calls Try.prog 68 #[.agg #[.bool bx, .slice ax (lim x).length cx], .agg #[.bool bY, .slice ay (lim y).length cy]] w fun e w' => ∃ v, e = .returned v ∧ IntO w' w.heap.size v z ∧ Ext w w' := by
  have hb : (bx == bY) = false := by simpa using hne
  replace hne := mkHid hne
  replace hz1 := mkHid hz1
  replace hz2 := mkHid hz2
  replace hx := mkHid hx
  replace hy := mkHid hy
  go_enter Try.func68, Try.ntmps68
  go_wp2_with fail
  obtain ⟨wb, hw3⟩ : ∃ wb, wb = ((w.alloc (.cells #[.bool bx, .slice ax (lim x).length cx] 24)).alloc (.cells #[.bool bY, .slice ay (lim y).length cy] 24)).alloc (.cells #[.bool false, .slice none 0 0] 24) := ⟨_, rfl⟩
  have hE : Ext w wb := by rw [hw3]; exact (((Ext.refl w).al _).al _).al _
  have h00 : ∀ W, Ext wb W → W.cell? ⟨w.heap.size, 0, none⟩ = some (.bool bx) := fun W e => e.cell (by rw [hw3]; go_simp)
  have h01 : ∀ W, Ext wb W → W.cell? ⟨w.heap.size, 1, none⟩ = some (.slice ax (lim x).length cx) := fun W e => e.cell (by rw [hw3]; go_simp)
  have h10 : ∀ W, Ext wb W → W.cell? ⟨w.heap.size + 1, 0, none⟩ = some (.bool bY) := fun W e => e.cell (by rw [hw3]; go_simp)
  have h11 : ∀ W, Ext wb W → W.cell? ⟨w.heap.size + 1, 1, none⟩ = some (.slice ay (lim y).length cy) := fun W e => e.cell (by rw [hw3]; go_simp)
  have hsz : w.heap.size + 3 ≤ wb.heap.size := by rw [hw3]; simp
  have hB : ∀ W, Ext wb W → W.heap[w.heap.size + 2]? = some (.cells #[.bool false, .slice none 0 0] 24) := fun W e => e.blk (by rw [hw3]; exact heap_at _ _ _ (by simp))
  rw [← hw3]
  replace hw3 := mkHid hw3
  replace hB := mkHid hB
  refine (size_c _ _ _ _ _ _ _ (by omega) (by omega) (hx.out.ext hE) (hy.out.ext hE)).mono ?_
  rintro e w3 ⟨r, rfl, hr, he4⟩
  replace h00 := fun W (e : Ext w3 W) => h00 W (he4.trans e)
  replace h01 := fun W (e : Ext w3 W) => h01 W (he4.trans e)
  replace h10 := fun W (e : Ext w3 W) => h10 W (he4.trans e)
  replace h11 := fun W (e : Ext w3 W) => h11 W (he4.trans e)
  replace hB := mkHid (fun W (e : Ext w3 W) => hB.out W (he4.trans e))
  replace hsz : w.heap.size + 3 ≤ w3.heap.size := by have := he4.size; omega
  replace hE := hE.trans he4
  clear hw3 he4
  by_cases hyx : y ≤ x
  · have hr2 : 0 ≤ r := by
      have := hr.1
      omega
    have hz := mkHid (hz1.out hyx)
    replace hr := mkHid hr
    replace hyx := mkHid hyx
    go_wp2_with fail
    apply region_ext [.val _, .val _, .val _, .val _, .val _, .val _, .pred (fun W v => RawO W w3.heap.size v (x - y)), .pred (fun W v => IntO W w3.heap.size v (z))] (by kernel_rfl)
      (stable_vals _ (stable_vals _ (stable_vals _ (stable_vals _ (stable_vals _ (stable_vals _ (st_rawO _ _ (st_intO _ _ trivial))))))))
    · iterate 6 (refine ⟨fun W hW _ => by go_simp; exact ⟨Ext.refl _, rfl⟩, ?_⟩)
      refine ⟨fun W hW _ => ?g6, fun v6 => ⟨fun W hW hF => ?g7, fun v7 => fun W hW hF => ?fin⟩⟩
      case g6 =>
        go_simp
        refine (sub_raw _ _ _ _ _ _ _ (by omega) hyx.out (hx.out.ext (hE.trans hW)) (hy.out.ext (hE.trans hW))).mono ?_
        rintro e w' ⟨v, rfl, h1, h2⟩
        exact ⟨v, rfl, h1, h2.mono hW.size⟩
      case g7 =>
        have h6 : RawO W w3.heap.size v6 (x - y) := hF.1 (by kernel_rfl)
        replace h6 := mkHid h6
        clear hF
        have hs := fun neg => signed_raw neg _ _ _ W h6.out
        replace hs := mkHid hs
        go_simp
        have h9 := hs.out bx
        rw [hz.out] at h9
        exact h9
      case fin =>
        have h7 : IntO W w3.heap.size v7 (z) := hF.1 rfl
        clear hF
        obtain ⟨nb, a2, n2, c2, rfl⟩ := h7.r.shape
        have hBW := hB.out W hW
        have hR : IntO (W.setRow (w.heap.size + 2) #[.bool nb, .slice a2 n2 c2]) w.heap.size (.agg #[.bool nb, .slice a2 n2 c2]) (z) := (h7.row (by omega) _).mono (by omega)
        have hEW := (hE.trans hW).row (show w.heap.size ≤ w.heap.size + 2 by omega) #[.bool nb, .slice a2 n2 c2]
        replace hR := mkHid hR
        replace hEW := mkHid hEW
        clear h7 h00 h01 h10 h11
        go_simp
        refine wpList_store_row rfl 24 (.tmp 4) (.tmp 31) rfl (w.heap.size + 2) #[.bool nb, .slice a2 n2 c2] rfl rfl 24 _ hBW (by kernel_rfl) rfl (by kernel_rfl) ?_
        go_wp2_with fail
        exact bodyPost_ret (results_cell_row rfl _ _ (w.heap.size + 2) 24 #[.bool nb, .slice a2 n2 c2] (0, 0) _ rfl (setRow_heap _ _ _ _ _ _ hBW) Try.underlying24 rfl (by kernel_rfl)) rfl ⟨_, rfl, hR.out, hEW.out⟩
  · have hr2 : ¬ 0 ≤ r := by
      have := hr.1
      omega
    have hxy : x ≤ y := by omega
    have hz := mkHid (hz2.out hyx)
    replace hr := mkHid hr
    replace hyx := mkHid hyx
    replace hxy := mkHid hxy
    go_wp2_with fail
    apply region_ext [.val _, .val _, .val _, .val _, .val _, .val _, .pred (fun W v => RawO W w3.heap.size v (y - x)), .pred (fun W v => IntO W w3.heap.size v (z))] (by kernel_rfl)
      (stable_vals _ (stable_vals _ (stable_vals _ (stable_vals _ (stable_vals _ (stable_vals _ (st_rawO _ _ (st_intO _ _ trivial))))))))
    · iterate 6 (refine ⟨fun W hW _ => by go_simp; exact ⟨Ext.refl _, rfl⟩, ?_⟩)
      refine ⟨fun W hW _ => ?g6, fun v6 => ⟨fun W hW hF => ?g7, fun v7 => fun W hW hF => ?fin⟩⟩
      case g6 =>
        go_simp
        refine (sub_raw _ _ _ _ _ _ _ (by omega) hxy.out (hy.out.ext (hE.trans hW)) (hx.out.ext (hE.trans hW))).mono ?_
        rintro e w' ⟨v, rfl, h1, h2⟩
        exact ⟨v, rfl, h1, h2.mono hW.size⟩
      case g7 =>
        have h6 : RawO W w3.heap.size v6 (y - x) := hF.1 (by kernel_rfl)
        replace h6 := mkHid h6
        clear hF
        have hs := fun neg => signed_raw neg _ _ _ W h6.out
        replace hs := mkHid hs
        go_simp
        have h9 := hs.out bY
        rw [hz.out] at h9
        exact h9
      case fin =>
        have h7 : IntO W w3.heap.size v7 (z) := hF.1 rfl
        clear hF
        obtain ⟨nb, a2, n2, c2, rfl⟩ := h7.r.shape
        have hBW := hB.out W hW
        have hR : IntO (W.setRow (w.heap.size + 2) #[.bool nb, .slice a2 n2 c2]) w.heap.size (.agg #[.bool nb, .slice a2 n2 c2]) (z) := (h7.row (by omega) _).mono (by omega)
        have hEW := (hE.trans hW).row (show w.heap.size ≤ w.heap.size + 2 by omega) #[.bool nb, .slice a2 n2 c2]
        replace hR := mkHid hR
        replace hEW := mkHid hEW
        clear h7 h00 h01 h10 h11
        go_simp
        refine wpList_store_row rfl 24 (.tmp 4) (.tmp 39) rfl (w.heap.size + 2) #[.bool nb, .slice a2 n2 c2] rfl rfl 24 _ hBW (by kernel_rfl) rfl (by kernel_rfl) ?_
        go_wp2_with fail
        exact bodyPost_ret (results_cell_row rfl _ _ (w.heap.size + 2) 24 #[.bool nb, .slice a2 n2 c2] (0, 0) _ rfl (setRow_heap _ _ _ _ _ _ hBW) Try.underlying24 rfl (by kernel_rfl)) rfl ⟨_, rfl, hR.out, hEW.out⟩
/-- The sum. -/
theorem plus_c (v1 v2 : Value) (X Y : Int) (w : World) (hX : nl X ≤ 1073741824) (hY : nl Y ≤ 1073741824) (h1 : IntR w v1 X) (h2 : IntR w v2 Y) :
    Calls Try.prog 68 #[v1, v2] w fun e w' => ∃ v, e = .returned v ∧ Ext w w' ∧ IntO w' w.heap.size v (X + Y) := by
  obtain ⟨s1, rfl, a1, c1, rfl, _, r1⟩ := h1
  obtain ⟨s2, rfl, a2, c2, rfl, _, r2⟩ := h2
  by_cases hs : decide (X < 0) = decide (Y < 0)
  · have e : sg (decide (X < 0)) (X.natAbs + Y.natAbs) = X + Y := by
      unfold sg
      by_cases hx : X < 0
      · have hy : Y < 0 := by simpa [hx] using hs
        simp [hx]
        omega
      · have hy : ¬ Y < 0 := by simpa [hx] using hs
        simp [hx]
        omega
    rw [← hs, ← e]
    exact (plus_same _ _ _ _ _ _ _ _ hX hY r1 r2).mono fun _ _ ⟨v, h1, h2, h3⟩ => ⟨v, h1, h3, h2⟩
  · refine (plus_diff _ _ hs _ _ _ _ _ _ (X + Y) (fun h => ?_) (fun h => ?_) _ hX hY r1 r2).mono fun _ _ ⟨v, h1, h2, h3⟩ => ⟨v, h1, h3, h2⟩
    · unfold sg
      by_cases hx : X < 0
      · have hy : ¬ Y < 0 := by simpa [hx] using hs
        simp [hx]
        omega
      · have hy : Y < 0 := by simpa [hx] using hs
        simp [hx]
        omega
    · unfold sg
      by_cases hx : X < 0
      · have hy : ¬ Y < 0 := by simpa [hx] using hs
        simp [hy]
        omega
      · have hy : Y < 0 := by simpa [hx] using hs
        simp [hy]
        omega
end Go.Proofs.Ytpmfohhpaoagfaa
namespace Go.Proofs.Ytpmfohhpaoagfaa
open Go Go.RowKit Go.Proofs
theorem raw_two (w : World) (m : Nat) (hm : m < 18446744073709551616) (lo hi : Int) (hlo : lo = (m : Int) % 4294967296) (hhi : hi = (m : Int) / 4294967296) (b : Nat) (hb : b = w.heap.size) :
    RawO (w.alloc (.cells #[.int .u32 lo, .int .u32 hi] 94)) b (.slice (some ⟨b, 0, none⟩) 2 2) m := by
  subst hb
  have e : (limV [m % 4294967296, m / 4294967296]).toArray = #[.int .u32 lo, .int .u32 hi] := by
    simp only [limV, List.map_cons, List.map_nil, hlo, hhi]
    simp
  have := magO_block (w := w) (q := [m % 4294967296, m / 4294967296]) (by simp)
  rw [e] at this
  refine ⟨_, this, ?_, by simp, by simp [val]; omega⟩
  intro x hx
  simp only [List.mem_cons, List.not_mem_nil, or_false] at hx
  omega
set_option maxHeartbeats 1600000 in
theorem of_c (n : Int) (w : World) (h0 : -9223372036854775808 ≤ n) (h1 : n < 9223372036854775808) :
    Calls Try.prog 66 #[.int .i64 n] w fun e w' => ∃ v, e = .returned v ∧ Ext w w' ∧ IntO w' w.heap.size v n := by
  by_cases hn : n < 0
  · have hz : sg true n.natAbs = n := by simp [sg]; omega
    replace hz := mkHid hz
    go_enter Try.func66, Try.ntmps66
    go_wp2_with fail
    have e : IntKind.u64.wrap (-IntKind.u64.wrap n) = ((n.natAbs : Nat) : Int) := by rw [IntKind.wrap_u64, IntKind.wrap_u64]; omega
    refine (signed_raw true (w.heap.size + 1) _ n.natAbs _ (raw_two _ _ (by omega) _ _ (by rw [e]) (by rw [e]; omega) _ (by simp))).mono ?_
    rintro e w2 ⟨v, rfl, he2, h7⟩
    have hEW0 := (((Ext.refl w).al _).al _).trans he2
    have hBW := he2.blk ((heap_alloc_old _ _ (by simp)).trans (heap_alloc_new w _))
    rw [hz.out] at h7
    replace he2 := mkHid he2
    obtain ⟨nb, a2, n2, c2, rfl⟩ := h7.r.shape
    have hR : IntO (w2.setRow (w.heap.size) #[.bool nb, .slice a2 n2 c2]) w.heap.size (.agg #[.bool nb, .slice a2 n2 c2]) (n) := (h7.row (by omega) _).mono (by omega)
    have hEW := hEW0.row (show w.heap.size ≤ w.heap.size by omega) #[.bool nb, .slice a2 n2 c2]
    replace hR := mkHid hR
    replace hEW := mkHid hEW
    clear h7 hEW0
    go_wp2_with (refine wpList_store_row rfl 24 (.tmp 2) (.tmp 18) rfl (w.heap.size) #[.bool nb, .slice a2 n2 c2] rfl rfl 24 _ hBW (by kernel_rfl) rfl (by kernel_rfl) ?_)
    exact bodyPost_ret (results_cell_row rfl _ _ (w.heap.size) 24 #[.bool nb, .slice a2 n2 c2] (0, 0) _ rfl (setRow_heap _ _ _ _ _ _ hBW) Try.underlying24 rfl (by kernel_rfl)) rfl ⟨_, rfl, hEW.out, hR.out⟩
  · have hz : sg false n.natAbs = n := by simp [sg]; omega
    replace hz := mkHid hz
    go_enter Try.func66, Try.ntmps66
    go_wp2_with fail
    refine (signed_raw false (w.heap.size + 1) _ n.natAbs _ (raw_two _ _ (by omega) _ _ (by omega) (by omega) _ (by simp))).mono ?_
    rintro e w2 ⟨v, rfl, he2, h7⟩
    have hEW0 := (((Ext.refl w).al _).al _).trans he2
    have hBW := he2.blk ((heap_alloc_old _ _ (by simp)).trans (heap_alloc_new w _))
    rw [hz.out] at h7
    replace he2 := mkHid he2
    obtain ⟨nb, a2, n2, c2, rfl⟩ := h7.r.shape
    have hR : IntO (w2.setRow (w.heap.size) #[.bool nb, .slice a2 n2 c2]) w.heap.size (.agg #[.bool nb, .slice a2 n2 c2]) (n) := (h7.row (by omega) _).mono (by omega)
    have hEW := hEW0.row (show w.heap.size ≤ w.heap.size by omega) #[.bool nb, .slice a2 n2 c2]
    replace hR := mkHid hR
    replace hEW := mkHid hEW
    clear h7 hEW0
    go_wp2_with (refine wpList_store_row rfl 24 (.tmp 2) (.tmp 18) rfl (w.heap.size) #[.bool nb, .slice a2 n2 c2] rfl rfl 24 _ hBW (by kernel_rfl) rfl (by kernel_rfl) ?_)
    exact bodyPost_ret (results_cell_row rfl _ _ (w.heap.size) 24 #[.bool nb, .slice a2 n2 c2] (0, 0) _ rfl (setRow_heap _ _ _ _ _ _ hBW) Try.underlying24 rfl (by kernel_rfl)) rfl ⟨_, rfl, hEW.out, hR.out⟩
set_option maxHeartbeats 1600000 in
theorem sign_c (v : Value) (X : Int) (w : World) (h : IntR w v X) (hX : nl X ≤ 1073741824) :
    Calls Try.prog 63 #[v] w fun e w' => e = .returned (.int .i64 (X.sign)) ∧ Ext w w' := by
  obtain ⟨s, rfl, a, c, rfl, _, r⟩ := h
  clear r
  by_cases h0 : X = 0
  · subst h0
    have hl : (lim (Int.natAbs 0)).length = 0 := by simp [lim_zero]
    rw [hl]
    go_enter Try.func63, Try.ntmps63
    go_wp2_with fail
    go_ret
    exact ⟨rfl, (Ext.refl _).al _⟩
  · have hl : (((lim X.natAbs).length : Int) == 0) = false := by
      have : X.natAbs ≠ 0 := by omega
      rw [lim_pos this]
      simp
      omega
    replace h0 := mkHid h0
    by_cases hn : X < 0
    · have hs : X.sign = -1 := Int.sign_eq_neg_one_of_neg hn
      have hd : decide (X < 0) = true := by simpa using hn
      rw [hs, hd]
      replace hn := mkHid hn
      clear hs hd
      go_enter Try.func63, Try.ntmps63
      go_wp2_with fail
      go_ret
      exact ⟨rfl, (Ext.refl _).al _⟩
    · have hs : X.sign = 1 := Int.sign_eq_one_of_pos (by have := h0.out; omega)
      have hd : decide (X < 0) = false := by simpa using hn
      rw [hs, hd]
      replace hn := mkHid hn
      clear hs hd
      go_enter Try.func63, Try.ntmps63
      go_wp2_with fail
      go_ret
      exact ⟨rfl, (Ext.refl _).al _⟩
set_option maxHeartbeats 3200000 in
theorem cmp_c (v1 v2 : Value) (X Y : Int) (w : World) (hX : nl X ≤ 1073741824) (hY : nl Y ≤ 1073741824) (h1 : IntR w v1 X) (h2 : IntR w v2 Y) :
    Calls Try.prog 64 #[v1, v2] w fun e w' => e = .returned (.int .i64 (X - Y).sign) ∧ Ext w w' := by
  have H1 := mkHid h1
  have H2 := mkHid h2
  obtain ⟨s1, rfl, a1, c1, rfl, _, r1⟩ := h1
  obtain ⟨s2, rfl, a2, c2, rfl, _, r2⟩ := h2
  replace r1 := mkHid r1
  replace r2 := mkHid r2
  obtain ⟨bx, hbx⟩ : ∃ b, b = decide (X < 0) := ⟨_, rfl⟩
  obtain ⟨bY, hbY⟩ : ∃ b, b = decide (Y < 0) := ⟨_, rfl⟩
  rw [← hbx] at H1 ⊢
  rw [← hbY] at H2 ⊢
  replace hbx := mkHid hbx
  replace hbY := mkHid hbY
  go_enter Try.func64, Try.ntmps64
  go_wp2_with fail
  obtain ⟨w3, hw3⟩ : ∃ w3, w3 = (w.alloc (.cells #[.bool bx, .slice a1 (lim X.natAbs).length c1] 24)).alloc (.cells #[.bool bY, .slice a2 (lim Y.natAbs).length c2] 24) := ⟨_, rfl⟩
  have hE : Ext w w3 := by rw [hw3]; exact ((Ext.refl w).al _).al _
  have h00 : ∀ W, Ext w3 W → W.cell? ⟨w.heap.size, 0, none⟩ = some (.bool bx) := fun W e => e.cell (by rw [hw3]; go_simp)
  have h01 : ∀ W, Ext w3 W → W.cell? ⟨w.heap.size, 1, none⟩ = some (.slice a1 (lim X.natAbs).length c1) := fun W e => e.cell (by rw [hw3]; go_simp)
  have h10 : ∀ W, Ext w3 W → W.cell? ⟨w.heap.size + 1, 0, none⟩ = some (.bool bY) := fun W e => e.cell (by rw [hw3]; go_simp)
  have h11 : ∀ W, Ext w3 W → W.cell? ⟨w.heap.size + 1, 1, none⟩ = some (.slice a2 (lim Y.natAbs).length c2) := fun W e => e.cell (by rw [hw3]; go_simp)
  rw [← hw3]
  replace hw3 := mkHid hw3
  apply region_ext [.val _, .val (.int .i64 X.sign), .val _, .val (.int .i64 Y.sign), .val _, .val _] (by kernel_rfl)
    (stable_vals _ (stable_vals _ (stable_vals _ (stable_vals _ (stable_vals _ (stable_vals _ trivial))))))
  · iterate 1 (refine ⟨fun W hW _ => by go_simp; exact ⟨Ext.refl _, rfl⟩, ?_⟩)
    refine ⟨fun W hW _ => ?g1, ?_⟩
    case g1 =>
      go_simp
      refine (sign_c _ X _ (H1.out.ext (hE.trans hW)) hX).mono ?_
      rintro e w' ⟨rfl, h⟩
      exact ⟨rfl, h⟩
    iterate 1 (refine ⟨fun W hW _ => by go_simp; exact ⟨Ext.refl _, rfl⟩, ?_⟩)
    refine ⟨fun W hW _ => ?g3, ?_⟩
    case g3 =>
      go_simp
      refine (sign_c _ Y _ (H2.out.ext (hE.trans hW)) hY).mono ?_
      rintro e w' ⟨rfl, h⟩
      exact ⟨rfl, h⟩
    iterate 2 (refine ⟨fun W hW _ => by go_simp; exact ⟨Ext.refl _, rfl⟩, ?_⟩)
    intro W hW _
    have hEW := mkHid (hE.trans hW)
    by_cases hs : X.sign = Y.sign
    · have hne : (X.sign != Y.sign) = false := by simpa using hs
      replace hs := mkHid hs
      go_simp
      go_wp2_with fail
      refine (size_c _ _ _ _ X.natAbs Y.natAbs W (by unfold nl at *; omega) (by unfold nl at *; omega) (r1.out.ext hEW.out) (r2.out.ext hEW.out)).mono ?_
      rintro e w5 ⟨r, rfl, hr, he5⟩
      have h5 := fun W' (e : Ext w5 W') => h00 W' (hW.trans (he5.trans e))
      have h55 := h5 w5 (Ext.refl _)
      clear h00 h01 h10 h11 h5
      have hres : (bx = true → (r < 0 → (X - Y).sign = 1) ∧ (r = 0 → (X - Y).sign = 0) ∧ (0 < r → (X - Y).sign = -1)) ∧ (bx = false → (r < 0 → (X - Y).sign = -1) ∧ (r = 0 → (X - Y).sign = 0) ∧ (0 < r → (X - Y).sign = 1)) := by
        obtain ⟨q1, q2, q3⟩ := hr
        have hb := hbx.out
        have hs := hs.out
        have sp : ∀ z : Int, 0 < z → z.sign = 1 := fun z h => Int.sign_eq_one_of_pos h
        have sn : ∀ z : Int, z < 0 → z.sign = -1 := fun z h => Int.sign_eq_neg_one_of_neg h
        have s0 : ∀ z : Int, z = 0 → z.sign = 0 := fun z h => by rw [h]; rfl
        have hxy : (X < 0 ∧ Y < 0) ∨ (0 ≤ X ∧ 0 ≤ Y) := by
          rcases Int.lt_trichotomy X 0 with h | h | h <;> rcases Int.lt_trichotomy Y 0 with h' | h' | h'
          all_goals (first | omega | (rw [sn X h, sp Y h'] at hs; omega) | (rw [sp X h, sn Y h'] at hs; omega) | (rw [sn X h, s0 Y h'] at hs; omega) | (rw [s0 X h, sn Y h'] at hs; omega))
        constructor
        · intro hbt
          have hx : X < 0 := by rw [hbt] at hb; simpa using hb
          exact ⟨fun h => sp _ (by omega), fun h => s0 _ (by omega), fun h => sn _ (by omega)⟩
        · intro hbt
          have hx : ¬ X < 0 := by rw [hbt] at hb; simpa using hb
          exact ⟨fun h => sn _ (by omega), fun h => s0 _ (by omega), fun h => sp _ (by omega)⟩
      have hr3 := hr.2.2
      replace hres := mkHid hres
      replace hr := mkHid hr
      have hfin := mkHid (hEW.out.trans he5)
      clear he5 hbx
      cases bx with
      | true =>
        have hv := mkHid (hres.out.1 rfl)
        clear hres
        rcases Int.lt_trichotomy r 0 with h | h | h
        · have hq := mkHid (hv.out.1 h)
          go_wp2_with fail
          go_ret
          exact ⟨ret1_eq hq.out.symm, hfin.out⟩
        · have hq := mkHid (hv.out.2.1 h)
          subst h
          go_wp2_with fail
          go_ret
          exact ⟨ret1_eq hq.out.symm, hfin.out⟩
        · have hq := mkHid (hv.out.2.2 h)
          go_wp2_with fail
          go_ret
          exact ⟨ret1_eq hq.out.symm, hfin.out⟩
      | false =>
        have hv := mkHid (hres.out.2 rfl)
        clear hres
        rcases Int.lt_trichotomy r 0 with h | h | h
        · have hq := mkHid (hv.out.1 h)
          go_wp2_with fail
          go_ret
          exact ⟨ret1_eq hq.out.symm, hfin.out⟩
        · have hq := mkHid (hv.out.2.1 h)
          subst h
          go_wp2_with fail
          go_ret
          exact ⟨ret1_eq hq.out.symm, hfin.out⟩
        · have hq := mkHid (hv.out.2.2 h)
          go_wp2_with fail
          go_ret
          exact ⟨ret1_eq hq.out.symm, hfin.out⟩
    · have hne : (X.sign != Y.sign) = true := by simpa using hs
      have sp : ∀ z : Int, 0 < z → z.sign = 1 := fun z h => Int.sign_eq_one_of_pos h
      have sn : ∀ z : Int, z < 0 → z.sign = -1 := fun z h => Int.sign_eq_neg_one_of_neg h
      have s0 : ∀ z : Int, z = 0 → z.sign = 0 := fun z h => by rw [h]; rfl
      by_cases hlt : X.sign < Y.sign
      · have hv : (X - Y).sign = -1 := by
          rcases Int.lt_trichotomy X 0 with h | h | h <;> rcases Int.lt_trichotomy Y 0 with h' | h' | h'
          all_goals (first | (exact sn _ (by omega)) | (first | rw [sn X h] at hlt | rw [s0 X h] at hlt | rw [sp X h] at hlt); (first | rw [sn Y h'] at hlt | rw [s0 Y h'] at hlt | rw [sp Y h'] at hlt); omega)
        replace hv := mkHid hv
        replace hs := mkHid hs
        clear sp sn s0 h00 h01 h10 h11
        go_simp
        go_wp2_with fail
        go_ret
        exact ⟨ret1_eq hv.out.symm, hEW.out⟩
      · have hv : (X - Y).sign = 1 := by
          rcases Int.lt_trichotomy X 0 with h | h | h <;> rcases Int.lt_trichotomy Y 0 with h' | h' | h'
          all_goals (first | (exact sp _ (by omega)) | (first | rw [sn X h] at hlt hs | rw [s0 X h] at hlt hs | rw [sp X h] at hlt hs); (first | rw [sn Y h'] at hlt hs | rw [s0 Y h'] at hlt hs | rw [sp Y h'] at hlt hs); omega)
        replace hv := mkHid hv
        replace hs := mkHid hs
        clear sp sn s0 h00 h01 h10 h11
        go_simp
        go_wp2_with fail
        go_ret
        exact ⟨ret1_eq hv.out.symm, hEW.out⟩
set_option maxHeartbeats 3200000 in
theorem minus_c (v1 v2 : Value) (X Y : Int) (w : World) (hX : nl X ≤ 1073741824) (hY : nl Y ≤ 1073741824) (h1 : IntR w v1 X) (h2 : IntR w v2 Y) :
    Calls Try.prog 73 #[v1, v2] w fun e w' => ∃ v, e = .returned v ∧ Ext w w' ∧ IntO w' w.heap.size v (X - Y) := by
  have hY2 : nl (-Y) ≤ 1073741824 := by unfold nl at *; simpa using hY
  have H1 := mkHid h1
  obtain ⟨s1, rfl, a1, c1, rfl, _, r1⟩ := h1
  obtain ⟨s2, rfl, a2, c2, rfl, hc2, r2⟩ := h2
  have HN : IntR w (.agg #[.bool (decide (-Y < 0)), .slice a2 (lim Y.natAbs).length c2]) (-Y) := ⟨.slice a2 (lim Y.natAbs).length c2, rfl, a2, c2, by rw [Int.natAbs_neg], by rw [Int.natAbs_neg]; exact hc2, by rw [Int.natAbs_neg]; exact r2⟩
  replace HN := mkHid HN
  clear r1 r2
  obtain ⟨bx, hbx⟩ : ∃ b, b = decide (X < 0) := ⟨_, rfl⟩
  rw [← hbx] at H1 ⊢
  clear hbx
  -- is it turned?
  have key : ∀ (bY : Bool), bY = decide (Y < 0) → Calls Try.prog 73 #[.agg #[.bool bx, .slice a1 (lim X.natAbs).length c1], .agg #[.bool bY, .slice a2 (lim Y.natAbs).length c2]] w fun e w' => ∃ v, e = .returned v ∧ Ext w w' ∧ IntO w' w.heap.size v (X - Y) := by
    intro bY hbY
    cases bY with
    | true =>
      have hd : decide (-Y < 0) = false := by
        have : Y < 0 := by simpa using hbY.symm
        simp
        omega
      rw [hd] at HN
      clear hbY hd
      go_enter Try.func73, Try.ntmps73
      go_wp2_with fail
      refine (plus_c _ _ X (-Y) _ hX hY2 (H1.out.ext ((((Ext.refl w).al _).al _).al _)) (HN.out.ext ((((Ext.refl w).al _).al _).al _))).mono ?_
      rintro e w2 ⟨v, rfl, he2, h7⟩
      have hEW0 := ((((Ext.refl w).al _).al _).al _).trans he2
      have hBW := he2.blk (heap_at _ _ (w.heap.size + 2) (by simp))
      replace h7 : IntO w2 (w.heap.size + 3) v (X - Y) := (by rw [← Int.sub_eq_add_neg] at h7; exact h7.mono (by simp))
      replace he2 := mkHid he2
      obtain ⟨nb, a2, n2, c2, rfl⟩ := h7.r.shape
      have hR : IntO (w2.setRow (w.heap.size + 2) #[.bool nb, .slice a2 n2 c2]) w.heap.size (.agg #[.bool nb, .slice a2 n2 c2]) (X - Y) := (h7.row (by omega) _).mono (by omega)
      have hEW := hEW0.row (show w.heap.size ≤ w.heap.size + 2 by omega) #[.bool nb, .slice a2 n2 c2]
      replace hR := mkHid hR
      replace hEW := mkHid hEW
      clear h7 hEW0
      go_wp2_with (refine wpList_store_row rfl 24 (.tmp 4) (.tmp 18) rfl (w.heap.size + 2) #[.bool nb, .slice a2 n2 c2] rfl rfl 24 _ hBW (by kernel_rfl) rfl (by kernel_rfl) ?_)
      exact bodyPost_ret (results_cell_row rfl _ _ (w.heap.size + 2) 24 #[.bool nb, .slice a2 n2 c2] (0, 0) _ rfl (setRow_heap _ _ _ _ _ _ hBW) Try.underlying24 rfl (by kernel_rfl)) rfl ⟨_, rfl, hEW.out, hR.out⟩
    | false =>
      have hy0 : ¬ Y < 0 := by simpa using hbY.symm
      by_cases h0 : Y = 0
      · have hd : decide (-Y < 0) = false := by simp; omega
        have hl : (lim Y.natAbs).length = 0 := by rw [h0]; simp [lim_zero]
        rw [hd, hl] at HN
        rw [hl]
        clear hbY hd hl hy0 hc2
        replace h0 := mkHid h0
        go_enter Try.func73, Try.ntmps73
        go_wp2_with fail
        refine (plus_c _ _ X (-Y) _ hX hY2 (H1.out.ext ((((Ext.refl w).al _).al _).al _)) (HN.out.ext ((((Ext.refl w).al _).al _).al _))).mono ?_
        rintro e w2 ⟨v, rfl, he2, h7⟩
        have hEW0 := ((((Ext.refl w).al _).al _).al _).trans he2
        have hBW := he2.blk (heap_at _ _ (w.heap.size + 2) (by simp))
        replace h7 : IntO w2 (w.heap.size + 3) v (X - Y) := (by rw [← Int.sub_eq_add_neg] at h7; exact h7.mono (by simp))
        replace he2 := mkHid he2
        obtain ⟨nb, a2, n2, c2, rfl⟩ := h7.r.shape
        have hR : IntO (w2.setRow (w.heap.size + 2) #[.bool nb, .slice a2 n2 c2]) w.heap.size (.agg #[.bool nb, .slice a2 n2 c2]) (X - Y) := (h7.row (by omega) _).mono (by omega)
        have hEW := hEW0.row (show w.heap.size ≤ w.heap.size + 2 by omega) #[.bool nb, .slice a2 n2 c2]
        replace hR := mkHid hR
        replace hEW := mkHid hEW
        clear h7 hEW0
        go_wp2_with (refine wpList_store_row rfl 24 (.tmp 4) (.tmp 18) rfl (w.heap.size + 2) #[.bool nb, .slice a2 n2 c2] rfl rfl 24 _ hBW (by kernel_rfl) rfl (by kernel_rfl) ?_)
        exact bodyPost_ret (results_cell_row rfl _ _ (w.heap.size + 2) 24 #[.bool nb, .slice a2 n2 c2] (0, 0) _ rfl (setRow_heap _ _ _ _ _ _ hBW) Try.underlying24 rfl (by kernel_rfl)) rfl ⟨_, rfl, hEW.out, hR.out⟩
      · have hd : decide (-Y < 0) = true := by simp; omega
        have hl : 0 < (lim Y.natAbs).length := by
          rw [lim_pos (by omega)]
          simp
        rw [hd] at HN
        clear hbY hd hy0 hc2
        replace h0 := mkHid h0
        go_enter Try.func73, Try.ntmps73
        go_wp2_with fail
        refine (plus_c _ _ X (-Y) _ hX hY2 (H1.out.ext ((((Ext.refl w).al _).al _).al _)) (HN.out.ext ((((Ext.refl w).al _).al _).al _))).mono ?_
        rintro e w2 ⟨v, rfl, he2, h7⟩
        have hEW0 := ((((Ext.refl w).al _).al _).al _).trans he2
        have hBW := he2.blk (heap_at _ _ (w.heap.size + 2) (by simp))
        replace h7 : IntO w2 (w.heap.size + 3) v (X - Y) := (by rw [← Int.sub_eq_add_neg] at h7; exact h7.mono (by simp))
        replace he2 := mkHid he2
        obtain ⟨nb, a2, n2, c2, rfl⟩ := h7.r.shape
        have hR : IntO (w2.setRow (w.heap.size + 2) #[.bool nb, .slice a2 n2 c2]) w.heap.size (.agg #[.bool nb, .slice a2 n2 c2]) (X - Y) := (h7.row (by omega) _).mono (by omega)
        have hEW := hEW0.row (show w.heap.size ≤ w.heap.size + 2 by omega) #[.bool nb, .slice a2 n2 c2]
        replace hR := mkHid hR
        replace hEW := mkHid hEW
        clear h7 hEW0
        go_wp2_with (refine wpList_store_row rfl 24 (.tmp 4) (.tmp 18) rfl (w.heap.size + 2) #[.bool nb, .slice a2 n2 c2] rfl rfl 24 _ hBW (by kernel_rfl) rfl (by kernel_rfl) ?_)
        exact bodyPost_ret (results_cell_row rfl _ _ (w.heap.size + 2) 24 #[.bool nb, .slice a2 n2 c2] (0, 0) _ rfl (setRow_heap _ _ _ _ _ _ hBW) Try.underlying24 rfl (by kernel_rfl)) rfl ⟨_, rfl, hEW.out, hR.out⟩
  exact key _ rfl
end Go.Proofs.Ytpmfohhpaoagfaa
namespace Go.Proofs.Ytpmfohhpaoagfaa
open Go Go.RowKit Go.Proofs
theorem val_set {l : List Nat} {j : Nat} (h : j < l.length) (r : Nat) : val (l.set j r) + 4294967296 ^ j * l.getD j 0 = val l + 4294967296 ^ j * r := by
  induction l generalizing j with
  | nil => simp at h
  | cons x l ih =>
    cases j with
    | zero => simp [val]; omega
    | succ j =>
      have := ih (j := j) (by simpa using h)
      simp only [List.set_cons_succ, val, Nat.pow_succ, List.getD_cons_succ]
      have e1 : 4294967296 ^ j * 4294967296 * l.getD j 0 = 4294967296 * (4294967296 ^ j * l.getD j 0) := by rw [Nat.mul_comm (4294967296 ^ j) 4294967296, Nat.mul_assoc]
      have e2 : 4294967296 ^ j * 4294967296 * r = 4294967296 * (4294967296 ^ j * r) := by rw [Nat.mul_comm (4294967296 ^ j) 4294967296, Nat.mul_assoc]
      rw [e1, e2]
      omega
/-- One limb more of one row of the product. -/
theorem mul_step {T A s p u v o c r c' : Nat} (h : T + p * c = A + s) (he : c + (u * v + o) = r + 4294967296 * c') (T' : Nat) (hT : T' + p * o = T + p * r) : T' + p * 4294967296 * c' = A + (s + p * (u * v)) := by
  have e : p * (c + (u * v + o)) = p * (r + 4294967296 * c') := by rw [he]
  simp only [Nat.mul_add, ← Nat.mul_assoc] at e ⊢
  rw [Nat.mul_assoc p u v] at *
  omega
/-- What is kept in the outer loop. -/
def MulO (a b q : List Nat) (i : Nat) : Prop := q.length = a.length + b.length ∧ OkL q ∧ val (q.take (i + b.length)) = val (a.take i) * val b
/-- What is kept in the inner loop. -/
def MulI (a b q : List Nat) (i k c : Nat) : Prop :=
  q.length = a.length + b.length ∧ OkL q ∧ c < 4294967296 ∧ val (q.take (i + b.length)) + 4294967296 ^ (i + k) * c = val (a.take i) * val b + 4294967296 ^ i * a.getD i 0 * val (b.take k)
theorem mulO_start (a b : List Nat) : MulO a b (List.replicate (a.length + b.length) 0) 0 :=
  ⟨by simp, fun x hx => by rw [List.eq_of_mem_replicate hx]; omega, by simp [val, List.take_replicate, val_replicate]⟩
theorem mulI_start {a b q : List Nat} {i : Nat} (h : MulO a b q i) : MulI a b q i 0 0 :=
  ⟨h.1, h.2.1, by omega, by simp [h.2.2, val]⟩
theorem mulI_step {a b q : List Nat} {i k c : Nat} (h : MulI a b q i k c) (hi : i < a.length) (hk : k < b.length) (ha : OkL a) (hb : OkL b) :
    MulI a b (q.set (i + k) ((c + (a.getD i 0 * b.getD k 0 + q.getD (i + k) 0)) % 4294967296)) i (k + 1) ((c + (a.getD i 0 * b.getD k 0 + q.getD (i + k) 0)) / 4294967296) := by
  obtain ⟨h1, h2, h3, h4⟩ := h
  have hu := okL_get ha i
  have hv := okL_get hb k
  have ho := okL_get h2 (i + k)
  have hlt : i + k < (q.take (i + b.length)).length := by rw [List.length_take]; omega
  have hs := val_set hlt ((c + (a.getD i 0 * b.getD k 0 + q.getD (i + k) 0)) % 4294967296)
  have hg : (q.take (i + b.length)).getD (i + k) 0 = q.getD (i + k) 0 := by
    simp [List.getD_eq_getElem?_getD, hk]
  rw [hg] at hs
  refine ⟨by simpa using h1, okL_set h2 (Nat.mod_lt _ (by omega)), ?_, ?_⟩
  · have : a.getD i 0 * b.getD k 0 ≤ 4294967295 * 4294967295 := Nat.mul_le_mul (by omega) (by omega)
    refine Nat.div_lt_of_lt_mul ?_
    omega
  · rw [val_take_succ b k hk, List.take_set]
    have e := (Nat.mod_add_div (c + (a.getD i 0 * b.getD k 0 + q.getD (i + k) 0)) 4294967296).symm
    have := mul_step h4 e _ hs
    rw [show i + (k + 1) = (i + k) + 1 from rfl, Nat.pow_succ, this]
    rw [Nat.mul_add, Nat.pow_add]
    simp only [Nat.mul_assoc, Nat.mul_left_comm]
theorem mulI_end {a b q : List Nat} {i c : Nat} (h : MulI a b q i b.length c) (hi : i < a.length) : MulO a b (q.set (i + b.length) c) (i + 1) := by
  obtain ⟨h1, h2, h3, h4⟩ := h
  refine ⟨by simpa using h1, okL_set h2 h3, ?_⟩
  rw [show i + 1 + b.length = (i + b.length) + 1 by omega, val_take_set _ _ _ (by omega), h4, List.take_length, val_take_succ a i hi, Nat.add_mul]
/-- The bounds that the walk asks for. -/
theorem mul_bounds {u v o c : Nat} (hu : u < 4294967296) (hv : v < 4294967296) (ho : o < 4294967296) (hc : c < 4294967296) :
    0 ≤ (u : Int) * v ∧ (u : Int) * v + o ≤ 18446744069414584320 ∧ (c : Int) + ((u : Int) * v + o) ≤ 18446744073709551615 := by
  have h : u * v ≤ 4294967295 * 4294967295 := Nat.mul_le_mul (by omega) (by omega)
  have e : (u : Int) * v = ((u * v : Nat) : Int) := by simp
  rw [e]
  omega
set_option maxRecDepth 100000 in
set_option maxHeartbeats 3200000 in
theorem times_raw (bx bY : Bool) (a a' : Option Addr) (c c' : Nat) (l m : List Nat) (w : World) (hl : l.length ≤ 1073741824) (hm : m.length ≤ 1073741824) (okl : OkL l) (okm : OkL m)
    (h : Row w a (limV l)) (h' : Row w a' (limV m)) :
    Calls Try.prog 71 #[.agg #[.bool bx, .slice a l.length c], .agg #[.bool bY, .slice a' m.length c']] w fun e w' => ∃ v, e = .returned v ∧ Ext w w' ∧ IntO w' w.heap.size v (sg (bx != bY) (val l * val m)) := by
  obtain ⟨b, off, ha, hc⟩ := h
  obtain ⟨b', off', ha', hc'⟩ := h'
  replace ha := mkHid ha
  replace hc := mkHid hc
  replace ha' := mkHid ha'
  replace hc' := mkHid hc'
  have hmk := fun w => make32 (l.length + m.length) w (by omega)
  rw [show (((l.length + m.length : Nat)) : Int) = (l.length : Int) + m.length by omega] at hmk
  have hst := mkHid (mulO_start l m)
  go_enter Try.func71, Try.ntmps71
  go_wp2_with fail
  obtain ⟨w3, hw3⟩ : ∃ w3, w3 = ((w.alloc (.cells #[.bool bx, .slice a l.length c] 24)).alloc (.cells #[.bool bY, .slice a' m.length c'] 24)).alloc (.cells #[.bool false, .slice none 0 0] 24) := ⟨_, rfl⟩
  have hE : Ext w w3 := by rw [hw3]; exact (((Ext.refl w).al _).al _).al _
  have h00 : ∀ W, Ext w3 W → W.cell? ⟨w.heap.size, 0, none⟩ = some (.bool bx) := fun W e => e.cell (by rw [hw3]; go_simp)
  have h01 : ∀ W, Ext w3 W → W.cell? ⟨w.heap.size, 1, none⟩ = some (.slice a l.length c) := fun W e => e.cell (by rw [hw3]; go_simp)
  have h10 : ∀ W, Ext w3 W → W.cell? ⟨w.heap.size + 1, 0, none⟩ = some (.bool bY) := fun W e => e.cell (by rw [hw3]; go_simp)
  have h11 : ∀ W, Ext w3 W → W.cell? ⟨w.heap.size + 1, 1, none⟩ = some (.slice a' m.length c') := fun W e => e.cell (by rw [hw3]; go_simp)
  have hsz : w.heap.size + 3 ≤ w3.heap.size := by rw [hw3]; simp
  have hB : ∀ W, Ext w3 W → W.heap[w.heap.size + 2]? = some (.cells #[.bool false, .slice none 0 0] 24) := fun W e => e.blk (by rw [hw3]; exact heap_at _ _ _ (by simp))
  rw [← hw3]
  replace hw3 := mkHid hw3
  replace hB := mkHid hB
  apply region_ext [.val _, .val _, .val _, .val _, .val _, .val _] (by kernel_rfl) (stable_vals _ (stable_vals _ (stable_vals _ (stable_vals _ (stable_vals _ (stable_vals _ trivial))))))
  · iterate 6 (refine ⟨fun W hW _ => by go_simp; exact ⟨Ext.refl _, rfl⟩, ?_⟩)
    intro W hW _
    have hEW := mkHid (hE.trans hW)
    have g00 := h00 W hW
    have g10 := h10 W hW
    have hBW := hB.out W hW
    have hsW : w.heap.size + 3 ≤ W.heap.size := by have := hW.size; omega
    clear h00 h01 h10 h11 hW hE hB
    go_simp
    replace g00 := mkHid g00
    replace g10 := mkHid g10
    replace hBW := mkHid hBW
    go_wp2_with fail
    go_loopw [25] (fun i wr => ∃ k q, k ≤ l.length ∧ i = .int .i64 (k : Nat) ∧ wr = W.alloc (.cells (limV q).toArray 94) ∧ MulO l m q k) (fun i _ => l.length - (intOf i).toNat)
    case atStart => exact ⟨0, _, Nat.zero_le _, rfl, rfl, hst.out⟩
    case round =>
      obtain ⟨k, q, hk, rfl, rfl, hmo⟩ := hrel
      replace hmo := mkHid hmo
      by_cases hkl : k < l.length
      · have h1 := fun o => (((hEW.out).al o)).cell (row_at hc.out hkl)
        have hA := ha.out (limV_ne hkl)
        rw [hA]
        replace hA := mkHid hA
        have hu := okL_get okl k
        obtain ⟨u, hu'⟩ : ∃ u, u = l.getD k 0 := ⟨_, rfl⟩
        rw [← hu'] at h1 hu
        have hi0 := mkHid (mulI_start hmo.out)
        replace hu' := mkHid hu'
        have hkl' := mkHid hkl
        go_wp2_with fail
        go_loopw [32, 10] (fun i s wr => ∃ kk cr q, kk ≤ m.length ∧ i = .int .i64 (kk : Nat) ∧ s = .int .u64 (cr : Nat) ∧ wr = W.alloc (.cells (limV q).toArray 94) ∧ MulI l m q k kk cr) (fun i _ _ => m.length - (intOf i).toNat)
        case atStart => exact ⟨0, 0, q, Nat.zero_le _, rfl, rfl, rfl, hi0.out⟩
        case round =>
          obtain ⟨kk, cr, q, hkk, rfl, rfl, rfl, hmi⟩ := hrel
          have hq1 := hmi.1
          have hcr := hmi.2.2.1
          by_cases hkk2 : kk < m.length
          · have h2 := fun o => (((hEW.out).al o)).cell (row_at hc'.out hkk2)
            have hA' := ha'.out (limV_ne hkk2)
            have hv := okL_get okm kk
            have hold := arr_get (q := q) (k := k + kk) (by omega)
            have ho := okL_get hmi.2.1 (k + kk)
            have hnext := mulI_step hmi hkl'.out hkk2 okl okm
            rw [← hu'.out] at hnext
            have hb := mul_bounds hu hv ho hcr
            obtain ⟨R, hR⟩ : ∃ R, R = (cr + (u * m.getD kk 0 + q.getD (k + kk) 0)) := ⟨_, rfl⟩
            rw [← hR] at hnext
            have hset := limV_arr_set q (k + kk) (R % 4294967296)
            rw [hA']
            replace hA' := mkHid hA'
            replace hnext := mkHid hnext
            replace hmi := mkHid hmi
            replace hset := mkHid hset
            generalize m.getD kk 0 = v at *
            generalize q.getD (k + kk) 0 = o at *
            generalize hArr : (limV q).toArray = arr at *
            replace hArr := mkHid hArr
            replace hR := mkHid hR
            go_wp2_with fail
            have hRi : (R : Int) = cr + ((u : Int) * v + o) := by rw [hR.out]; simp
            go_roundw
            case rel => exact ⟨kk + 1, R / 4294967296, _, by omega, by go_num, by rw [← hRi]; rfl, by rw [← hset.out, ← hRi]; rfl, hnext.out⟩
            case measure => simp [intOf] <;> omega
          · obtain rfl : kk = m.length := by omega
            have hend := mkHid (mulI_end hmi hkl'.out)
            have hold := arr_get (q := q) (k := k + m.length) (by omega)
            have hset := mkHid (limV_arr_set q (k + m.length) cr)
            replace hmi := mkHid hmi
            generalize hArr : (limV q).toArray = arr at *
            replace hArr := mkHid hArr
            go_wp2_with fail
            go_roundw
            case rel => exact ⟨k + 1, _, by omega, by go_num, by rw [← hset.out], hend.out⟩
            case measure => simp [intOf] <;> omega
      · obtain rfl : k = l.length := by omega
        obtain ⟨x1, x2, x3⟩ := hmo.out
        rw [List.take_length, List.take_of_length_le (by omega)] at x3
        have g00' := fun o => ((Ext.refl W).al o).cell g00.out
        have g10' := fun o => ((Ext.refl W).al o).cell g10.out
        have hraw : RawO (W.alloc (.cells (limV q).toArray 94)) W.heap.size (.slice (some ⟨W.heap.size, 0, none⟩) q.length q.length) (val l * val m) := ⟨q, magO_block (by omega), x2, by omega, x3⟩
        have hsg := signed_raw (bx != bY) W.heap.size _ _ _ hraw
        rw [x1] at hsg
        replace hsg := mkHid hsg
        clear hraw
        replace x1 := mkHid x1
        generalize hArr : (limV q).toArray = arr at *
        replace hArr := mkHid hArr
        go_wp2_with fail
        refine hsg.out.mono ?_
        rintro e w2 ⟨v, rfl, hE2, h7⟩
        replace hE2 := mkHid hE2
        have hEW0 : Ext w w2 := (hEW.out.al _).trans hE2.out
        replace hBW : w2.heap[w.heap.size + 2]? = some (.cells #[.bool false, .slice none 0 0] 24) := (((Ext.refl W).al _).trans hE2.out).blk hBW.out
        clear g00' g10' hsg
        obtain ⟨nb, a2, n2, c2, rfl⟩ := h7.r.shape
        have hR : IntO (w2.setRow (w.heap.size + 2) #[.bool nb, .slice a2 n2 c2]) w.heap.size (.agg #[.bool nb, .slice a2 n2 c2]) (sg (bx != bY) (val l * val m)) := (h7.row (by omega) _).mono (by omega)
        have hEW := hEW0.row (show w.heap.size ≤ w.heap.size + 2 by omega) #[.bool nb, .slice a2 n2 c2]
        replace hR := mkHid hR
        replace hEW := mkHid hEW
        clear h7 hEW0
        go_wp2_with (refine wpList_store_row rfl 24 (.tmp 4) (.tmp 77) rfl (w.heap.size + 2) #[.bool nb, .slice a2 n2 c2] rfl rfl 24 _ hBW (by kernel_rfl) rfl (by kernel_rfl) ?_)
        exact bodyPost_ret (results_cell_row rfl _ _ (w.heap.size + 2) 24 #[.bool nb, .slice a2 n2 c2] (0, 0) _ rfl (setRow_heap _ _ _ _ _ _ hBW) Try.underlying24 rfl (by kernel_rfl)) rfl ⟨_, rfl, hEW.out, hR.out⟩
theorem sg_mul (X Y : Int) : sg (decide (X < 0) != decide (Y < 0)) (X.natAbs * Y.natAbs) = X * Y := by
  unfold sg
  have h : ((X.natAbs * Y.natAbs : Nat) : Int) = (X.natAbs : Int) * (Y.natAbs : Int) := by simp
  by_cases hx : X < 0
  · by_cases hy : Y < 0
    · rw [decide_eq_true hx, decide_eq_true hy]
      show ((X.natAbs * Y.natAbs : Nat) : Int) = X * Y
      rw [h, show (X.natAbs : Int) = -X by omega, show (Y.natAbs : Int) = -Y by omega, Int.neg_mul_neg]
    · rw [decide_eq_true hx, decide_eq_false hy]
      show -((X.natAbs * Y.natAbs : Nat) : Int) = X * Y
      rw [h, show (X.natAbs : Int) = -X by omega, show (Y.natAbs : Int) = Y by omega, Int.neg_mul, Int.neg_neg]
  · by_cases hy : Y < 0
    · rw [decide_eq_false hx, decide_eq_true hy]
      show -((X.natAbs * Y.natAbs : Nat) : Int) = X * Y
      rw [h, show (X.natAbs : Int) = X by omega, show (Y.natAbs : Int) = -Y by omega, Int.mul_neg, Int.neg_neg]
    · rw [decide_eq_false hx, decide_eq_false hy]
      show ((X.natAbs * Y.natAbs : Nat) : Int) = X * Y
      rw [h, show (X.natAbs : Int) = X by omega, show (Y.natAbs : Int) = Y by omega]
/-- Times. -/
theorem times_c (v1 v2 : Value) (X Y : Int) (w : World) (hX : nl X ≤ 1073741824) (hY : nl Y ≤ 1073741824) (h1 : IntR w v1 X) (h2 : IntR w v2 Y) :
    Calls Try.prog 71 #[v1, v2] w fun e w' => ∃ v, e = .returned v ∧ Ext w w' ∧ IntO w' w.heap.size v (X * Y) := by
  obtain ⟨s1, rfl, a1, c1, rfl, _, r1⟩ := h1
  obtain ⟨s2, rfl, a2, c2, rfl, _, r2⟩ := h2
  refine (times_raw (decide (X < 0)) (decide (Y < 0)) a1 a2 c1 c2 _ _ w hX hY (lim_ok _) (lim_ok _) r1 r2).mono ?_
  rintro e w' ⟨v, h, h1, h2⟩
  rw [val_lim, val_lim, sg_mul] at h2
  exact ⟨v, h, h1, h2⟩
end Go.Proofs.Ytpmfohhpaoagfaa
