/-
  ratio: Checks, Long, Answer. frac: answered, Make, Of. frac: always, do, Mul, Sub. frac: Mul, Sub. frac: Make, Of; the law's whole. law14: whole, matrix. period: counted, second. Regions that draw their order, in which one plain move may float past the tail: no program. Printed by tools/gen_pre.py out of XFree. period: (*row).on. period: many. period: the lengths of the numbers in the recurrence: no program.
-/
import Derived.Test.YtpmfohhpaoagfaaGreatMAE
import Derived.Test.YtpmfohhpaoagfaaGreatMAA
import Derived.Deep.LoopGhost
namespace Go.Proofs.YtpmfohhpaoagfaaGreat
open Go Go.RowKit Go.Proofs
/-- Fractions side by side in a block. -/
def LF (w : World) (g : Nat) (os : List (Option Rat)) : Prop :=
  ∀ k, k < os.length → ∃ b1 a1 n1 c1 b2 a2 n2 c2, w.cell? ⟨g, k * 4, none⟩ = some (.bool b1) ∧ w.cell? ⟨g, k * 4 + 1, none⟩ = some (.slice a1 n1 c1) ∧ w.cell? ⟨g, k * 4 + 2, none⟩ = some (.bool b2) ∧ w.cell? ⟨g, k * 4 + 3, none⟩ = some (.slice a2 n2 c2) ∧
    AnyF w (.agg #[.bool b1, .slice a1 n1 c1, .bool b2, .slice a2 n2 c2]) (os.getD k none)
theorem LF.ext {w w' : World} {g : Nat} {os : List (Option Rat)} (h : LF w g os) (e : Ext w w') : LF w' g os := by
  intro k hk
  obtain ⟨b1, a1, n1, c1, b2, a2, n2, c2, h1, h2, h3, h4, h5⟩ := h k hk
  exact ⟨b1, a1, n1, c1, b2, a2, n2, c2, e.cell h1, e.cell h2, e.cell h3, e.cell h4, h5.ext e⟩
set_option maxHeartbeats 1600000 in
theorem checks_f (g cap : Nat) (os : List (Option Rat)) (w : World) (hn : os.length ≤ 4294967296) (h : LF w g os) :
    Calls Tryz.prog 22 #[.slice (some ⟨g, 0, none⟩) os.length cap] w fun e w' => e = .returned (.bool (os.all Option.isSome)) ∧ Ext w w' := by
  replace h := mkHid h
  obtain ⟨n, hnn⟩ : ∃ n, n = os.length := ⟨_, rfl⟩
  rw [← hnn]
  obtain ⟨r, hr⟩ : ∃ r, r = os.all Option.isSome := ⟨_, rfl⟩
  rw [← hr]
  have hn2 : n ≤ 4294967296 := by omega
  replace hnn := mkHid hnn
  replace hr := mkHid hr
  clear hn
  obtain ⟨wo, hwo⟩ : ∃ wo : World, wo = w := ⟨_, rfl⟩
  go_enter Tryz.func22, Tryz.ntmps22
  go_wp2_with fail
  go_loopw [7] (fun i wr => ∃ k, k ≤ n ∧ i = .int .i64 (k : Nat) ∧ Ext wo wr ∧ ∀ j, j < k → (os.getD j none).isSome = true) (fun i _ => n - (intOf i).toNat)
  case atStart => exact ⟨0, Nat.zero_le _, rfl, hwo ▸ Ext.refl _, fun j hj => absurd hj (by omega)⟩
  case round =>
    obtain ⟨k, hk, rfl, hE, hj⟩ := hrel
    by_cases hlt : k < n
    · obtain ⟨b1, a1, n1, c1, b2, a2, n2, c2, h1, h2, h3, h4, h5⟩ := (h.out.ext (hwo ▸ hE)) k (by rw [← hnn.out]; exact hlt)
      have hck := mkHid (fun w h => check_f (.agg #[.bool b1, .slice a1 n1 c1, .bool b2, .slice a2 n2 c2]) (os.getD k none) w h)
      obtain ⟨o, ho⟩ : ∃ o, o = os.getD k none := ⟨_, rfl⟩
      rw [← ho] at hck h5
      replace h5 := mkHid h5
      replace hE := mkHid hE
      replace hj := mkHid hj
      replace ho := mkHid ho
      cases o with
      | none =>
        have hf : r = false := by
          rw [hr.out, Bool.eq_false_iff]
          intro e
          rw [List.all_eq_true] at e
          have hkl : k < os.length := by rw [← hnn.out]; exact hlt
          have := e _ (List.getElem_mem hkl)
          have h2 := ho.out
          rw [List.getD_eq_getElem?_getD, List.getElem?_eq_getElem hkl] at h2
          simp at h2
          rw [← h2] at this
          cases this
        subst hf
        simp only [Option.isSome_none] at hck
        go_wp2_with fail
        refine (hck.out _ (h5.out.ext ((Ext.refl wr).al _))).mono ?_
        rintro e w2 ⟨rfl, hE2⟩
        replace hE := mkHid (hE.out.trans (((Ext.refl wr).al _).trans hE2))
        clear hE2 h1 h2 h3 h4
        go_wp2_with fail
        go_ret
        exact ⟨rfl, hwo ▸ hE.out⟩
      | some x =>
        simp only [Option.isSome_some] at hck
        go_wp2_with fail
        refine (hck.out _ (h5.out.ext ((Ext.refl wr).al _))).mono ?_
        rintro e w2 ⟨rfl, hE2⟩
        replace hE := mkHid (hE.out.trans (((Ext.refl wr).al _).trans hE2))
        clear hE2 h1 h2 h3 h4
        go_wp2_with fail
        go_roundw
        case rel =>
          refine ⟨k + 1, by omega, by go_num, hE.out, fun j hjk => ?_⟩
          rcases Nat.lt_or_ge j k with h | h
          · exact hj.out j h
          · obtain rfl : j = k := by omega
            rw [← ho.out]
            rfl
        case measure => simp [intOf] <;> omega
    · obtain rfl : n = k := by omega
      have hf : r = true := by
        rw [hr.out, List.all_eq_true]
        intro x hx
        obtain ⟨j, hjl, rfl⟩ := List.getElem_of_mem hx
        have := hj j (by rw [hnn.out]; exact hjl)
        rwa [List.getD_eq_getElem?_getD, List.getElem?_eq_getElem hjl] at this
      subst hf
      replace hE := mkHid hE
      replace hj := mkHid hj
      go_wp2_with fail
      go_ret
      exact ⟨rfl, hwo ▸ hE.out⟩
/-- Fractions in lowest terms side by side in a block. -/
def LR (w : World) (g : Nat) (os : List Rat) : Prop :=
  ∀ k, k < os.length → ∃ b1 a1 n1 c1 b2 a2 n2 c2, w.cell? ⟨g, k * 4, none⟩ = some (.bool b1) ∧ w.cell? ⟨g, k * 4 + 1, none⟩ = some (.slice a1 n1 c1) ∧ w.cell? ⟨g, k * 4 + 2, none⟩ = some (.bool b2) ∧ w.cell? ⟨g, k * 4 + 3, none⟩ = some (.slice a2 n2 c2) ∧
    FracR w (.agg #[.bool b1, .slice a1 n1 c1, .bool b2, .slice a2 n2 c2]) (os.getD k 0)
theorem LR.ext {w w' : World} {g : Nat} {os : List Rat} (h : LR w g os) (e : Ext w w') : LR w' g os := by
  intro k hk
  obtain ⟨b1, a1, n1, c1, b2, a2, n2, c2, h1, h2, h3, h4, h5⟩ := h k hk
  exact ⟨b1, a1, n1, c1, b2, a2, n2, c2, e.cell h1, e.cell h2, e.cell h3, e.cell h4, h5.ext e⟩
theorem frac_lens {w : World} {b1 b2 : Bool} {a1 a2 : Option Addr} {n1 c1 n2 c2 : Nat} {x : Rat} (h : FracR w (.agg #[.bool b1, .slice a1 n1 c1, .bool b2, .slice a2 n2 c2]) x) : n1 = nl x.num ∧ n2 = nl (x.den : Int) := by
  obtain ⟨s1, e1, _, _, rfl, _, _⟩ := h.num
  obtain ⟨s2, e2, _, _, rfl, _, _⟩ := h.den
  simp only [Value.agg.injEq, Array.mk.injEq, List.cons.injEq, and_true, Value.slice.injEq] at e1 e2
  exact ⟨e1.2.2.1, e2.2.2.1⟩
set_option maxHeartbeats 1600000 in
theorem longs_f (g cap : Nat) (os : List Rat) (w : World) (hn : os.length ≤ 4294967296) (hb : ∀ x ∈ os, nf x ≤ 4294967296) (h : LR w g os) :
    Calls Tryz.prog 91 #[.slice (some ⟨g, 0, none⟩) os.length cap] w fun e w' => e = .returned (.bool (os.any fun x => decide (2048 < nf x))) ∧ Ext w w' := by
  replace h := mkHid h
  replace hb := mkHid hb
  obtain ⟨n, hnn⟩ : ∃ n, n = os.length := ⟨_, rfl⟩
  rw [← hnn]
  obtain ⟨r, hr⟩ : ∃ r, r = os.any fun x => decide (2048 < nf x) := ⟨_, rfl⟩
  rw [← hr]
  have hn2 : n ≤ 4294967296 := by omega
  replace hnn := mkHid hnn
  replace hr := mkHid hr
  clear hn
  obtain ⟨wo, hwo⟩ : ∃ wo : World, wo = w := ⟨_, rfl⟩
  go_enter Tryz.func91, Tryz.ntmps91
  go_wp2_with fail
  go_loopw [7] (fun i wr => ∃ k, k ≤ n ∧ i = .int .i64 (k : Nat) ∧ Ext wo wr ∧ ∀ j, j < k → nf (os.getD j 0) ≤ 2048) (fun i _ => n - (intOf i).toNat)
  case atStart => exact ⟨0, Nat.zero_le _, rfl, hwo ▸ Ext.refl _, fun j hj => absurd hj (by omega)⟩
  case round =>
    obtain ⟨k, hk, rfl, hE, hj⟩ := hrel
    by_cases hlt : k < n
    · have hkl : k < os.length := by rw [← hnn.out]; exact hlt
      obtain ⟨b1, a1, n1, c1, b2, a2, n2, c2, h1, h2, h3, h4, h5⟩ := (h.out.ext (hwo ▸ hE)) k hkl
      obtain ⟨l1, l2⟩ := frac_lens h5
      have hmem : os.getD k 0 ∈ os := by
        rw [List.getD_eq_getElem?_getD, List.getElem?_eq_getElem hkl]
        exact List.getElem_mem hkl
      have hbk := hb.out _ hmem
      have hfx : nf (os.getD k 0) = max n1 n2 := by rw [l1, l2]; rfl
      have hm1 : n1 ≤ 4294967296 := by omega
      have hm2 : n2 ≤ 4294967296 := by omega
      have lg1 := mkHid (fun gg w h0 h1 => long_c gg b1 a1 n1 c1 1 w hm1 h0 h1)
      have lg2 := mkHid (fun gg w h0 h1 => long_c gg b2 a2 n2 c2 1 w hm2 h0 h1)
      have hrt : 2048 < nf (os.getD k 0) → r = true := by
        intro h
        rw [hr.out, List.any_eq_true]
        exact ⟨_, hmem, decide_eq_true h⟩
      replace hE := mkHid hE
      replace hj := mkHid hj
      replace hrt := mkHid hrt
      clear l1 l2 hbk h5
      replace hfx := mkHid hfx
      replace hkl := mkHid hkl
      replace hmem := mkHid hmem
      by_cases g1 : 2048 < n1
      · rw [decide_eq_true g1] at lg1
        have hr1 : r = true := hrt.out (by rw [hfx.out]; omega)
        subst hr1
        go_wp2_with fail
        refine (lg1.out _ _ (by go_simp) (by go_simp)).mono ?_
        rintro e w2 ⟨rfl, hE2⟩
        replace hE := mkHid (hE.out.trans ((((Ext.refl wr).al _).al _).trans hE2))
        clear hE2 h1 h2 h3 h4
        go_wp2_with fail
        go_ret
        exact ⟨rfl, hwo ▸ hE.out⟩
      · rw [decide_eq_false g1] at lg1
        go_wp2_with fail
        refine (lg1.out _ _ (by go_simp) (by go_simp)).mono ?_
        rintro e w2 ⟨rfl, hE2⟩
        have hb4 := row4_cells (hE2.blk ((heap_alloc_old _ _ (by simp)).trans (heap_alloc_new wr _)))
        replace hE := mkHid (hE.out.trans ((((Ext.refl wr).al _).al _).trans hE2))
        clear hE2 h1 h2 h3 h4
        by_cases g2 : 2048 < n2
        · rw [decide_eq_true g2] at lg2
          have hr1 : r = true := hrt.out (by rw [hfx.out]; omega)
          subst hr1
          go_wp2_with fail
          refine (lg2.out _ _ (by go_simp) (by go_simp)).mono ?_
          rintro e w3 ⟨rfl, hE2⟩
          replace hE := mkHid (hE.out.trans (((Ext.refl w2).al _).trans hE2))
          clear hE2 hb4
          go_wp2_with fail
          go_ret
          exact ⟨rfl, hwo ▸ hE.out⟩
        · rw [decide_eq_false g2] at lg2
          go_wp2_with fail
          refine (lg2.out _ _ (by go_simp) (by go_simp)).mono ?_
          rintro e w3 ⟨rfl, hE2⟩
          replace hE := mkHid (hE.out.trans (((Ext.refl w2).al _).trans hE2))
          clear hE2 hb4
          go_wp2_with fail
          go_roundw
          case rel =>
            refine ⟨k + 1, by omega, by go_num, hE.out, fun j hjk => ?_⟩
            rcases Nat.lt_or_ge j k with h | h
            · exact hj.out j h
            · obtain rfl : j = k := by omega
              rw [hfx.out]
              omega
          case measure => simp [intOf] <;> omega
    · obtain rfl : n = k := by omega
      have hf : r = false := by
        rw [hr.out, List.any_eq_false]
        intro x hx
        obtain ⟨j, hjl, rfl⟩ := List.getElem_of_mem hx
        have := hj j (by rw [hnn.out]; exact hjl)
        rw [List.getD_eq_getElem?_getD, List.getElem?_eq_getElem hjl] at this
        simpa using this
      subst hf
      replace hE := mkHid hE
      replace hj := mkHid hj
      go_wp2_with fail
      go_ret
      exact ⟨rfl, hwo ▸ hE.out⟩
theorem answer_f (g cap : Nat) (os : List Rat) (w : World) (hn : os.length ≤ 4294967296) (hb : ∀ x ∈ os, nf x ≤ 4294967296) (h : LR w g os) :
    Calls Tryz.prog 66 #[.slice (some ⟨g, 0, none⟩) os.length cap] w fun e w' => e = .returned (.int .i64 (if (os.any fun x => decide (2048 < nf x)) = true then 4 else 0)) ∧ Ext w w' := by
  have hl := mkHid (longs_f g cap os w hn hb h)
  clear h hb hn
  generalize (os.any fun x => decide (2048 < nf x)) = r at *
  generalize os.length = n at *
  cases r
  · rw [if_neg (by decide)]
    go_enter Tryz.func66, Tryz.ntmps66
    go_wp2_with fail
    refine hl.out.mono ?_
    rintro e w' ⟨rfl, hE⟩
    go_wp2_with fail
    go_ret
    exact ⟨rfl, hE⟩
  · rw [if_pos rfl]
    go_enter Tryz.func66, Tryz.ntmps66
    go_wp2_with fail
    refine hl.out.mono ?_
    rintro e w' ⟨rfl, hE⟩
    go_wp2_with fail
    go_ret
    exact ⟨rfl, hE⟩
end Go.Proofs.YtpmfohhpaoagfaaGreat
namespace Go.Proofs.YtpmfohhpaoagfaaGreat
open Go Go.RowKit Go.Proofs
theorem results_row_tmp {P : Program} {fn : Func} {p q : Tmp} {ty : TypeId} (h : fn.results = #[.cell p ty, .tmp q]) (tmps : Array Value) (w : World) (g : Nat) (t : TypeId) (cs : Array Value) (u : Value) (d : TypeDesc)
    (hp : tmps.getD p undef = .pointer (some ⟨g, 0, none⟩)) (hq : tmps.getD q undef = u) (hg : w.heap[g]? = some (.cells cs t (0, 0)))
    (hu : P.underlying ty = some d) (hd : (match d with | .struct _ | .array _ _ => true | _ => false) = true) (hi : (P.info? ty).map (·.size) = some cs.size) :
    (results fn tmps).run P w = .ok (.tuple #[.agg cs, u]) w := by
  have hp' : tmps[p]?.getD undef = .pointer (some ⟨g, 0, none⟩) := by simpa using hp
  have hq' : tmps[q]?.getD undef = u := by simpa using hq
  simp [results, h, hp', hq', asAddr, run_loadVar_row w g t ty cs (0, 0) d hg hu hd hi]
theorem okL_nil : OkL [] := by intro x hx; simp at hx
theorem any_zero (w : World) : AnyF w (.agg #[.bool false, .slice none 0 0, .bool false, .slice none 0 0]) none :=
  ⟨false, [], false, [], ⟨none, 0, none, 0, rfl, by simp, by simp, ⟨none, 0, rfl, okL_nil, Nat.le_refl _, row_nil w⟩, ⟨none, 0, rfl, okL_nil, Nat.le_refl _, row_nil w⟩⟩, by unfold ratF okF; simp [sg, val]⟩
theorem lr_one {w : World} {g : Nat} {b1 b2 : Bool} {a1 a2 : Option Addr} {n1 c1 n2 c2 : Nat} {x : Rat} {T : Nat} (hg : w.heap[g]? = some (.cells #[.bool b1, .slice a1 n1 c1, .bool b2, .slice a2 n2 c2] T (0, 0)))
    (h : FracR w (.agg #[.bool b1, .slice a1 n1 c1, .bool b2, .slice a2 n2 c2]) x) : LR w g [x] := by
  intro k hk
  obtain rfl : k = 0 := by simpa using hk
  have := row4_cells hg
  exact ⟨_, _, _, _, _, _, _, _, this.1, this.2.1, this.2.2.1, this.2.2.2, h⟩
/-- What is handed out of a number reckoned: the number, or nothing where it is too long. -/
def capF (x : Rat) : Option Rat := if nf x ≤ 2048 then some x else none
def capE (x : Rat) : Int := if nf x ≤ 2048 then 0 else 4
set_option maxHeartbeats 1600000 in
theorem answered_f (v : Value) (x : Rat) (w : World) (hx : nf x ≤ 268435456) (h : FracR w v x) :
    Calls Tryz.prog 111 #[v] w fun e w' => ∃ v', e = .returned (.tuple #[v', .int .i64 (capE x)]) ∧ Ext w w' ∧ AnyF w' v' (capF x) := by
  have H := h
  obtain ⟨p1, q1, r1, s1, p2, q2, r2, s2, rfl⟩ := h.shape
  have ha := mkHid (fun w gg (hg : LR w gg [x]) => answer_f gg 1 [x] w (by simp) (fun y hy => by simp at hy; subst hy; omega) hg)
  have hc := mkHid (fun w h => copy_f (.agg #[.bool p1, .slice q1 r1 s1, .bool p2, .slice q2 r2 s2]) x w hx h)
  simp only [List.any_cons, List.any_nil, Bool.or_false, decide_eq_true_eq] at ha
  obtain ⟨w3, hw3⟩ : ∃ w3, w3 = ((w.alloc (.cells #[.bool p1, .slice q1 r1 s1, .bool p2, .slice q2 r2 s2] 26)).alloc (.cells #[.bool false, .slice none 0 0, .bool false, .slice none 0 0] 26)).alloc (.cells #[.bool p1, .slice q1 r1 s1, .bool p2, .slice q2 r2 s2] 26) := ⟨_, rfl⟩
  have hE : Ext w w3 := by rw [hw3]; exact (((Ext.refl w).al _).al _).al _
  have z0 : w3.heap[w.heap.size]? = some (.cells #[.bool p1, .slice q1 r1 s1, .bool p2, .slice q2 r2 s2] 26 (0, 0)) := by rw [hw3]; exact (heap_alloc_old _ _ (by simp; omega)).trans ((heap_alloc_old _ _ (by simp)).trans (heap_alloc_new _ _))
  have z1 : w3.heap[w.heap.size + 1]? = some (.cells #[.bool false, .slice none 0 0, .bool false, .slice none 0 0] 26 (0, 0)) := by rw [hw3]; exact (heap_alloc_old _ _ (by simp)).trans (heap_at _ _ _ (by simp))
  have z2 : w3.heap[w.heap.size + 1 + 1]? = some (.cells #[.bool p1, .slice q1 r1 s1, .bool p2, .slice q2 r2 s2] 26 (0, 0)) := by rw [hw3]; exact heap_at _ _ _ (by simp)
  replace H := H.ext hE
  replace ha := mkHid (ha.out w3 _ (lr_one z2 H))
  rw [List.length_singleton] at ha
  unfold capE capF
  replace H := mkHid H
  replace hE := mkHid hE
  replace z0 := mkHid z0
  replace z1 := mkHid z1
  clear h z2
  by_cases hl : nf x ≤ 2048
  · rw [if_pos hl, if_pos hl]
    rw [if_neg (show ¬ 2048 < nf x by omega)] at ha
    go_enter Tryz.func111, Tryz.ntmps111
    go_wp2_with fail
    rw [← hw3]
    clear hw3
    refine ha.out.mono ?_
    rintro e w4 ⟨rfl, hE4⟩
    have b0 := row4_cells (hE4.blk z0.out)
    replace z1 := mkHid (hE4.blk z1.out)
    have hz4 : w.heap.size + 2 ≤ w4.heap.size := (Array.getElem?_eq_some_iff.1 z1.out).1
    replace H := mkHid (H.out.ext hE4)
    replace hE := mkHid (hE.out.trans hE4)
    clear hE4 ha
    go_wp2_with fail
    refine (hc.out w4 H.out).mono ?_
    rintro e w5 ⟨v, rfl, hE5, hv⟩
    obtain ⟨x1, x2, x3, x4, y1, y2, y3, y4, rfl⟩ := hv.r.shape
    replace z1 := hE5.blk z1.out
    have hsz4 : w.heap.size + 2 ≤ w4.heap.size := hz4
    have FR := (hv.row (g := w.heap.size + 1) (by omega) #[.bool x1, .slice x2 x3 x4, .bool y1, .slice y2 y3 y4]).r.any (by omega)
    rw [if_pos hl] at FR
    have FE := (hE.out.trans hE5).row (show w.heap.size ≤ w.heap.size + 1 by omega) #[.bool x1, .slice x2 x3 x4, .bool y1, .slice y2 y3 y4]
    replace FR := mkHid FR
    replace FE := mkHid FE
    clear hv hE5 b0
    go_wp2_with (refine wpList_store_row rfl 26 (.tmp 2) (.tmp 13) rfl (w.heap.size + 1) #[.bool x1, .slice x2 x3 x4, .bool y1, .slice y2 y3 y4] rfl rfl 26 _ z1 (by kernel_rfl) rfl (by kernel_rfl) ?_)
    exact bodyPost_ret (results_row_tmp rfl _ _ (w.heap.size + 1) 26 #[.bool x1, .slice x2 x3 x4, .bool y1, .slice y2 y3 y4] _ _ rfl rfl (setRow_heap _ _ _ _ _ _ z1) Tryz.underlying26 rfl (by kernel_rfl)) rfl ⟨_, rfl, FE.out, FR.out⟩
  · rw [if_neg hl, if_neg hl]
    rw [if_pos (show 2048 < nf x by omega)] at ha
    go_enter Tryz.func111, Tryz.ntmps111
    go_wp2_with fail
    rw [← hw3]
    clear hw3
    refine ha.out.mono ?_
    rintro e w4 ⟨rfl, hE4⟩
    replace z1 := hE4.blk z1.out
    have FR := any_zero (w4.setRow (w.heap.size + 1) #[.bool false, .slice none 0 0, .bool false, .slice none 0 0])
    have FE := (hE.out.trans hE4).row (show w.heap.size ≤ w.heap.size + 1 by omega) #[.bool false, .slice none 0 0, .bool false, .slice none 0 0]
    replace FR := mkHid FR
    replace FE := mkHid FE
    clear hE4 ha
    go_wp2_with (refine wpList_store_row rfl 26 (.tmp 2) (.tmp 10) rfl (w.heap.size + 1) #[.bool false, .slice none 0 0, .bool false, .slice none 0 0] rfl rfl 26 _ z1 (by kernel_rfl) rfl (by kernel_rfl) ?_)
    exact bodyPost_ret (results_row_tmp rfl _ _ (w.heap.size + 1) 26 #[.bool false, .slice none 0 0, .bool false, .slice none 0 0] _ _ rfl rfl (setRow_heap _ _ _ _ _ _ z1) Tryz.underlying26 rfl (by kernel_rfl)) rfl ⟨_, rfl, FE.out, FR.out⟩
end Go.Proofs.YtpmfohhpaoagfaaGreat
namespace Go.Proofs.YtpmfohhpaoagfaaGreat
open Go Go.RowKit Go.Proofs
/-- No number among the cells. -/
def flatV : Value → Bool
  | .int _ _ => false
  | _ => true
theorem Row.flat {w : World} {a : Option Addr} {l : List Nat} {g T : Nat} {fr : Nat × Nat} {old : Array Value} (h : Row w a (limV l)) (hg : w.heap[g]? = some (.cells old T fr)) (ho : old.all flatV = true) (cs : Array Value) : Row (w.setRow g cs) a (limV l) := by
  obtain ⟨b, off, h1, h2⟩ := h
  refine ⟨b, off, h1, fun j hj => ?_⟩
  have hc := h2 j hj
  have hne : b ≠ g := by
    rintro rfl
    rw [limV_getD _ _ (by rw [limV_length] at hj; exact hj)] at hc
    have hc2 : old[off + j]? = some (.int .u32 ((l.getD j 0 : Nat) : Int)) := by
      simp only [World.cell?, hg] at hc
      simpa using hc
    obtain ⟨hlt, he⟩ := Array.getElem?_eq_some_iff.1 hc2
    have := Array.all_eq_true.1 ho _ hlt
    rw [he] at this
    cases this
  have : ((w.setRow g cs).heap[b]?) = w.heap[b]? := setRow_other _ _ _ _ hne
  simp only [World.cell?, this] at hc ⊢
  exact hc
theorem AnyF.flat {w : World} {v : Value} {o : Option Rat} {g T : Nat} {fr : Nat × Nat} {old : Array Value} (h : AnyF w v o) (hg : w.heap[g]? = some (.cells old T fr)) (ho : old.all flatV = true) (cs : Array Value) : AnyF (w.setRow g cs) v o := by
  obtain ⟨b1, l1, b2, l2, ⟨a1, c1, a2, c2, h1, h2, h3, ⟨x1, y1, e1, f1, g1, r1⟩, ⟨x2, y2, e2, f2, g2, r2⟩⟩, h6⟩ := h
  exact ⟨b1, l1, b2, l2, ⟨a1, c1, a2, c2, h1, h2, h3, ⟨x1, y1, e1, f1, g1, r1.flat hg ho cs⟩, ⟨x2, y2, e2, f2, g2, r2.flat hg ho cs⟩⟩, h6⟩
theorem IntR.flat {w : World} {v : Value} {x : Int} {g T : Nat} {fr : Nat × Nat} {old : Array Value} (h : IntR w v x) (hg : w.heap[g]? = some (.cells old T fr)) (ho : old.all flatV = true) (cs : Array Value) : IntR (w.setRow g cs) v x := by
  obtain ⟨s, h1, a, c, h2, h3, r⟩ := h
  exact ⟨s, h1, a, c, h2, h3, r.flat hg ho cs⟩
theorem FracR.flat {w : World} {v : Value} {q : Rat} {g T : Nat} {fr : Nat × Nat} {old : Array Value} (h : FracR w v q) (hg : w.heap[g]? = some (.cells old T fr)) (ho : old.all flatV = true) (cs : Array Value) : FracR (w.setRow g cs) v q := by
  obtain ⟨b1, a1, n1, c1, b2, a2, n2, c2, h1, h2, h3⟩ := h
  exact ⟨b1, a1, n1, c1, b2, a2, n2, c2, h1, h2.flat hg ho cs, h3.flat hg ho cs⟩
theorem lf_two {w : World} {g : Nat} {b1 b2 b3 b4 : Bool} {a1 a2 a3 a4 : Option Addr} {n1 c1 n2 c2 n3 c3 n4 c4 : Nat} {o1 o2 : Option Rat} {T : Nat}
    (hg : w.heap[g]? = some (.cells #[.bool b1, .slice a1 n1 c1, .bool b2, .slice a2 n2 c2, .bool b3, .slice a3 n3 c3, .bool b4, .slice a4 n4 c4] T (0, 0)))
    (h : AnyF w (.agg #[.bool b1, .slice a1 n1 c1, .bool b2, .slice a2 n2 c2]) o1) (h' : AnyF w (.agg #[.bool b3, .slice a3 n3 c3, .bool b4, .slice a4 n4 c4]) o2) : LF w g [o1, o2] := by
  intro k hk
  have hk2 : k = 0 ∨ k = 1 := by simp at hk; omega
  rcases hk2 with rfl | rfl
  · exact ⟨_, _, _, _, _, _, _, _, by simp [World.cell?, hg], by simp [World.cell?, hg], by simp [World.cell?, hg], by simp [World.cell?, hg], h⟩
  · exact ⟨_, _, _, _, _, _, _, _, by simp [World.cell?, hg], by simp [World.cell?, hg], by simp [World.cell?, hg], by simp [World.cell?, hg], h'⟩
/-- What Mul, Sub answer. -/
def opO (f : Rat → Rat → Rat) (o1 o2 : Option Rat) : Option Rat := match o1, o2 with | some x, some y => capF (f x y) | _, _ => none
def opE (f : Rat → Rat → Rat) (o1 o2 : Option Rat) : Int := match o1, o2 with | some x, some y => capE (f x y) | _, _ => 1
end Go.Proofs.YtpmfohhpaoagfaaGreat
namespace Go.Proofs.YtpmfohhpaoagfaaGreat
open Go Go.RowKit Go.Proofs
/-- A pair of a fraction and a number of error. -/
def PairF (o : Option Rat) (c : Int) (W : World) (v : Value) : Prop := ∃ x, v = .tuple #[x, .int .i64 c] ∧ AnyF W x o
theorem st_any {ss : List FSpec} (o : Option Rat) (h : StableAll Ext ss) : StableAll Ext (.pred (fun W v => AnyF W v o) :: ss) := ⟨fun _ _ _ e h => AnyF.ext h e, h⟩
theorem st_pair {ss : List FSpec} (o : Option Rat) (c : Int) (h : StableAll Ext ss) : StableAll Ext (.pred (PairF o c) :: ss) := ⟨fun _ _ _ e h => by obtain ⟨x, h1, h2⟩ := h; exact ⟨x, h1, h2.ext e⟩, h⟩
theorem nf_div (X Y : Int) (hY : Y ≠ 0) : nf (Rat.divInt X Y) ≤ max (nl X) (nl Y) := by
  unfold nf
  rw [low_num, low_den X Y hY, if_neg hY]
  have h1 := tdiv_nl X (Int.gcd X Y)
  have h2 := tdiv_nl Y (Int.gcd X Y)
  split <;> (try rw [nl_neg, nl_neg]) <;> omega
theorem nf_mul_le (x y : Rat) : nf (x * y) ≤ nf x + nf y := by
  rw [← div_mul]
  refine Nat.le_trans (nf_div _ _ (den_ne x y)) ?_
  have h1 := nl_mul x.num y.num
  have h2 := nl_mul x.den y.den
  unfold nf
  omega
theorem nf_sub_le (x y : Rat) : nf (x - y) ≤ nf x + nf y + 1 := by
  rw [← div_sub]
  refine Nat.le_trans (nf_div _ _ (den_ne x y)) ?_
  have h1 := nl_mul x.num y.den
  have h2 := nl_mul y.num x.den
  have h3 := nl_mul x.den y.den
  have h4 := nl_sub (x.num * y.den) (y.num * x.den)
  unfold nf
  omega
theorem nf_add_le (x y : Rat) : nf (x + y) ≤ nf x + nf y + 1 := by
  rw [← div_add]
  refine Nat.le_trans (nf_div _ _ (den_ne x y)) ?_
  have h1 := nl_mul x.num y.den
  have h2 := nl_mul y.num x.den
  have h3 := nl_mul x.den y.den
  have h4 := nl_add (x.num * y.den) (y.num * x.den)
  unfold nf
  omega
theorem nf_mul (x y : Rat) (hx : nf x ≤ 2048) (hy : nf y ≤ 2048) : nf (x * y) ≤ 268435456 := by
  have := nf_mul_le x y
  omega
theorem nf_sub (x y : Rat) (hx : nf x ≤ 2048) (hy : nf y ≤ 2048) : nf (x - y) ≤ 268435456 := by
  have := nf_sub_le x y
  omega
end Go.Proofs.YtpmfohhpaoagfaaGreat
namespace Go.Proofs.YtpmfohhpaoagfaaGreat
open Go Go.RowKit Go.Proofs
set_option maxHeartbeats 3200000 in
theorem make_f (v1 v2 : Value) (X Y : Int) (w : World) (hX : nl X ≤ 2048) (hY : nl Y ≤ 2048) (hY0 : Y ≠ 0) (h1 : IntR w v1 X) (h2 : IntR w v2 Y) :
    Calls Tryz.prog 92 #[v1, v2] w fun e w' => ∃ v, e = .returned (.tuple #[v, .int .i64 0]) ∧ Ext w w' ∧ AnyF w' v (some (Rat.divInt X Y)) := by
  have H1 := h1
  have H2 := h2
  have k1 := fun w (h : IntR w v1 X) => check_c v1 _ _ w (by unfold nl at hX; omega) (int_any h)
  have k2 := fun w (h : IntR w v2 Y) => check_c v2 _ _ w (by unfold nl at hY; omega) (int_any h)
  rw [if_pos (good_int hX)] at k1
  rw [if_pos (good_int hY)] at k2
  have ks := fun w (h : IntR w v2 Y) => sign_c v2 Y w h (by omega)
  have lo := fun w h1 h2 => lowest_r v1 v2 X Y w (by omega) (by omega) hY0 h1 h2
  have hq : nf (Rat.divInt X Y) ≤ 2048 := Nat.le_trans (nf_div X Y hY0) (by omega)
  have han := fun v w h => answered_f v (Rat.divInt X Y) w (by omega) h
  simp only [capE, capF, if_pos hq] at han
  have hs : (Y.sign == 0) = false := by
    rw [beq_eq_false_iff_ne]
    intro h
    exact hY0 (Int.sign_eq_zero_iff_zero.1 h)
  generalize Y.sign = S at *
  obtain ⟨p1, q1, r1, s1, rfl⟩ := h1.shape
  obtain ⟨p2, q2, r2, s2, rfl⟩ := h2.shape
  replace k1 := mkHid k1
  replace k2 := mkHid k2
  replace ks := mkHid ks
  replace lo := mkHid lo
  replace han := mkHid han
  replace hq := mkHid hq
  obtain ⟨wb, hwb⟩ : ∃ wb, wb = ((w.alloc (.cells #[.bool p1, .slice q1 r1 s1] 24)).alloc (.cells #[.bool p2, .slice q2 r2 s2] 24)).alloc (.cells #[.bool false, .slice none 0 0, .bool false, .slice none 0 0] 26) := ⟨_, rfl⟩
  have hE : Ext w wb := by rw [hwb]; exact (((Ext.refl w).al _).al _).al _
  have hB0 : wb.heap[w.heap.size]? = some (.cells #[.bool p1, .slice q1 r1 s1] 24) := by rw [hwb]; exact (heap_alloc_old _ _ (by simp <;> omega)).trans ((heap_alloc_old _ _ (by simp <;> omega)).trans (heap_alloc_new _ _))
  have hB1 : wb.heap[w.heap.size + 1]? = some (.cells #[.bool p2, .slice q2 r2 s2] 24) := by rw [hwb]; exact (heap_alloc_old _ _ (by simp <;> omega)).trans (heap_at _ _ _ (by simp))
  have hB2 : wb.heap[w.heap.size + 1 + 1]? = some (.cells #[.bool false, .slice none 0 0, .bool false, .slice none 0 0] 26) := by rw [hwb]; exact heap_at _ _ _ (by simp)
  replace H1 := mkHid (H1.ext hE)
  replace H2 := mkHid (H2.ext hE)
  replace hE := mkHid hE
  replace hB0 := mkHid hB0
  replace hB1 := mkHid hB1
  replace hB2 := mkHid hB2
  replace hwb := mkHid hwb
  clear h1 h2 hY0 hX hY
  go_enter Tryz.func92, Tryz.ntmps92
  go_wp2_with fail
  rw [← hwb.out]
  clear hwb
  refine (k1.out _ H1.out).mono ?_
  rintro e w1 ⟨rfl, hE1⟩
  replace H1 := mkHid (H1.out.ext hE1)
  replace H2 := mkHid (H2.out.ext hE1)
  replace hE := mkHid (hE.out.trans hE1)
  replace hB0 := mkHid (hE1.blk hB0.out)
  replace hB1 := mkHid (hE1.blk hB1.out)
  replace hB2 := mkHid (hE1.blk hB2.out)
  clear hE1
  have c1 := row2_cells hB1.out
  go_wp2_with fail
  refine (k2.out _ H2.out).mono ?_
  rintro e w2 ⟨rfl, hE2⟩
  clear c1
  replace H1 := mkHid (H1.out.ext hE2)
  replace H2 := mkHid (H2.out.ext hE2)
  replace hE := mkHid (hE.out.trans hE2)
  replace hB0 := mkHid (hE2.blk hB0.out)
  replace hB1 := mkHid (hE2.blk hB1.out)
  replace hB2 := mkHid (hE2.blk hB2.out)
  clear hE2
  have c1 := row2_cells hB1.out
  go_wp2_with fail
  refine (ks.out _ H2.out).mono ?_
  rintro e w3 ⟨rfl, hE3⟩
  clear c1
  replace H1 := mkHid (H1.out.ext hE3)
  replace H2 := mkHid (H2.out.ext hE3)
  replace hE := mkHid (hE.out.trans hE3)
  replace hB0 := mkHid (hE3.blk hB0.out)
  replace hB1 := mkHid (hE3.blk hB1.out)
  replace hB2 := mkHid (hE3.blk hB2.out)
  clear hE3
  have c1 := row2_cells hB1.out
  have c0 := row2_cells hB0.out
  go_wp2_with fail
  refine (lo.out _ H1.out H2.out).mono ?_
  rintro e w4 ⟨v, rfl, hE4, hv⟩
  clear c1 c0
  replace H1 := mkHid (H1.out.ext hE4)
  replace H2 := mkHid (H2.out.ext hE4)
  replace hE := mkHid (hE.out.trans hE4)
  replace hB0 := mkHid (hE4.blk hB0.out)
  replace hB1 := mkHid (hE4.blk hB1.out)
  replace hB2 := mkHid (hE4.blk hB2.out)
  clear hE4
  go_wp2_with fail
  refine (han.out _ _ hv).mono ?_
  rintro e w5 ⟨v, rfl, hE5, hv⟩
  replace H1 := mkHid (H1.out.ext hE5)
  replace H2 := mkHid (H2.out.ext hE5)
  replace hE := mkHid (hE.out.trans hE5)
  replace hB0 := mkHid (hE5.blk hB0.out)
  replace hB1 := mkHid (hE5.blk hB1.out)
  replace hB2 := mkHid (hE5.blk hB2.out)
  clear hE5
  obtain ⟨x1, x2, x3, x4, y1, y2, y3, y4, rfl⟩ := hv.shape
  have FR := hv.flat hB2.out (by simp [flatV]) #[.bool x1, .slice x2 x3 x4, .bool y1, .slice y2 y3 y4]
  have FE := hE.out.row (show w.heap.size ≤ w.heap.size + 1 + 1 by omega) #[.bool x1, .slice x2 x3 x4, .bool y1, .slice y2 y3 y4]
  replace FR := mkHid FR
  replace FE := mkHid FE
  clear hv
  go_wp2_with (refine wpList_store_row rfl 26 (.tmp 4) (.tmp 23) rfl (w.heap.size + 1 + 1) #[.bool x1, .slice x2 x3 x4, .bool y1, .slice y2 y3 y4] rfl rfl 26 _ hB2.out (by kernel_rfl) rfl (by kernel_rfl) ?_)
  exact bodyPost_ret (results_row_tmp rfl _ _ (w.heap.size + 1 + 1) 26 #[.bool x1, .slice x2 x3 x4, .bool y1, .slice y2 y3 y4] _ _ rfl rfl (setRow_heap _ _ _ _ _ _ hB2.out) Tryz.underlying26 rfl (by kernel_rfl)) rfl ⟨_, rfl, FE.out, FR.out⟩
theorem nl_i64' {n : Int} (h0 : -9223372036854775808 ≤ n) (h1 : n < 9223372036854775808) : nl n ≤ 2048 := by
  unfold nl
  exact Nat.le_trans (lim_length_le (k := 2) (by omega)) (by omega)
set_option maxHeartbeats 1600000 in
theorem of_f (n d : Int) (w : World) (h0 : -9223372036854775808 ≤ n) (h1 : n < 9223372036854775808) (h2 : -9223372036854775808 ≤ d) (h3 : d < 9223372036854775808) (hd : d ≠ 0) :
    Calls Tryz.prog 68 #[.int .i64 n, .int .i64 d] w fun e w' => ∃ v, e = .returned (.tuple #[v, .int .i64 0]) ∧ Ext w w' ∧ AnyF w' v (some (Rat.divInt n d)) := by
  have o1 := mkHid (fun w => of_c n w h0 h1)
  have o2 := mkHid (fun w => of_c d w h2 h3)
  have mk := mkHid (fun v v' w' k1 k2 => make_f v v' n d w' (nl_i64' h0 h1) (nl_i64' h2 h3) hd k1 k2)
  clear h0 h1 h2 h3 hd
  go_enter Tryz.func68, Tryz.ntmps68
  go_wp2_with fail
  refine (o1.out _).mono ?_
  rintro e w1 ⟨x, rfl, hE1, hx⟩
  have hB := mkHid (hE1.blk (heap_alloc_new _ _))
  replace hE1 := mkHid (((Ext.refl w).al _).trans hE1)
  replace hx := mkHid hx.r
  go_wp2_with fail
  refine (o2.out _).mono ?_
  rintro e w2 ⟨y, rfl, hE2, hy⟩
  replace hx := mkHid (hx.out.ext hE2)
  replace hy := mkHid hy.r
  replace hB := mkHid (hE2.blk hB.out)
  replace hE1 := mkHid (hE1.out.trans hE2)
  clear hE2
  go_wp2_with fail
  refine (mk.out _ _ _ hx.out hy.out).mono ?_
  rintro e w3 ⟨v, rfl, hE3, hv⟩
  obtain ⟨x1, x2, x3, x4, y1, y2, y3, y4, rfl⟩ := hv.shape
  replace hB := hE3.blk hB.out
  have FR := hv.flat hB (by simp [flatV]) #[.bool x1, .slice x2 x3 x4, .bool y1, .slice y2 y3 y4]
  have FE := (hE1.out.trans hE3).row (Nat.le_refl _) #[.bool x1, .slice x2 x3 x4, .bool y1, .slice y2 y3 y4]
  replace FR := mkHid FR
  replace FE := mkHid FE
  clear hv hE3 hE1
  go_wp2_with (refine wpList_store_row rfl 26 (.tmp 4) (.tmp 11) rfl w.heap.size #[.bool x1, .slice x2 x3 x4, .bool y1, .slice y2 y3 y4] rfl rfl 26 _ hB (by kernel_rfl) rfl (by kernel_rfl) ?_)
  exact bodyPost_ret (results_row_tmp rfl _ _ w.heap.size 26 #[.bool x1, .slice x2 x3 x4, .bool y1, .slice y2 y3 y4] _ _ rfl rfl (setRow_heap _ _ _ _ _ _ hB) Tryz.underlying26 rfl (by kernel_rfl)) rfl ⟨_, rfl, FE.out, FR.out⟩
end Go.Proofs.YtpmfohhpaoagfaaGreat
namespace Go.Proofs.YtpmfohhpaoagfaaGreat
open Go Go.RowKit Go.Proofs
set_option maxHeartbeats 1600000 in
theorem whole_f (n d : Int) (w : World) (h0 : -9223372036854775808 ≤ n) (h1 : n < 9223372036854775808) (h2 : -9223372036854775808 ≤ d) (h3 : d < 9223372036854775808) (hd : d ≠ 0) :
    Calls Tryz.prog 34 #[.int .i64 n, .int .i64 d] w fun e w' => ∃ v, e = .returned v ∧ Ext w w' ∧ AnyF w' v (some (Rat.divInt n d)) := by
  have o1 := mkHid (fun w => of_f n d w h0 h1 h2 h3 hd)
  clear h0 h1 h2 h3 hd
  go_enter Tryz.func34, Tryz.ntmps34
  go_wp2_with fail
  refine (o1.out _).mono ?_
  rintro e w1 ⟨v, rfl, hE1, hv⟩
  obtain ⟨x1, x2, x3, x4, y1, y2, y3, y4, rfl⟩ := hv.shape
  have hB := (hE1.blk (heap_alloc_new _ _))
  have hB2 := (heap_alloc_old w1 (.cells #[.bool x1, .slice x2 x3 x4, .bool y1, .slice y2 y3 y4] 26) (r := w.heap.size) (Array.getElem?_eq_some_iff.1 hB).1).trans hB
  have hv2 := hv.ext ((Ext.refl w1).al (.cells #[.bool x1, .slice x2 x3 x4, .bool y1, .slice y2 y3 y4] 26))
  have FR := hv2.flat hB2 (by simp [flatV]) #[.bool x1, .slice x2 x3 x4, .bool y1, .slice y2 y3 y4]
  have FE := ((((Ext.refl w).al _).trans hE1).al (.cells #[.bool x1, .slice x2 x3 x4, .bool y1, .slice y2 y3 y4] 26)).row (Nat.le_refl _) #[.bool x1, .slice x2 x3 x4, .bool y1, .slice y2 y3 y4]
  replace FR := mkHid FR
  replace FE := mkHid FE
  replace hB2 := mkHid hB2
  clear hv hE1 hv2 hB
  go_wp2_with (refine wpList_store_row rfl 26 (.tmp 4) (.tmp 13) rfl w.heap.size #[.bool x1, .slice x2 x3 x4, .bool y1, .slice y2 y3 y4] rfl rfl 26 _ hB2.out (by kernel_rfl) rfl (by kernel_rfl) ?_)
  exact bodyPost_ret (results_cell_row rfl _ _ w.heap.size 26 #[.bool x1, .slice x2 x3 x4, .bool y1, .slice y2 y3 y4] (0, 0) _ rfl (setRow_heap _ _ _ _ _ _ hB2.out) Tryz.underlying26 rfl (by kernel_rfl)) rfl ⟨_, rfl, FE.out, FR.out⟩
/-- The cells of a fraction. -/
def fcells (b1 : Bool) (a1 : Option Addr) (n1 c1 : Nat) (b2 : Bool) (a2 : Option Addr) (n2 c2 : Nat) : List Value := [.bool b1, .slice a1 n1 c1, .bool b2, .slice a2 n2 c2]
/-- A value of api.Matrix. -/
def AnyM (w : World) (v : Value) (oa ob oc od : Option Rat) : Prop :=
  ∃ b1 a1 n1 c1 b2 a2 n2 c2 b3 a3 n3 c3 b4 a4 n4 c4 b5 a5 n5 c5 b6 a6 n6 c6 b7 a7 n7 c7 b8 a8 n8 c8,
    v = .agg #[.bool b1, .slice a1 n1 c1, .bool b2, .slice a2 n2 c2, .bool b3, .slice a3 n3 c3, .bool b4, .slice a4 n4 c4, .bool b5, .slice a5 n5 c5, .bool b6, .slice a6 n6 c6, .bool b7, .slice a7 n7 c7, .bool b8, .slice a8 n8 c8] ∧
    AnyF w (.agg #[.bool b1, .slice a1 n1 c1, .bool b2, .slice a2 n2 c2]) oa ∧ AnyF w (.agg #[.bool b3, .slice a3 n3 c3, .bool b4, .slice a4 n4 c4]) ob ∧
    AnyF w (.agg #[.bool b5, .slice a5 n5 c5, .bool b6, .slice a6 n6 c6]) oc ∧ AnyF w (.agg #[.bool b7, .slice a7 n7 c7, .bool b8, .slice a8 n8 c8]) od
theorem AnyM.ext {w w' : World} {v : Value} {oa ob oc od : Option Rat} (h : AnyM w v oa ob oc od) (e : Ext w w') : AnyM w' v oa ob oc od := by
  obtain ⟨b1, a1, n1, c1, b2, a2, n2, c2, b3, a3, n3, c3, b4, a4, n4, c4, b5, a5, n5, c5, b6, a6, n6, c6, b7, a7, n7, c7, b8, a8, n8, c8, h0, h1, h2, h3, h4⟩ := h
  exact ⟨b1, a1, n1, c1, b2, a2, n2, c2, b3, a3, n3, c3, b4, a4, n4, c4, b5, a5, n5, c5, b6, a6, n6, c6, b7, a7, n7, c7, b8, a8, n8, c8, h0, h1.ext e, h2.ext e, h3.ext e, h4.ext e⟩
set_option maxHeartbeats 1600000 in
theorem matrix_f (a b c d : Int) (w : World) (h0 : -9223372036854775808 ≤ a) (h1 : a < 9223372036854775808) (h2 : -9223372036854775808 ≤ b) (h3 : b < 9223372036854775808) (h4 : -9223372036854775808 ≤ c) (h5 : c < 9223372036854775808) (h6 : -9223372036854775808 ≤ d) (h7 : d < 9223372036854775808) :
    Calls Tryz.prog 36 #[.int .i64 a, .int .i64 b, .int .i64 c, .int .i64 d] w fun e w' => ∃ v, e = .returned v ∧ Ext w w' ∧ AnyM w' v (some (Rat.divInt a 1)) (some (Rat.divInt b 1)) (some (Rat.divInt c 1)) (some (Rat.divInt d 1)) := by
  have k1 := mkHid (fun w => whole_f a 1 w h0 h1 (by omega) (by omega) (by omega))
  have k2 := mkHid (fun w => whole_f b 1 w h2 h3 (by omega) (by omega) (by omega))
  have k3 := mkHid (fun w => whole_f c 1 w h4 h5 (by omega) (by omega) (by omega))
  have k4 := mkHid (fun w => whole_f d 1 w h6 h7 (by omega) (by omega) (by omega))
  clear h0 h1 h2 h3 h4 h5 h6 h7
  go_enter Tryz.func36, Tryz.ntmps36
  go_wp2_with fail
  refine (k1.out _).mono ?_
  rintro e w1 ⟨v, rfl, hE1, hv1⟩
  have hB := mkHid (hE1.blk (heap_alloc_new _ _))
  have hE := mkHid (((Ext.refl w).al _).trans hE1)
  replace hv1 := mkHid hv1
  clear hE1 k1
  go_wp2_with fail
  refine (k2.out _).mono ?_
  rintro e w2 ⟨v2, rfl, hE2, hv2⟩
  replace hB := mkHid (hE2.blk hB.out)
  replace hE := mkHid (hE.out.trans hE2)
  replace hv1 := mkHid (hv1.out.ext hE2)
  replace hv2 := mkHid hv2
  clear hE2 k2
  go_wp2_with fail
  refine (k3.out _).mono ?_
  rintro e w3 ⟨v3, rfl, hE3, hv3⟩
  replace hB := mkHid (hE3.blk hB.out)
  replace hE := mkHid (hE.out.trans hE3)
  replace hv1 := mkHid (hv1.out.ext hE3)
  replace hv2 := mkHid (hv2.out.ext hE3)
  replace hv3 := mkHid hv3
  clear hE3 k3
  go_wp2_with fail
  refine (k4.out _).mono ?_
  rintro e w4 ⟨v4, rfl, hE4, hv4⟩
  replace hB := hE4.blk hB.out
  replace hE := hE.out.trans hE4
  replace hv1 := hv1.out.ext hE4
  replace hv2 := hv2.out.ext hE4
  replace hv3 := hv3.out.ext hE4
  clear hE4 k4
  obtain ⟨b1, a1, n1, c1, b2, a2, n2, c2, rfl⟩ := hv1.shape
  obtain ⟨b3, a3, n3, c3, b4, a4, n4, c4, rfl⟩ := hv2.shape
  obtain ⟨b5, a5, n5, c5, b6, a6, n6, c6, rfl⟩ := hv3.shape
  obtain ⟨b7, a7, n7, c7, b8, a8, n8, c8, rfl⟩ := hv4.shape
  have FE := hE.row (Nat.le_refl _) #[.bool b1, .slice a1 n1 c1, .bool b2, .slice a2 n2 c2, .bool b3, .slice a3 n3 c3, .bool b4, .slice a4 n4 c4, .bool b5, .slice a5 n5 c5, .bool b6, .slice a6 n6 c6, .bool b7, .slice a7 n7 c7, .bool b8, .slice a8 n8 c8]
  have FR : AnyM (w4.setRow w.heap.size #[.bool b1, .slice a1 n1 c1, .bool b2, .slice a2 n2 c2, .bool b3, .slice a3 n3 c3, .bool b4, .slice a4 n4 c4, .bool b5, .slice a5 n5 c5, .bool b6, .slice a6 n6 c6, .bool b7, .slice a7 n7 c7, .bool b8, .slice a8 n8 c8])
      (.agg #[.bool b1, .slice a1 n1 c1, .bool b2, .slice a2 n2 c2, .bool b3, .slice a3 n3 c3, .bool b4, .slice a4 n4 c4, .bool b5, .slice a5 n5 c5, .bool b6, .slice a6 n6 c6, .bool b7, .slice a7 n7 c7, .bool b8, .slice a8 n8 c8]) _ _ _ _ :=
    ⟨_, _, _, _, _, _, _, _, _, _, _, _, _, _, _, _, _, _, _, _, _, _, _, _, _, _, _, _, _, _, _, _, rfl, hv1.flat hB (by simp [flatV]) _, hv2.flat hB (by simp [flatV]) _, hv3.flat hB (by simp [flatV]) _, hv4.flat hB (by simp [flatV]) _⟩
  replace FR := mkHid FR
  replace FE := mkHid FE
  clear hv1 hv2 hv3 hv4 hE
  go_wp2_with (refine wpList_store_row rfl 28 (.tmp 8) (.tmp 17) rfl w.heap.size #[.bool b1, .slice a1 n1 c1, .bool b2, .slice a2 n2 c2, .bool b3, .slice a3 n3 c3, .bool b4, .slice a4 n4 c4, .bool b5, .slice a5 n5 c5, .bool b6, .slice a6 n6 c6, .bool b7, .slice a7 n7 c7, .bool b8, .slice a8 n8 c8] rfl rfl 28 _ hB (by kernel_rfl) rfl (by kernel_rfl) ?_)
  exact bodyPost_ret (results_cell_row rfl _ _ w.heap.size 28 #[.bool b1, .slice a1 n1 c1, .bool b2, .slice a2 n2 c2, .bool b3, .slice a3 n3 c3, .bool b4, .slice a4 n4 c4, .bool b5, .slice a5 n5 c5, .bool b6, .slice a6 n6 c6, .bool b7, .slice a7 n7 c7, .bool b8, .slice a8 n8 c8] (0, 0) _ rfl (setRow_heap _ _ _ _ _ _ hB) Tryz.underlying28 rfl (by kernel_rfl)) rfl ⟨_, rfl, FE.out, FR.out⟩
end Go.Proofs.YtpmfohhpaoagfaaGreat
namespace Go.Proofs.YtpmfohhpaoagfaaGreat
open Go Go.RowKit Go.Proofs
def countE (n : Int) : Int := if n < 0 then 1 else if 4096 < n then 4 else 0
theorem counted_c (n : Int) (w : World) : Calls Tryz.prog 62 #[.int .i64 n] w fun e w' => e = .returned (.int .i64 (countE n)) ∧ w' = w := by
  unfold countE
  by_cases h0 : n < 0
  · rw [if_pos h0]
    go_enter Tryz.func62, Tryz.ntmps62
    go_wp2_with fail
    go_ret
    exact ⟨rfl, rfl⟩
  · rw [if_neg h0]
    by_cases h1 : 4096 < n
    · rw [if_pos h1]
      go_enter Tryz.func62, Tryz.ntmps62
      go_wp2_with fail
      go_ret
      exact ⟨rfl, rfl⟩
    · rw [if_neg h1]
      go_enter Tryz.func62, Tryz.ntmps62
      go_wp2_with fail
      go_ret
      exact ⟨rfl, rfl⟩
/-- A row of three fractions in a block of its own. -/
def RowAt (w : World) (g : Nat) (x y z : Rat) : Prop :=
  ∃ b1 a1 n1 c1 b2 a2 n2 c2 b3 a3 n3 c3 b4 a4 n4 c4 b5 a5 n5 c5 b6 a6 n6 c6,
    w.heap[g]? = some (.cells #[.bool b1, .slice a1 n1 c1, .bool b2, .slice a2 n2 c2, .bool b3, .slice a3 n3 c3, .bool b4, .slice a4 n4 c4, .bool b5, .slice a5 n5 c5, .bool b6, .slice a6 n6 c6] 80 (0, 0)) ∧
    FracR w (.agg #[.bool b1, .slice a1 n1 c1, .bool b2, .slice a2 n2 c2]) x ∧ FracR w (.agg #[.bool b3, .slice a3 n3 c3, .bool b4, .slice a4 n4 c4]) y ∧ FracR w (.agg #[.bool b5, .slice a5 n5 c5, .bool b6, .slice a6 n6 c6]) z
theorem RowAt.ext {w w' : World} {g : Nat} {x y z : Rat} (h : RowAt w g x y z) (e : Ext w w') : RowAt w' g x y z := by
  obtain ⟨b1, a1, n1, c1, b2, a2, n2, c2, b3, a3, n3, c3, b4, a4, n4, c4, b5, a5, n5, c5, b6, a6, n6, c6, h0, h1, h2, h3⟩ := h
  exact ⟨b1, a1, n1, c1, b2, a2, n2, c2, b3, a3, n3, c3, b4, a4, n4, c4, b5, a5, n5, c5, b6, a6, n6, c6, e.blk h0, h1.ext e, h2.ext e, h3.ext e⟩
set_option maxHeartbeats 1600000 in
theorem second_c (v : Value) (x : Rat) (w : World) (hx : nf x ≤ 268435456) (h : FracR w v x) :
    Calls Tryz.prog 63 #[v] w fun e w' => ∃ g, e = .returned (.pointer (some ⟨g, 0, none⟩)) ∧ w.heap.size ≤ g ∧ Ext w w' ∧ RowAt w' g 0 1 (x + x) := by
  have H := h
  obtain ⟨p1, q1, r1, s1, p2, q2, r2, s2, rfl⟩ := h.shape
  have k0 := mkHid nought_f
  have k1 := mkHid one_f
  have kp := mkHid (fun w h => plus_f (.agg #[.bool p1, .slice q1 r1 s1, .bool p2, .slice q2 r2 s2]) (.agg #[.bool p1, .slice q1 r1 s1, .bool p2, .slice q2 r2 s2]) x x w hx hx h h)
  go_enter Tryz.func63, Tryz.ntmps63
  go_wp2_with fail
  obtain ⟨wb, hwb⟩ : ∃ wb, wb = w.alloc (.cells #[.bool p1, .slice q1 r1 s1, .bool p2, .slice q2 r2 s2] 26) := ⟨_, rfl⟩
  have hE : Ext w wb := by rw [hwb]; exact (Ext.refl w).al _
  have c10 : ∀ W, Ext wb W → W.cell? ⟨w.heap.size, 0, none⟩ = some (.bool p1) := fun W e => e.cell (by rw [hwb]; go_simp)
  have c11 : ∀ W, Ext wb W → W.cell? ⟨w.heap.size, 1, none⟩ = some (.slice q1 r1 s1) := fun W e => e.cell (by rw [hwb]; go_simp)
  have c12 : ∀ W, Ext wb W → W.cell? ⟨w.heap.size, 2, none⟩ = some (.bool p2) := fun W e => e.cell (by rw [hwb]; go_simp)
  have c13 : ∀ W, Ext wb W → W.cell? ⟨w.heap.size, 3, none⟩ = some (.slice q2 r2 s2) := fun W e => e.cell (by rw [hwb]; go_simp)
  have hsz : w.heap.size + 1 ≤ wb.heap.size := by rw [hwb]; simp
  replace H := mkHid (H.ext hE)
  rw [← hwb]
  replace hE := mkHid hE
  clear hwb h
  apply region_ext [.pred (fun W v => FracO W (w.heap.size + 1) v 0), .pred (fun W v => FracO W (w.heap.size + 1) v 1), .val _, .val _, .pred (fun W v => FracO W (w.heap.size + 1) v (x + x))] (by kernel_rfl)
    (st_fracO _ _ (st_fracO _ _ (stable_vals _ (stable_vals _ (st_fracO _ _ trivial)))))
  refine ⟨fun W hW _ => ?g0, fun v0 => ⟨fun W hW _ => ?g1, fun v1 => ?_⟩⟩
  case g0 =>
    go_simp
    refine (k0.out W).mono ?_
    rintro e w' ⟨v, rfl, h1, h2⟩
    exact ⟨v, rfl, h1, h2.mono (Nat.le_trans hsz hW.size)⟩
  case g1 =>
    go_simp
    refine (k1.out W).mono ?_
    rintro e w' ⟨v, rfl, h1, h2⟩
    exact ⟨v, rfl, h1, h2.mono (Nat.le_trans hsz hW.size)⟩
  refine ⟨fun W hW _ => by go_simp; exact ⟨Ext.refl _, rfl⟩, ?_⟩
  refine ⟨fun W hW _ => by go_simp; exact ⟨Ext.refl _, rfl⟩, ?_⟩
  refine ⟨fun W hW _ => ?g4, fun v4 => fun W hW hF => ?fin⟩
  case g4 =>
    go_simp
    refine (kp.out W (H.out.ext hW)).mono ?_
    rintro e w' ⟨v, rfl, h1, h2⟩
    exact ⟨v, rfl, h1, h2.mono (Nat.le_trans hsz hW.size)⟩
  case fin =>
    have h4 : FracO W (w.heap.size + 1) v4 (x + x) := hF.1 rfl
    have h1 : FracO W (w.heap.size + 1) v1 1 := hF.2.1 rfl
    have h0 : FracO W (w.heap.size + 1) v0 0 := hF.2.2.1 rfl
    obtain ⟨b1, a1, n1, c1, b2, a2, n2, c2, rfl⟩ := h0.r.shape
    obtain ⟨b3, a3, n3, c3, b4, a4, n4, c4, rfl⟩ := h1.r.shape
    obtain ⟨b5, a5, n5, c5, b6, a6, n6, c6, rfl⟩ := h4.r.shape
    have E2 := hE.out.trans hW
    have hEa := (Ext.refl W).al (.cells #[.bool b1, .slice a1 n1 c1, .bool b2, .slice a2 n2 c2, .bool b3, .slice a3 n3 c3, .bool b4, .slice a4 n4 c4, .bool b5, .slice a5 n5 c5, .bool b6, .slice a6 n6 c6] 80)
    have FR : RowAt (W.alloc (.cells #[.bool b1, .slice a1 n1 c1, .bool b2, .slice a2 n2 c2, .bool b3, .slice a3 n3 c3, .bool b4, .slice a4 n4 c4, .bool b5, .slice a5 n5 c5, .bool b6, .slice a6 n6 c6] 80)) W.heap.size 0 1 (x + x) :=
      ⟨_, _, _, _, _, _, _, _, _, _, _, _, _, _, _, _, _, _, _, _, _, _, _, _, heap_alloc_new _ _, h0.r.ext hEa, h1.r.ext hEa, h4.r.ext hEa⟩
    have FE := E2.trans hEa
    have FS := E2.size
    replace FR := mkHid FR
    replace FE := mkHid FE
    replace FS := mkHid FS
    clear hF h0 h1 h4 hEa E2 c10 c11 c12 c13 hW
    go_simp
    go_wp2_with fail
    go_ret
    exact ⟨_, rfl, FS.out, FE.out, FR.out⟩
end Go.Proofs.YtpmfohhpaoagfaaGreat
namespace Go.Proofs.YtpmfohhpaoagfaaGreat.Pre
open Go Go.RowKit Go.Proofs.YtpmfohhpaoagfaaGreat
def okOper (pre : List Nat) (l : List Oper) (n i : Nat) (o : Oper) : Bool :=
  (o.after.toList.all fun e => !Region.binds .any e || decide (e.on < i)) &&
  (if i < n then
    o.dst.isSome && (List.range l.length).all fun j => match l[j]? with
      | some oj => (match oj.dst with
        | some d => (!(o.looksAt l.toArray).contains d || (decide (j < i) && hasEdge o j)) && (j == i || o.dst != some d)
        | none => true)
      | none => true
  else (List.range i).all fun j => pre.contains j || ancB l 16 o j)
def okFree (pre : List Nat) (n size : Nat) (l : List Oper) : Bool :=
  Region.noSelect l.toArray && decide (n ≤ l.length) && (l.all fun o => match o.dst with | some d => decide (d < size) | none => true) &&
    (List.range l.length).all fun i => match l[i]? with | some o => okOper pre l n i o | none => true
section
variable {pre : List Nat} {P : Program} {l0 : List Oper} {R : World → World → Prop} {w0 : World} {Q : Exit → Act → World → Prop}
theorem tail_forced {n : Nat} (htail : ∀ i o, n ≤ i → l0[i]? = some o → ∀ j, j < i → j ∈ pre ∨ ancB l0 16 o j = true) :
    ∀ (k m : Nat) (listed : Array Bool) (a : Act) (W : World) (fuel : Nat), n ≤ m → m + k = l0.length → k ≤ fuel → listed.size = l0.length → (∀ j ∈ pre, listed.getD j false = true) →
      (∀ i o, listed.getD i false = true → l0[i]? = some o → ∀ e ∈ o.after, Region.binds .any e = true → listed.getD e.on false = true) →
      (∀ i, i < l0.length → (listed.getD i false = true ↔ i < m)) →
      (∀ i o, l0[i]? = some o → ∀ e ∈ o.after, Region.binds .any e = true → e.on < i) →
      wpList P l0.toArray Q (l0.drop m) a W → wpAny P .any l0.toArray Q fuel listed a W := by
  intro k
  induction k with
  | zero =>
    intro m listed a W fuel _ hmk _ hsz _ _ hlst _ h
    have hr : Region.ready .any l0.toArray listed = [] := by
      cases hr : Region.ready .any l0.toArray listed with
      | nil => rfl
      | cons i r =>
        have := (mem_ready (md := .any) (ops := l0.toArray) (listed := listed) (j := i)).1 (by rw [hr]; simp)
        have hlt := lt_of_unlisted this.1
        have h2 := (hlst i (by omega)).2 (by omega)
        have h3 := this.1
        simp [hlt] at h2 h3
        rw [h2] at h3
        cases h3
    rw [List.drop_eq_nil_of_le (show l0.length ≤ m by omega)] at h
    exact wpAny_done hr h fuel
  | succ k ih =>
    intro m listed a W fuel hnm hmk hfuel hsz hpre hcl hlst hed h
    obtain ⟨fuel, rfl⟩ : ∃ f, fuel = f + 1 := ⟨fuel - 1, by omega⟩
    have hml : m < l0.length := by omega
    have ho : l0[m]? = some l0[m] := List.getElem?_eq_getElem hml
    have hun : listed.getD m true = false := by
      rcases listed_cases (listed := listed) (i := m) (by omega) with h1 | h1
      · have := (hlst m hml).1 h1; omega
      · exact h1
    have hready : m ∈ Region.ready .any l0.toArray listed := by
      rw [mem_ready]
      exact ⟨hun, _, by simp [hml], fun e he hb => (hlst e.on (by have := hed m _ ho e he hb; omega)).2 (hed m _ ho e he hb)⟩
    refine ⟨fun h0 => absurd (h0 ▸ hready) (by simp), fun i hi => ?_⟩
    have him : i = m := by
      obtain ⟨h1, o, ho', hall⟩ := mem_ready.1 hi
      have hlt := lt_of_unlisted h1
      rcases Nat.lt_trichotomy i m with hlt' | he | hgt
      · have h2 := (hlst i (by omega)).2 hlt'
        simp [hlt] at h1 h2
        rw [h2] at h1; cases h1
      · exact he
      · have ho'' : l0[i]? = some o := by simpa using ho'
        have := (htail i o (by omega) ho'' m hgt).elim (fun hp => hpre m hp) (listed_anc hcl 16 o m hall)
        have := (hlst m hml).1 this
        omega
    subst him
    unfold wpOp
    simp only [List.getElem?_toArray, ho]
    rw [List.drop_eq_getElem_cons hml] at h
    simp only [wpList] at h
    have next : ∀ a' W', wpList P l0.toArray Q (l0.drop (i + 1)) a' W' → wpAny P .any l0.toArray Q fuel (listed.setIfInBounds i true) a' W' := by
      intro a' W' h'
      refine ih (i + 1) _ a' W' fuel (by omega) (by omega) (by omega) (by simpa using hsz) (fun j hj => getD_set_true (hpre j hj)) ?_ ?_ hed h'
      · intro j o hj hoj e he hb
        by_cases hij : i = j
        · subst hij
          rw [ho] at hoj
          cases hoj
          exact getD_set_true ((hlst e.on (by have := hed i _ ho e he hb; omega)).2 (hed i _ ho e he hb))
        · rw [getD_set_ne false hij] at hj
          exact getD_set_true (hcl j o hj hoj e he hb)
      · intro j hj
        by_cases hij : i = j
        · subst hij
          simp [show i < listed.size by omega]
        · rw [getD_set_ne false hij, hlst j hj]
          omega
    split
    · rename_i hw
      rw [if_pos hw] at h
      exact h.imp (Oper.wp_mono next) id
    · rename_i hw
      rw [if_neg hw] at h
      exact next _ _ h
structure OkSpec (pre : List Nat) (l : List Oper) (n size : Nat) : Prop where
  sel : ∀ (j : Nat) (o : Oper) cs b, l[j]? = some o → o.op ≠ .select cs b
  len : n ≤ l.length
  dst : ∀ (j : Nat) (o : Oper) (d : Tmp), l[j]? = some o → o.dst = some d → d < size
  edge : ∀ (i : Nat) (o : Oper), l[i]? = some o → ∀ e ∈ o.after, Region.binds .any e = true → e.on < i
  has : ∀ (i : Nat) (o : Oper), i < n → l[i]? = some o → o.dst.isSome = true
  look : ∀ (i : Nat) (o : Oper) (j : Nat) (oj : Oper) (d : Tmp), i < n → l[i]? = some o → l[j]? = some oj → oj.dst = some d → d ∈ o.looksAt l.toArray → j < i ∧ hasEdge o j = true
  one : ∀ (i : Nat) (o : Oper) (j : Nat) (oj : Oper) (d : Tmp), i < n → l[i]? = some o → l[j]? = some oj → oj.dst = some d → i ≠ j → o.dst ≠ some d
  tail : ∀ (i : Nat) (o : Oper), n ≤ i → l[i]? = some o → ∀ j, j < i → j ∈ pre ∨ ancB l 16 o j = true
theorem okFree_spec {n size : Nat} {l : List Oper} (h : okFree pre n size l = true) : OkSpec pre l n size := by
  simp only [okFree, Bool.and_eq_true, decide_eq_true_eq, List.all_eq_true, List.mem_range] at h
  obtain ⟨⟨⟨h1, h2⟩, h3⟩, h4⟩ := h
  have at_ : ∀ i o, l[i]? = some o → okOper pre l n i o = true := by
    intro i o ho
    have := h4 i (List.getElem?_eq_some_iff.1 ho).1
    rwa [ho] at this
  refine ⟨fun j o cs b hj => Region.noSelect_spec h1 j o cs b (by simpa using hj), h2, ?_, ?_, ?_, ?_, ?_, ?_⟩
  · intro j o d ho hd
    have := h3 o (List.mem_of_getElem? ho)
    simpa [hd] using this
  · intro i o ho e he hb
    have := at_ i o ho
    simp only [okOper, Bool.and_eq_true, List.all_eq_true, Bool.or_eq_true, Bool.not_eq_true', decide_eq_true_eq] at this
    have := this.1 e (Array.mem_toList_iff.2 he)
    rcases this with h | h
    · rw [h] at hb; cases hb
    · exact h
  · intro i o hi ho
    have := at_ i o ho
    simp only [okOper, Bool.and_eq_true, if_pos hi] at this
    exact this.2.1
  · intro i o j oj d hi ho hj hd hm
    have := at_ i o ho
    simp only [okOper, Bool.and_eq_true, if_pos hi, List.all_eq_true, List.mem_range] at this
    have := this.2.2 j (List.getElem?_eq_some_iff.1 hj).1
    simp only [hj, hd, Bool.and_eq_true, Bool.or_eq_true, Bool.not_eq_true', decide_eq_true_eq] at this
    rcases this.1 with h | h
    · have := List.contains_iff_mem.2 hm
      rw [h] at this; cases this
    · exact h
  · intro i o j oj d hi ho hj hd hne
    have := at_ i o ho
    simp only [okOper, Bool.and_eq_true, if_pos hi, List.all_eq_true, List.mem_range] at this
    have := this.2.2 j (List.getElem?_eq_some_iff.1 hj).1
    simp only [hj, hd, Bool.and_eq_true, Bool.or_eq_true, beq_iff_eq, bne_iff_ne, ne_eq] at this
    rcases this.2 with h | h
    · exact absurd h.symm hne
    · exact h
  · intro i o hi ho j hj
    have := at_ i o ho
    simp only [okOper, Bool.and_eq_true, if_neg (Nat.not_lt.2 hi), List.all_eq_true, List.mem_range] at this
    have := this.2 j hj
    rw [Bool.or_eq_true] at this
    exact this.imp (fun h => List.contains_iff_mem.1 h) id
/-- Where a region stands, whatever came first. -/
structure Midway (pre : List Nat) (l : List Oper) (specs : List FSpec) (R : World → World → Prop) (w0 : World) (a0 : Act) (listed : Array Bool) (a : Act) (W : World) : Prop where
  size : listed.size = l.length
  rel : R w0 W
  defers : a.defers = a0.defers
  tsize : a.tmps.size = a0.tmps.size
  closed : ∀ (i : Nat) (o : Oper), listed.getD i false = true → l[i]? = some o → ∀ e ∈ o.after, Region.binds .any e = true → listed.getD e.on false = true
  other : ∀ (t : Tmp), (∀ (j : Nat) (o : Oper), l[j]? = some o → listed.getD j false = true → o.dst ≠ some t) → a.tmps[t]? = a0.tmps[t]?
  fact : ∀ (j : Nat) (o : Oper) (d : Tmp) (s : FSpec), listed.getD j false = true → l[j]? = some o → o.dst = some d → specs[j]? = some s → s.ok W (a.tmps.getD d undef)
  late : ∀ (j : Nat), specs.length ≤ j → listed.getD j false = false
  pre : ∀ j ∈ pre, listed.getD j false = true
theorem Midway.value {specs : List FSpec} {a0 a : Act} {listed : Array Bool} {W : World} (m : Midway pre l0 specs R w0 a0 listed a W) {j : Nat} {o : Oper} {d : Tmp} (hj : listed.getD j false = true) (ho : l0[j]? = some o) (hd : o.dst = some d) :
    a.tmps.getD d undef = valuesOf l0 specs a j := by
  have hlt : j < specs.length := by
    rcases Nat.lt_or_ge j specs.length with h | h
    · exact h
    · rw [m.late j h] at hj; cases hj
  have hs : specs[j]? = some specs[j] := List.getElem?_eq_getElem hlt
  have := m.fact j o d _ hj ho hd hs
  generalize specs[j] = s at this hs
  cases s with
  | val c => simp only [FSpec.ok] at this; simp [valuesOf, hs, this]
  | pred Φ => simp [valuesOf, hs, ho, hd]
theorem Midway.tmp {specs : List FSpec} {a0 a : Act} {listed : Array Bool} {W : World} (m : Midway pre l0 specs R w0 a0 listed a W) (ok : OkSpec pre l0 specs.length a0.tmps.size) (k t : Nat) (hk : k ≤ specs.length)
    (h : ∀ (j : Nat) (oj : Oper), l0[j]? = some oj → oj.dst = some t → j < k ∧ listed.getD j false = true) : (frameAt a0 l0 (valuesOf l0 specs a) k).tmps[t]? = a.tmps[t]? := by
  by_cases hex : ∃ (j : Nat) (oj : Oper), l0[j]? = some oj ∧ oj.dst = some t
  · obtain ⟨j, oj, hj, hd⟩ := hex
    obtain ⟨hjk, hlj⟩ := h j oj hj hd
    have ht := ok.dst j oj t hj hd
    rw [frameAt_own a0 l0 _ k t j oj hjk hj hd ht fun i o' hne ho' hd' => by
      rcases Nat.lt_or_ge i specs.length with hi | hi
      · exact ok.one i o' j oj t hi ho' hj hd hne hd'
      · exact ok.one j oj i o' t (by omega) hj ho' hd' (Ne.symm hne) hd]
    rw [← m.value hlj hj hd]
    have : t < a.tmps.size := by rw [m.tsize]; exact ht
    simp [this]
  · rw [frameAt_other a0 l0 _ k t fun j o _ ho hd => hex ⟨j, o, ho, hd⟩, m.other t fun j o ho _ hd => hex ⟨j, o, ho, hd⟩]
/-- One operation more, none of the tail. -/
theorem Midway.step {specs : List FSpec} {a0 a : Act} {listed : Array Bool} {W : World} (m : Midway pre l0 specs R w0 a0 listed a W) (ok : OkSpec pre l0 specs.length a0.tmps.size) (hrf : ∀ a, R a a) (htr : ∀ a b c, R a b → R b c → R a c)
    (hst : ∀ s ∈ specs, ∀ W W' v, R W W' → s.ok W v → s.ok W' v) (h : freeSteps P l0 R w0 Q 0 specs l0 a0 []) {i : Nat} (hi : i < specs.length) (hr : i ∈ Region.ready .any l0.toArray listed) :
    wpOp P l0.toArray Q i (fun a' W' => Midway pre l0 specs R w0 a0 (listed.setIfInBounds i true) a' W') a W := by
  obtain ⟨hun, o, ho', hedge⟩ := mem_ready.1 hr
  have ho : l0[i]? = some o := by simpa using ho'
  have hil : i < l0.length := (List.getElem?_eq_some_iff.1 ho).1
  have hlt : i < listed.size := by rw [m.size]; exact hil
  have hat := steps_at h (valuesOf l0 specs a) (valuesOf_fits l0 specs a) i (by omega)
  rw [List.drop_eq_getElem_cons hi, List.drop_eq_getElem_cons hil] at hat
  have hs : specs[i]? = some specs[i] := List.getElem?_eq_getElem hi
  have hoi : l0[i] = o := by
    have := List.getElem?_eq_getElem hil
    rw [ho] at this
    exact (Option.some.inj this).symm
  rw [hoi] at hat
  have hfacts : ∀ p ∈ factsAt specs (valuesOf l0 specs a) i, leans l0 o p.1 = true → p.2.1.ok W p.2.2 := by
    intro p hp hl
    obtain ⟨h1, h2, h3⟩ := mem_factsAt hp
    unfold leans at hl
    split at hl
    · rename_i d hd
      obtain ⟨oj, hj, hdj⟩ := Option.bind_eq_some_iff.1 hd
      have hlook := ok.look i o p.1 oj d hi ho hj hdj (List.contains_iff_mem.1 hl)
      have hlj : listed.getD p.1 false = true := listed_anc (l0 := l0) m.closed 0 o p.1 hedge hlook.2
      have := m.fact p.1 oj d p.2.1 hlj hj hdj h2
      rw [h3, ← m.value hlj hj hdj]
      exact this
    · cases hl
  have hsame : ∀ t, t ∈ o.looksAt l0.toArray → (frameAt a0 l0 (valuesOf l0 specs a) i).tmps[t]? = a.tmps[t]? := by
    intro t ht
    refine m.tmp ok i t (by omega) fun j oj hj hdj => ?_
    have hlook := ok.look i o j oj t hi ho hj hdj ht
    exact ⟨hlook.1, listed_anc (l0 := l0) m.closed 0 o j hedge hlook.2⟩
  have hev : execOp (frameAt a0 l0 (valuesOf l0 specs a) i).eval o = execOp a.eval o := eval_of_tmps o (fun cs b => ok.sel i o cs b ho) hsame
  have hwa : Region.wanted o (yielded l0.toArray (frameAt a0 l0 (valuesOf l0 specs a) i).tmps) = Region.wanted o (yielded l0.toArray a.tmps) := wanted_of_tmps o hsame
  -- what is left to show of each value
  have next : ∀ W' v, R W W' → specs[i].ok W' v → Midway pre l0 specs R w0 a0 (listed.setIfInBounds i true) (a.put o.dst v) W' := by
    intro W' v hR hv
    refine ⟨by simpa using m.size, htr _ _ _ m.rel hR, ?_, ?_, ?_, ?_, ?_, ?_, fun j hj => getD_set_true (m.pre j hj)⟩
    · rw [← m.defers]; cases o.dst <;> rfl
    · rw [← m.tsize]; cases hd : o.dst <;> simp [Act.put]
    · intro j oj hj hoj e he hb
      by_cases hij : i = j
      · subst hij
        rw [ho] at hoj; cases hoj
        exact getD_set_true (hedge e he hb)
      · rw [getD_set_ne false hij] at hj
        exact getD_set_true (m.closed j oj hj hoj e he hb)
    · intro t ht
      have hne : o.dst ≠ some t := ht i o ho (by simp [hlt])
      rw [← m.other t fun j oj hoj hj => ht j oj hoj (by
        by_cases hij : i = j
        · subst hij; simp [hlt]
        · rw [getD_set_ne false hij]; exact hj)]
      cases hd : o.dst with
      | none => rfl
      | some d =>
        have : d ≠ t := fun e => hne (by rw [hd, e])
        simp [Act.put, Array.getElem?_setIfInBounds_ne this]
    · intro j oj d s hj hoj hdj hsj
      by_cases hij : i = j
      · subst hij
        rw [ho] at hoj; cases hoj
        rw [hs] at hsj; cases hsj
        have hsz : d < a.tmps.size := by rw [m.tsize]; exact ok.dst i _ d ho hdj
        simpa [Act.put, hdj, hsz] using hv
      · rw [getD_set_ne false hij] at hj
        have hf := m.fact j oj d s hj hoj hdj hsj
        have hf := hst s (List.mem_of_getElem? hsj) _ _ _ hR hf
        have hnd : o.dst ≠ some d := ok.one i o j oj d hi ho hoj hdj hij
        cases hd : o.dst with
        | none => simpa [Act.put] using hf
        | some e =>
          have : e ≠ d := fun e' => hnd (by rw [hd, e'])
          simpa [Act.put, Array.getElem?_setIfInBounds_ne this] using hf
    · intro j hj
      rw [getD_set_ne false (show i ≠ j by omega)]
      exact m.late j hj
  unfold wpOp
  simp only [List.getElem?_toArray, ho]
  generalize hsp : specs[i] = s at hat next
  cases s with
  | val c =>
    simp only [freeSteps] at hat
    have hone := hat.1 W m.rel (factsHold_of hfacts)
    rw [hwa, hev] at hone
    split
    · rename_i hw
      rw [if_pos hw] at hone
      refine .inl (upon_of_gives hone fun w' v hv => next _ _ hv.1 hv.2)
    · rename_i hw
      rw [if_neg hw] at hone
      exact next W undef (hrf W) hone
  | pred Φ =>
    simp only [freeSteps] at hat
    have hone := hat.1 W m.rel (factsHold_of hfacts)
    rw [hwa, hev] at hone
    split
    · rename_i hw
      rw [if_pos hw] at hone
      refine .inl (upon_of_gives hone fun w' v hv => next _ _ hv.1 hv.2)
    · rename_i hw
      rw [if_neg hw] at hone
      exact next W undef (hrf W) hone
/-- All of the front is done, and nothing else: the frame is the lexical walk's. -/
theorem Midway.done {specs : List FSpec} {a0 a : Act} {listed : Array Bool} {W : World} (m : Midway pre l0 specs R w0 a0 listed a W) (ok : OkSpec pre l0 specs.length a0.tmps.size) (hall : ∀ j, j < specs.length → listed.getD j false = true) :
    a = frameAt a0 l0 (valuesOf l0 specs a) specs.length ∧ ∀ p ∈ factsAt specs (valuesOf l0 specs a) specs.length, p.2.1.ok W p.2.2 := by
  refine ⟨?_, fun p hp => ?_⟩
  · obtain ⟨tm, df⟩ := a
    have hdf := frameAt_defers a0 l0 (valuesOf l0 specs ⟨tm, df⟩) specs.length
    have htm : tm = (frameAt a0 l0 (valuesOf l0 specs ⟨tm, df⟩) specs.length).tmps := by
      refine Array.ext_getElem? fun t => ?_
      by_cases hex : ∃ (j : Nat) (oj : Oper), l0[j]? = some oj ∧ oj.dst = some t ∧ specs.length ≤ j
      · obtain ⟨j, oj, hj, hd, hge⟩ := hex
        by_cases hin : ∃ (i : Nat) (oi : Oper), l0[i]? = some oi ∧ oi.dst = some t ∧ i < specs.length
        · obtain ⟨i, oi, hi, hdi, hlt⟩ := hin
          exact absurd hdi (ok.one i oi j oj t hlt hi hj hd (by omega))
        · rw [frameAt_other a0 l0 _ _ t fun i o hi ho hd' => hin ⟨i, o, ho, hd', hi⟩]
          refine m.other t fun i o ho hl hd' => ?_
          rcases Nat.lt_or_ge i specs.length with h | h
          · exact hin ⟨i, o, ho, hd', h⟩
          · rw [m.late i h] at hl; cases hl
      · refine (m.tmp ok specs.length t (Nat.le_refl _) fun j oj hj hd => ?_).symm
        have hlt : j < specs.length := by
          rcases Nat.lt_or_ge j specs.length with h | h
          · exact h
          · exact absurd ⟨j, oj, hj, hd, h⟩ hex
        exact ⟨hlt, hall j hlt⟩
    have h1 : (frameAt a0 l0 (valuesOf l0 specs ⟨tm, df⟩) specs.length).defers = df := by rw [hdf, ← m.defers]
    generalize frameAt a0 l0 (valuesOf l0 specs ⟨tm, df⟩) specs.length = f at htm h1
    obtain ⟨ft, fd⟩ := f
    simp only at htm h1
    rw [htm, h1]
  · obtain ⟨h1, h2, h3⟩ := mem_factsAt hp
    have hil : p.1 < l0.length := by have := ok.len; omega
    have ho : l0[p.1]? = some l0[p.1] := List.getElem?_eq_getElem hil
    rw [h3]
    cases hd : l0[p.1].dst with
    | some d =>
      rw [← m.value (hall p.1 h1) ho hd]
      exact m.fact p.1 _ d _ (hall p.1 h1) ho hd h2
    | none =>
      have := ok.has p.1 _ h1 ho
      simp [hd] at this
theorem free_any {specs : List FSpec} {a0 : Act} (ok : OkSpec pre l0 specs.length a0.tmps.size) (hrf : ∀ a, R a a) (htr : ∀ a b c, R a b → R b c → R a c)
    (hst : ∀ s ∈ specs, ∀ W W' v, R W W' → s.ok W v → s.ok W' v) (h : freeSteps P l0 R w0 Q 0 specs l0 a0 []) :
    ∀ (fuel : Nat) (listed : Array Bool) (a : Act) (W : World), left l0 listed ≤ fuel → Midway pre l0 specs R w0 a0 listed a W → wpAny P .any l0.toArray Q fuel listed a W := by
  have fin : ∀ (listed : Array Bool) (a : Act) (W : World), Midway pre l0 specs R w0 a0 listed a W → (∀ j, j < specs.length → listed.getD j false = true) → wpList P l0.toArray Q (l0.drop specs.length) a W := by
    intro listed a W m hall
    obtain ⟨he, hf⟩ := m.done ok hall
    have hat := steps_at h (valuesOf l0 specs a) (valuesOf_fits l0 specs a) specs.length (Nat.le_refl _)
    rw [List.drop_length] at hat
    simp only [freeSteps] at hat
    have := hat W m.rel (factsHold_of fun p hp _ => hf p hp)
    rwa [← he] at this
  have hlst : ∀ (listed : Array Bool) (a : Act) (W : World), Midway pre l0 specs R w0 a0 listed a W → (∀ j, j < specs.length → listed.getD j false = true) → ∀ i, i < l0.length → (listed.getD i false = true ↔ i < specs.length) := by
    intro listed a W m hall i hi
    constructor
    · intro hl
      rcases Nat.lt_or_ge i specs.length with h | h
      · exact h
      · rw [m.late i h] at hl; cases hl
    · exact hall i
  intro fuel
  induction fuel with
  | zero =>
    intro listed a W hl m
    have hnone : ∀ i, i < l0.length → listed.getD i true = true := by
      intro i hi
      have h0 : ((List.range l0.length).filter fun i => !listed.getD i true) = [] := List.eq_nil_of_length_eq_zero (by unfold left at hl; omega)
      have := List.filter_eq_nil_iff.1 h0 i (List.mem_range.2 hi)
      simpa using this
    have hall : ∀ j, j < specs.length → listed.getD j false = true := by
      intro j hj
      have h1 := hnone j (by have := ok.len; omega)
      rcases listed_cases (listed := listed) (i := j) (by rw [m.size]; have := ok.len; omega) with h2 | h2
      · exact h2
      · rw [h2] at h1; cases h1
    have hn : specs.length = l0.length := by
      rcases Nat.lt_or_ge specs.length l0.length with h1 | h1
      · have h2 := hnone specs.length h1
        have h3 := m.late specs.length (Nat.le_refl _)
        rcases listed_cases (listed := listed) (i := specs.length) (by rw [m.size]; exact h1) with h4 | h4
        · rw [h4] at h3; cases h3
        · rw [h4] at h2; cases h2
      · have := ok.len; omega
    exact tail_forced ok.tail 0 specs.length listed a W 0 (Nat.le_refl _) hn (Nat.le_refl _) m.size m.pre m.closed (hlst _ _ _ m hall) ok.edge (fin _ _ _ m hall)
  | succ fuel ih =>
    intro listed a W hl m
    by_cases hall : ∀ j, j < specs.length → listed.getD j false = true
    · refine tail_forced ok.tail (l0.length - specs.length) specs.length listed a W (fuel + 1) (Nat.le_refl _) (by have := ok.len; omega) ?_ m.size m.pre m.closed (hlst _ _ _ m hall) ok.edge (fin _ _ _ m hall)
      have := left_ge (l := l0) (listed := listed) (n := specs.length) fun i h1 h2 => by
        have := m.late i h1
        have hlt : i < listed.size := by rw [m.size]; exact h2
        simpa [hlt] using this
      omega
    · refine ⟨fun h0 => ?_, fun i hi => ?_⟩
      · refine absurd (fun j => ?_) hall
        induction j using Nat.strongRecOn with
        | _ j ihj =>
          intro hj
          have hjl : j < l0.length := by have := ok.len; omega
          have hoj : l0[j]? = some l0[j] := List.getElem?_eq_getElem hjl
          rcases listed_cases (listed := listed) (i := j) (by rw [m.size]; exact hjl) with h1 | h1
          · exact h1
          · have hm : j ∈ Region.ready .any l0.toArray listed := mem_ready.2 ⟨h1, l0[j], by simp [hjl], fun e he hb => by
              have := ok.edge j _ hoj e he hb
              exact ihj e.on this (by omega)⟩
            rw [h0] at hm
            cases hm
      · obtain ⟨hun, o, ho', hedge⟩ := mem_ready.1 hi
        have hil : i < l0.length := by have := lt_of_unlisted hun; rw [m.size] at this; exact this
        have hn : i < specs.length := by
          rcases Nat.lt_or_ge i specs.length with h1 | h1
          · exact h1
          · exact absurd (fun j hj => (ok.tail i o h1 (by simpa using ho') j (by omega)).elim (fun hp => m.pre j hp) (listed_anc m.closed 16 o j hedge)) hall
        exact wpOp_mono (fun a' W' m' => ih _ a' W' (by have := left_set hil hun; omega) m') (m.step ok hrf htr hst h hn hi)
theorem region_pre {id : Nat} {l : List Oper} {a : Act} {w : World} (R : World → World → Prop) (specs : List FSpec) (k : Nat) (ok : Oper) (d : Tmp) (v : Value) (hm : P.follows .mixedOrders = true) (hok : okFree [k] specs.length a.tmps.size l = true)
    (hk : l[k]? = some ok) (hd : ok.dst = some d) (he : (ok.after.toList.all fun e => !Region.binds .any e) = true) (hs : specs[k]? = some (.val v)) (hns : Region.noSelect l.toArray = true)
    (hf : Region.free .any l.toArray (Array.replicate l.toArray.size false) k = true) (hQ : ∀ c a w, Q (.panic c) (a.put ok.dst v) w → Q (.panic c) a w) (hy : Yields P l.toArray ok v a)
    (hrf : ∀ a, R a a) (htr : ∀ a b c, R a b → R b c → R a c) (hdr : ∀ a, R a a.drew) (hst : ∀ s ∈ specs, ∀ W W' v, R W W' → s.ok W v → s.ok W' v)
    (h : freeSteps P l R w Q 0 specs l a []) : (Code.region id l.toArray true).wp P Q a w := by
  refine wp_region_any hm ?_
  have hsz : l.toArray.size = l.length := by simp
  have hkl : k < l.length := (List.getElem?_eq_some_iff.1 hk).1
  have hks : k < specs.length := (List.getElem?_eq_some_iff.1 hs).1
  have hget : ∀ i : Nat, (Array.replicate l.toArray.size false).getD i false = false := by
    intro i
    rw [Array.getD_eq_getD_getElem?, Array.getElem?_replicate]
    split <;> rfl
  have hno : ∀ e ∈ ok.after, Region.binds .any e = true → False := by
    intro e hm hb
    have := List.all_eq_true.1 he e (Array.mem_toList_iff.2 hm)
    rw [hb] at this
    cases this
  have hok' := okFree_spec hok
  have hdl : d < a.tmps.size := hok'.dst k ok d hk hd
  have hun : (Array.replicate l.toArray.size false).getD k true = false := by simp [hkl]
  obtain ⟨n, hn⟩ : ∃ n, l.toArray.size = n + 1 := ⟨l.length - 1, by rw [hsz]; omega⟩
  have hget1 : ∀ i : Nat, ((Array.replicate l.toArray.size false).setIfInBounds k true).getD i false = true → i = k := by
    intro i hi
    by_cases e : k = i
    · exact e.symm
    · rw [getD_set_ne false e, hget] at hi; cases hi
  have hgk : ((Array.replicate l.toArray.size false).setIfInBounds k true).getD k false = true := by simp [hkl]
  have key : wpAny P .any l.toArray Q n ((Array.replicate l.toArray.size false).setIfInBounds k true) (a.put ok.dst v) w.drew := by
    refine free_any hok' hrf htr hst h _ _ _ _ ?_ ⟨by simp, hdr w, by rw [hd]; rfl, by rw [hd]; simp [Act.put], ?_, ?_, ?_, ?_, ?_⟩
    · have h1 := left_set (l := l) (listed := Array.replicate l.toArray.size false) hkl hun
      have h2 : left l (Array.replicate l.toArray.size false) ≤ n + 1 := by
        unfold left
        refine Nat.le_trans (List.length_filter_le _ _) ?_
        rw [List.length_range, ← hn, hsz]
        exact Nat.le_refl _
      omega
    · intro i o hi ho e hm hb
      obtain rfl := hget1 i hi
      rw [hk] at ho; cases ho
      exact (hno e hm hb).elim
    · intro t ht
      have hne : ok.dst ≠ some t := ht k ok hk hgk
      rw [hd] at hne ⊢
      have : d ≠ t := fun e => hne (by rw [e])
      simp [Act.put, Array.getElem?_setIfInBounds_ne this]
    · intro j o d' s hj ho hd' hsj
      obtain rfl := hget1 j hj
      rw [hk] at ho; cases ho
      rw [hs] at hsj; cases hsj
      rw [hd] at hd'; cases hd'
      simp [FSpec.ok, Act.put, hd, hdl]
    · intro j hj
      rw [getD_set_ne false (show k ≠ j by omega)]
      exact hget j
    · intro j hj
      obtain rfl := List.mem_singleton.1 hj
      exact hgk
  have hr : (Region.ready .any l.toArray (Array.replicate l.toArray.size false)).contains k = true := by
    rw [List.contains_iff_mem]
    exact mem_ready.2 ⟨hun, ok, by simpa using hk, fun e hm hb => (hno e hm hb).elim⟩
  have := wpAny_take (P := P) (md := .any) (ops := l.toArray) (Q := Q) (i := k) (oi := ok) (v := v) (fuel := n) (by simpa using hk) hns hf hr hQ hy key
  rw [hn] at this ⊢
  exact this
end
end Go.Proofs.YtpmfohhpaoagfaaGreat.Pre
namespace Go.Proofs.YtpmfohhpaoagfaaGreat
open Go Go.RowKit Go.Proofs
theorem st_fracR {ss : List FSpec} (q : Rat) (h : StableAll Ext ss) : StableAll Ext (.pred (fun W v => FracR W v q) :: ss) := ⟨fun _ _ _ e h => FracR.ext h e, h⟩
/-- Only the row at g has changed, and new blocks have come. -/
def RowChg (w w' : World) (g : Nat) : Prop := ∃ w1 old cs, Ext w w1 ∧ w1.heap[g]? = some (.cells old 80 (0, 0)) ∧ old.all flatV = true ∧ w' = w1.setRow g cs
theorem set8_row {w : World} {g T : Nat} {fr : Nat × Nat} {x0 x1 x2 x3 x4 x5 x6 x7 x8 x9 xa xb u0 u1 u2 u3 u4 u5 u6 u7 : Value} (h : w.heap[g]? = some (.cells #[x0, x1, x2, x3, x4, x5, x6, x7, x8, x9, xa, xb] T fr)) :
    (((((((w.setCell ⟨g, 0, none⟩ u0).setCell ⟨g, 1, none⟩ u1).setCell ⟨g, 2, none⟩ u2).setCell ⟨g, 3, none⟩ u3).setCell ⟨g, 4, none⟩ u4).setCell ⟨g, 5, none⟩ u5).setCell ⟨g, 6, none⟩ u6).setCell ⟨g, 7, none⟩ u7 = w.setRow g #[u0, u1, u2, u3, u4, u5, u6, u7, x8, x9, xa, xb] := by
  have e : ((((((((w.setCell ⟨g, 0, none⟩ u0).setCell ⟨g, 1, none⟩ u1).setCell ⟨g, 2, none⟩ u2).setCell ⟨g, 3, none⟩ u3).setCell ⟨g, 4, none⟩ u4).setCell ⟨g, 5, none⟩ u5).setCell ⟨g, 6, none⟩ u6).setCell ⟨g, 7, none⟩ u7).heap = (w.setRow g #[u0, u1, u2, u3, u4, u5, u6, u7, x8, x9, xa, xb]).heap := by
    refine Array.ext_getElem? fun k => ?_
    unfold World.setCell World.setRow
    simp only [Array.getElem?_modify]
    by_cases hk : g = k
    · subst hk
      simp [h]
    · simp [hk]
  unfold World.setCell World.setRow at *
  simpa using e
set_option maxRecDepth 100000 in
set_option maxHeartbeats 3200000 in
theorem on_c (g : Nat) (x y z : Rat) (w : World) (hx : nf x ≤ 67108864) (hy : nf y ≤ 67108864) (hz : nf z ≤ 67108864) (h : RowAt w g x y z) :
    Calls Tryz.prog 65 #[.pointer (some ⟨g, 0, none⟩)] w fun e w' => e = .returned (.tuple #[]) ∧ RowChg w w' g ∧ RowAt w' g y (z * y - x) z := by
  obtain ⟨b1, a1, n1, m1, b2, a2, n2, m2, b3, a3, n3, m3, b4, a4, n4, m4, b5, a5, n5, m5, b6, a6, n6, m6, h0, h1, h2, h3⟩ := h
  have hzy : nf (z * y) ≤ 268435456 := by have := nf_mul_le z y; omega
  have kt := mkHid (fun w h h' => times_f (.agg #[.bool b5, .slice a5 n5 m5, .bool b6, .slice a6 n6 m6]) (.agg #[.bool b3, .slice a3 n3 m3, .bool b4, .slice a4 n4 m4]) z y w (by omega) (by omega) h h')
  have km := mkHid (fun v w h h' => minus_f v (.agg #[.bool b1, .slice a1 n1 m1, .bool b2, .slice a2 n2 m2]) (z * y) x w hzy (by omega) h h')
  have c : ∀ W, Ext w W → ∀ (k : Nat) (u : Value), (#[Value.bool b1, .slice a1 n1 m1, .bool b2, .slice a2 n2 m2, .bool b3, .slice a3 n3 m3, .bool b4, .slice a4 n4 m4, .bool b5, .slice a5 n5 m5, .bool b6, .slice a6 n6 m6])[k]? = some u → W.cell? ⟨g, k, none⟩ = some u := by
    intro W e k u hu
    simp only [World.cell?, e.blk h0]
    simpa using hu
  have c0 := fun W e => c W e 0 (.bool b1) rfl
  have c1 := fun W e => c W e 1 (.slice a1 n1 m1) rfl
  have c2 := fun W e => c W e 2 (.bool b2) rfl
  have c3 := fun W e => c W e 3 (.slice a2 n2 m2) rfl
  have c4 := fun W e => c W e 4 (.bool b3) rfl
  have c5 := fun W e => c W e 5 (.slice a3 n3 m3) rfl
  have c6 := fun W e => c W e 6 (.bool b4) rfl
  have c7 := fun W e => c W e 7 (.slice a4 n4 m4) rfl
  have c8 := fun W e => c W e 8 (.bool b5) rfl
  have c9 := fun W e => c W e 9 (.slice a5 n5 m5) rfl
  have ca := fun W e => c W e 10 (.bool b6) rfl
  have cb := fun W e => c W e 11 (.slice a6 n6 m6) rfl
  clear c
  replace h0 := mkHid h0
  replace h1 := mkHid h1
  replace h2 := mkHid h2
  replace h3 := mkHid h3
  clear hx hy hz hzy
  go_enter Tryz.func65, Tryz.ntmps65
  apply Pre.region_pre Ext [.val _, .val _, .val _, .val _, .val _, .val _, .val _, .val _, .val _, .val _, .val _, .val _, .val _, .val _, .pred (fun W v => FracR W v (z * y)), .val _, .val _, .val _, .val _, .pred (fun W v => FracR W v (z * y - x)), .val _, .val _] 1 _ 3 (.pointer (some ⟨g, 0, none⟩)) mixed (by kernel_rfl) rfl rfl (by kernel_rfl) rfl (by kernel_rfl) (by kernel_rfl) (fun _ _ _ h => h) (.inl ⟨rfl, fun w => rfl⟩) Ext.refl (fun _ _ _ => Ext.trans) (fun w => (Ext.refl w).dr) (stableAll_mem (stable_vals _ (stable_vals _ (stable_vals _ (stable_vals _ (stable_vals _ (stable_vals _ (stable_vals _ (stable_vals _ (stable_vals _ (stable_vals _ (stable_vals _ (stable_vals _ (stable_vals _ (stable_vals _ (st_fracR _ (stable_vals _ (stable_vals _ (stable_vals _ (stable_vals _ (st_fracR _ (stable_vals _ (stable_vals _ trivial)))))))))))))))))))))))
  iterate 14 (refine ⟨fun W hW _ => by go_simp; first | exact ⟨Ext.refl _, rfl⟩ | exact Ext.refl _, ?_⟩)
  refine ⟨fun W hW _ => ?g14, fun v14 => ?_⟩
  case g14 =>
    go_simp
    refine (kt.out W (h3.out.ext hW) (h2.out.ext hW)).mono ?_
    rintro e w' ⟨v, rfl, e1, e2⟩
    exact ⟨v, rfl, e1, e2.r⟩
  iterate 4 (refine ⟨fun W hW _ => by go_simp; exact ⟨Ext.refl _, rfl⟩, ?_⟩)
  refine ⟨fun W hW hF => ?g19, fun v19 => ?_⟩
  case g19 =>
    have d14 : FracR W v14 (z * y) := hF.1 (by kernel_rfl)
    replace d14 := mkHid d14
    clear hF
    go_simp
    refine (km.out _ W d14.out (h1.out.ext hW)).mono ?_
    rintro e w' ⟨v, rfl, e1, e2⟩
    exact ⟨v, rfl, e1, e2.r⟩
  iterate 2 (refine ⟨fun W hW _ => by go_simp; exact ⟨Ext.refl _, rfl⟩, ?_⟩)
  intro W hW hF
  have d19 : FracR W v19 (z * y - x) := hF.1 rfl
  obtain ⟨x1, x2, x3, x4, y1, y2, y3, y4, rfl⟩ := d19.shape
  have hBW := hW.blk h0.out
  have q0 := c0 W hW
  have q1 := c1 W hW
  have q2 := c2 W hW
  have q3 := c3 W hW
  have q4 := c4 W hW
  have q5 := c5 W hW
  have q6 := c6 W hW
  have q7 := c7 W hW
  have f0 := row2_frozen hBW 0
  have f1 := row2_frozen hBW 1
  have f2 := row2_frozen hBW 2
  have f3 := row2_frozen hBW 3
  have f4 := row2_frozen hBW 4
  have f5 := row2_frozen hBW 5
  have f6 := row2_frozen hBW 6
  have f7 := row2_frozen hBW 7
  have hfl : (#[.bool b1, .slice a1 n1 m1, .bool b2, .slice a2 n2 m2, .bool b3, .slice a3 n3 m3, .bool b4, .slice a4 n4 m4, .bool b5, .slice a5 n5 m5, .bool b6, .slice a6 n6 m6] : Array Value).all flatV = true := by simp [flatV]
  have FR : RowAt (W.setRow g #[.bool b3, .slice a3 n3 m3, .bool b4, .slice a4 n4 m4, .bool x1, .slice x2 x3 x4, .bool y1, .slice y2 y3 y4, .bool b5, .slice a5 n5 m5, .bool b6, .slice a6 n6 m6]) g y (z * y - x) z :=
    ⟨_, _, _, _, _, _, _, _, _, _, _, _, _, _, _, _, _, _, _, _, _, _, _, _, setRow_heap _ _ _ _ _ _ hBW, (h2.out.ext hW).flat hBW hfl _, d19.flat hBW hfl _, (h3.out.ext hW).flat hBW hfl _⟩
  replace FR := mkHid FR
  replace hBW := mkHid hBW
  replace hfl := mkHid hfl
  replace hW := mkHid hW
  clear hF d19 c0 c1 c2 c3 c4 c5 c6 c7 c8 c9 ca cb
  go_simp
  go_wp2_with fail
  rw [set8_row hBW.out]
  go_end0
  exact ⟨rfl, ⟨W, _, _, hW.out, hBW.out, hfl.out, rfl⟩, FR.out⟩
end Go.Proofs.YtpmfohhpaoagfaaGreat
namespace Go.Proofs.YtpmfohhpaoagfaaGreat
open Go Go.RowKit Go.Proofs
/-- All blocks but two rows are as they were. -/
structure RC (ga gb : Nat) (w w' : World) : Prop where
  ext : ∀ we, Ext we w → we.heap.size ≤ ga → we.heap.size ≤ gb → Ext we w'
  blk : ∀ b o, b ≠ ga → b ≠ gb → w.heap[b]? = some o → w'.heap[b]? = some o
  frac : ∀ v q, FracR w v q → FracR w' v q
theorem RC.refl (ga gb : Nat) (w : World) : RC ga gb w w := ⟨fun _ h _ _ => h, fun _ _ _ _ h => h, fun _ _ h => h⟩
theorem RC.trans {ga gb : Nat} {a b c : World} (h : RC ga gb a b) (k : RC ga gb b c) : RC ga gb a c :=
  ⟨fun we h1 h2 h3 => k.ext we (h.ext we h1 h2 h3) h2 h3, fun x o h1 h2 h3 => k.blk x o h1 h2 (h.blk x o h1 h2 h3), fun v q h1 => k.frac v q (h.frac v q h1)⟩
theorem RC.of_ext {ga gb : Nat} {w w' : World} (h : Ext w w') : RC ga gb w w' :=
  ⟨fun _ h1 _ _ => h1.trans h, fun _ _ _ _ h1 => h.blk h1, fun _ _ h1 => h1.ext h⟩
theorem RowChg.rc_a {ga gb : Nat} {w w' : World} (h : RowChg w w' ga) : RC ga gb w w' := by
  obtain ⟨w1, old, cs, hE, hg, hf, rfl⟩ := h
  refine ⟨fun we h1 h2 _ => (h1.trans hE).row h2 cs, fun b o h1 _ h3 => ?_, fun v q h1 => (h1.ext hE).flat hg hf cs⟩
  rw [setRow_other _ _ _ _ h1]
  exact hE.blk h3
theorem RowChg.rc_b {ga gb : Nat} {w w' : World} (h : RowChg w w' gb) : RC ga gb w w' := by
  obtain ⟨w1, old, cs, hE, hg, hf, rfl⟩ := h
  refine ⟨fun we h1 _ h2 => (h1.trans hE).row h2 cs, fun b o _ h1 h3 => ?_, fun v q h1 => (h1.ext hE).flat hg hf cs⟩
  rw [setRow_other _ _ _ _ h1]
  exact hE.blk h3
theorem RowAt.chg {w w' : World} {g g' : Nat} {x y z : Rat} (h : RowAt w g x y z) (hne : g ≠ g') (k : RowChg w w' g') : RowAt w' g x y z := by
  have hr : RC g' g' w w' := k.rc_a
  obtain ⟨b1, a1, n1, c1, b2, a2, n2, c2, b3, a3, n3, c3, b4, a4, n4, c4, b5, a5, n5, c5, b6, a6, n6, c6, h0, h1, h2, h3⟩ := h
  exact ⟨b1, a1, n1, c1, b2, a2, n2, c2, b3, a3, n3, c3, b4, a4, n4, c4, b5, a5, n5, c5, b6, a6, n6, c6, hr.blk _ _ hne hne h0, hr.frac _ _ h1, hr.frac _ _ h2, hr.frac _ _ h3⟩
/-- The row after k steps. -/
def itR (z : Rat) : Nat → Rat × Rat → Rat × Rat
  | 0, p => p
  | k + 1, p => ((itR z k p).2, z * (itR z k p).2 - (itR z k p).1)
def bigR (z : Rat) (n : Nat) (p : Rat × Rat) : Prop := nf z ≤ 67108864 ∧ ∀ k, k ≤ n → nf (itR z k p).1 ≤ 67108864 ∧ nf (itR z k p).2 ≤ 67108864
def many2I (ga gb : Nat) (za zb : Rat) (pa pb : Rat × Rat) (w : World) (k : Nat) (wr : World) : Prop :=
  RC ga gb w wr ∧ RowAt wr ga (itR za k pa).1 (itR za k pa).2 za ∧ RowAt wr gb (itR zb k pb).1 (itR zb k pb).2 zb
set_option maxHeartbeats 1600000 in
theorem many2_c (ga gb gs cap n : Nat) (za zb : Rat) (pa pb : Rat × Rat) (w : World) (hn : n ≤ 4096) (hne : ga ≠ gb) (hsa : gs ≠ ga) (hsb : gs ≠ gb) (ha : bigR za n pa) (hb : bigR zb n pb)
    (hs : w.heap[gs]? = some (.cells #[.func (.func 65) #[.pointer (some ⟨ga, 0, none⟩)] #[], .func (.func 65) #[.pointer (some ⟨gb, 0, none⟩)] #[]] 1 (0, 0)))
    (hA : RowAt w ga pa.1 pa.2 za) (hB : RowAt w gb pb.1 pb.2 zb) :
    Calls Tryz.prog 64 #[.int .i64 (n : Nat), .slice (some ⟨gs, 0, none⟩) 2 cap] w fun e w' => e = .returned (.tuple #[]) ∧ many2I ga gb za zb pa pb w n w' := by
  have hst : many2I ga gb za zb pa pb w 0 w := ⟨RC.refl _ _ _, hA, hB⟩
  obtain ⟨wo, hwo⟩ : ∃ wo : World, wo = w := ⟨_, rfl⟩
  rw [← hwo] at hs
  replace hst := mkHid hst
  replace hs := mkHid hs
  replace ha := mkHid ha
  replace hb := mkHid hb
  go_enter Tryz.func64, Tryz.ntmps64
  go_wp2_with fail
  go_loopw [7] (fun i wr => ∃ k : Nat, k ≤ n ∧ i = .int .i64 (k : Nat) ∧ many2I ga gb za zb pa pb wo k wr) (fun i _ => n - (intOf i).toNat)
  case atStart => exact ⟨0, Nat.zero_le _, rfl, hwo ▸ hst.out⟩
  case round =>
    obtain ⟨k, hk, rfl, hI⟩ := hrel
    by_cases hlt : k < n
    · obtain ⟨r1, r2, r3⟩ := hI
      have hs1 := r1.blk _ _ hsa hsb hs.out
      have s0 : wr.cell? ⟨gs, 0, none⟩ = some (.func (.func 65) #[.pointer (some ⟨ga, 0, none⟩)] #[]) := by simp [World.cell?, hs1]
      obtain ⟨ba1, ba2⟩ := ha.out.2 k hk
      obtain ⟨bb1, bb2⟩ := hb.out.2 k hk
      have o1 := mkHid (on_c ga _ _ za wr ba1 ba2 ha.out.1 r2)
      replace hs1 := mkHid hs1
      replace r1 := mkHid r1
      replace r2 := mkHid r2
      replace r3 := mkHid r3
      clear ba1 ba2 bb1 bb2
      go_wp2_with fail
      refine wp_loop_rounds 3 ?_
      rw [rounds_succ]
      go_wp2_with fail
      refine o1.out.mono ?_
      rintro e w2 ⟨rfl, hC2, hA2⟩
      have r12 := r1.out.trans hC2.rc_a
      have hB2 := r3.out.chg (Ne.symm hne) hC2
      have hs2 := r12.blk _ _ hsa hsb hs.out
      have s1 : w2.cell? ⟨gs, 1, none⟩ = some (.func (.func 65) #[.pointer (some ⟨gb, 0, none⟩)] #[]) := by simp [World.cell?, hs2]
      obtain ⟨bb1, bb2⟩ := hb.out.2 k hk
      have o2 := mkHid (on_c gb _ _ zb w2 bb1 bb2 hb.out.1 hB2)
      replace r12 := mkHid r12
      replace hA2 := mkHid hA2
      clear bb1 bb2 hC2 hB2 hs2 s0 o1 r1 r2 r3 hs1
      go_wp2_with fail
      rw [rounds_succ]
      go_wp2_with fail
      refine o2.out.mono ?_
      rintro e w3 ⟨rfl, hC3, hB3⟩
      have r13 := r12.out.trans hC3.rc_b
      have hA3 := hA2.out.chg hne hC3
      have hI3 : many2I ga gb za zb pa pb wo (k + 1) w3 := ⟨r13, hA3, hB3⟩
      replace hI3 := mkHid hI3
      clear r13 hA3 hC3 hB3 o2 s1 hA2 r12
      go_wp2_with fail
      rw [rounds_succ]
      go_wp2_with fail
      go_roundw
      case rel => exact ⟨k + 1, by omega, by go_num, hI3.out⟩
      case measure => simp [intOf] <;> omega
    · obtain rfl : n = k := by omega
      replace hI := mkHid hI
      go_wp2_with fail
      go_end0
      exact ⟨rfl, hwo ▸ hI.out⟩
def many1I (ga : Nat) (za : Rat) (pa : Rat × Rat) (w : World) (k : Nat) (wr : World) : Prop :=
  RC ga ga w wr ∧ RowAt wr ga (itR za k pa).1 (itR za k pa).2 za
set_option maxHeartbeats 1600000 in
theorem many1_c (ga gs cap n : Nat) (za : Rat) (pa : Rat × Rat) (w : World) (hn : n ≤ 4096) (hsa : gs ≠ ga) (ha : bigR za n pa)
    (hs : w.heap[gs]? = some (.cells #[.func (.func 65) #[.pointer (some ⟨ga, 0, none⟩)] #[]] 1 (0, 0)))
    (hA : RowAt w ga pa.1 pa.2 za) :
    Calls Tryz.prog 64 #[.int .i64 (n : Nat), .slice (some ⟨gs, 0, none⟩) 1 cap] w fun e w' => e = .returned (.tuple #[]) ∧ many1I ga za pa w n w' := by
  have hst : many1I ga za pa w 0 w := ⟨RC.refl _ _ _, hA⟩
  obtain ⟨wo, hwo⟩ : ∃ wo : World, wo = w := ⟨_, rfl⟩
  rw [← hwo] at hs
  replace hst := mkHid hst
  replace hs := mkHid hs
  replace ha := mkHid ha
  go_enter Tryz.func64, Tryz.ntmps64
  go_wp2_with fail
  go_loopw [7] (fun i wr => ∃ k : Nat, k ≤ n ∧ i = .int .i64 (k : Nat) ∧ many1I ga za pa wo k wr) (fun i _ => n - (intOf i).toNat)
  case atStart => exact ⟨0, Nat.zero_le _, rfl, hwo ▸ hst.out⟩
  case round =>
    obtain ⟨k, hk, rfl, hI⟩ := hrel
    by_cases hlt : k < n
    · obtain ⟨r1, r2⟩ := hI
      have hs1 := r1.blk _ _ hsa hsa hs.out
      have s0 : wr.cell? ⟨gs, 0, none⟩ = some (.func (.func 65) #[.pointer (some ⟨ga, 0, none⟩)] #[]) := by simp [World.cell?, hs1]
      obtain ⟨ba1, ba2⟩ := ha.out.2 k hk
      have o1 := mkHid (on_c ga _ _ za wr ba1 ba2 ha.out.1 r2)
      replace hs1 := mkHid hs1
      replace r1 := mkHid r1
      replace r2 := mkHid r2
      clear ba1 ba2
      go_wp2_with fail
      refine wp_loop_rounds 2 ?_
      rw [rounds_succ]
      go_wp2_with fail
      refine o1.out.mono ?_
      rintro e w2 ⟨rfl, hC2, hA2⟩
      have hI3 : many1I ga za pa wo (k + 1) w2 := ⟨r1.out.trans hC2.rc_a, hA2⟩
      replace hI3 := mkHid hI3
      clear hC2 s0 o1 r1 r2 hs1 hA2
      go_wp2_with fail
      rw [rounds_succ]
      go_wp2_with fail
      go_roundw
      case rel => exact ⟨k + 1, by omega, by go_num, hI3.out⟩
      case measure => simp [intOf] <;> omega
    · obtain rfl : n = k := by omega
      replace hI := mkHid hI
      go_wp2_with fail
      go_end0
      exact ⟨rfl, hwo ▸ hI.out⟩
end Go.Proofs.YtpmfohhpaoagfaaGreat
namespace Go.Proofs.YtpmfohhpaoagfaaGreat
open Go Go.RowKit Go.Proofs
theorem it_form (z : Rat) (p : Rat × Rat) (P : Int) (Q B : Nat) (hz : z * (Q : Rat) = (P : Rat)) (h1 : ∃ a : Int, p.1 * (Q : Rat) = (a : Rat) ∧ a.natAbs ≤ B * Q) (h2 : ∃ n : Int, p.2 = (n : Rat) ∧ n.natAbs ≤ B) :
    ∀ k, ∃ a n : Int, (itR z k p).1 * (Q : Rat) ^ (k + 1) = (a : Rat) ∧ a.natAbs ≤ B * Q * (P.natAbs + Q) ^ k ∧ (itR z k p).2 * (Q : Rat) ^ k = (n : Rat) ∧ n.natAbs ≤ B * (P.natAbs + Q) ^ k := by
  intro k
  induction k with
  | zero =>
    obtain ⟨a, ha, ha2⟩ := h1
    obtain ⟨n, hn, hn2⟩ := h2
    exact ⟨a, n, by simpa [itR] using ha, by simpa using ha2, by simp [itR, hn], by simpa using hn2⟩
  | succ k ih =>
    obtain ⟨a, n, e1, b1, e2, b2⟩ := ih
    refine ⟨n * (Q * Q : Nat), P * n - a, ?_, ?_, ?_, ?_⟩
    · simp only [itR]
      have : ((n * ((Q * Q : Nat) : Int) : Int) : Rat) = (n : Rat) * ((Q : Rat) * (Q : Rat)) := by push_cast; rfl
      rw [this, ← e2]
      generalize (itR z k p).2 = y
      generalize (Q : Rat) = q
      grind
    · rw [Int.natAbs_mul, Int.natAbs_natCast]
      have : n.natAbs * (Q * Q) ≤ B * (P.natAbs + Q) ^ k * (Q * Q) := Nat.mul_le_mul_right _ b2
      have h3 : B * (P.natAbs + Q) ^ k * (Q * Q) ≤ B * Q * (P.natAbs + Q) ^ (k + 1) := by
        rw [Nat.pow_succ]
        have : B * (P.natAbs + Q) ^ k * (Q * Q) = B * Q * ((P.natAbs + Q) ^ k * Q) := by grind
        rw [this]
        exact Nat.mul_le_mul_left _ (Nat.mul_le_mul_left _ (Nat.le_add_left _ _))
      omega
    · simp only [itR]
      have : ((P * n - a : Int) : Rat) = (P : Rat) * (n : Rat) - (a : Rat) := by push_cast; rfl
      rw [this, ← e1, ← e2, ← hz]
      generalize (itR z k p).2 = y
      generalize (itR z k p).1 = x
      generalize (Q : Rat) = q
      grind
    · have h3 : (P * n - a).natAbs ≤ P.natAbs * n.natAbs + a.natAbs := by
        have := Int.natAbs_sub_le (P * n) a
        rwa [Int.natAbs_mul] at this
      have h4 : P.natAbs * n.natAbs ≤ P.natAbs * (B * (P.natAbs + Q) ^ k) := Nat.mul_le_mul_left _ b2
      have h5 : P.natAbs * (B * (P.natAbs + Q) ^ k) + B * Q * (P.natAbs + Q) ^ k = B * (P.natAbs + Q) ^ (k + 1) := by
        rw [Nat.pow_succ]
        grind
      omega
theorem nl_pow (M k : Nat) : nl ((M ^ k : Nat) : Int) ≤ 1 + k * nl (M : Int) := by
  induction k with
  | zero => simp; unfold nl; simp; rw [lim_one (by omega) (by omega)]; simp
  | succ k ih =>
    rw [Nat.pow_succ]
    have := nl_mul ((M ^ k : Nat) : Int) (M : Int)
    rw [← Int.natCast_mul] at this
    rw [Nat.succ_mul]
    omega
theorem nl_le_of {a b : Int} (h : a.natAbs ≤ b.natAbs) : nl a ≤ nl b := by
  unfold nl
  exact lim_mono h
theorem nf_of_form {y : Rat} {Q : Nat} {k : Nat} {n : Int} (hQ : 0 < Q) (h : y * (Q : Rat) ^ k = (n : Rat)) : nf y ≤ max (nl n) (nl ((Q ^ k : Nat) : Int)) := by
  have hq : ((Q ^ k : Nat) : Int) ≠ 0 := by
    have := Nat.pow_pos (n := k) hQ
    omega
  have : y = Rat.divInt n ((Q ^ k : Nat) : Int) := by
    have e : Rat.divInt n ((Q ^ k : Nat) : Int) = (n : Rat) / (((Q ^ k : Nat) : Int) : Rat) := Rat.divInt_eq_div _ _
    have hz : (((Q ^ k : Nat) : Int) : Rat) ≠ 0 := by
      intro h0
      exact hq (by exact_mod_cast h0)
    have e2 : (((Q ^ k : Nat) : Int) : Rat) = (Q : Rat) ^ k := by push_cast; rfl
    rw [e, ← h, ← e2]
    generalize (((Q ^ k : Nat) : Int) : Rat) = q at *
    grind
  rw [this]
  exact nf_div _ _ hq
theorem big_of (z : Rat) (p : Rat × Rat) (n : Nat) (P : Int) (Q B : Nat) (hn : n ≤ 4096) (hQ : 0 < Q) (hzf : nf z ≤ 67108864) (hz : z * (Q : Rat) = (P : Rat)) (h1 : ∃ a : Int, p.1 * (Q : Rat) = (a : Rat) ∧ a.natAbs ≤ B * Q) (h2 : ∃ n : Int, p.2 = (n : Rat) ∧ n.natAbs ≤ B)
    (hM : nl ((P.natAbs + Q : Nat) : Int) ≤ 4100) (hB : nl (B : Int) ≤ 4100) : bigR z n p := by
  refine ⟨hzf, fun k hk => ?_⟩
  obtain ⟨a, m, e1, b1, e2, b2⟩ := it_form z p P Q B hz h1 h2 k
  have hQM : nl (Q : Int) ≤ 4100 := Nat.le_trans (nl_le_of (by rw [Int.natAbs_natCast, Int.natAbs_natCast]; omega)) hM
  have p1 := nl_pow (P.natAbs + Q) k
  have p2 := nl_pow Q (k + 1)
  have p3 := nl_pow Q k
  have k1 : k * nl ((P.natAbs + Q : Nat) : Int) ≤ 4096 * 4100 := Nat.mul_le_mul (by omega) hM
  have k2 : (k + 1) * nl (Q : Int) ≤ 4097 * 4100 := Nat.mul_le_mul (by omega) hQM
  have k3 : k * nl (Q : Int) ≤ 4096 * 4100 := Nat.mul_le_mul (by omega) hQM
  have c1 : nl m ≤ nl ((B * (P.natAbs + Q) ^ k : Nat) : Int) := nl_le_of (by rw [Int.natAbs_natCast]; exact b2)
  have c2 : nl a ≤ nl ((B * Q * (P.natAbs + Q) ^ k : Nat) : Int) := nl_le_of (by rw [Int.natAbs_natCast]; exact b1)
  have d1 := nl_mul (B : Int) (((P.natAbs + Q) ^ k : Nat) : Int)
  have d2 := nl_mul (B : Int) (Q : Int)
  have d3 := nl_mul ((B * Q : Nat) : Int) (((P.natAbs + Q) ^ k : Nat) : Int)
  rw [← Int.natCast_mul] at d1 d2 d3
  have f1 := nf_of_form hQ e1
  have f2 := nf_of_form hQ e2
  constructor <;> omega
end Go.Proofs.YtpmfohhpaoagfaaGreat
