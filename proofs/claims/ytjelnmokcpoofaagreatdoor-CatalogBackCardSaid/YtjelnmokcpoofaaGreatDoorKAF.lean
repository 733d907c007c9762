/-
  frac: Make, Of; the law's whole. law01: SameInt. As Free, but an operation may be told to give a value whose blocks are all new: those of two such lie apart. No program. law01: TwinInt, once more: the twin's row and all that is known of it. As Free, but an operation of the front may look at a slot that the tail writes: printed by tools/gen_freet.py. A load of a part of a row, by a law: no program. ratio.Copy once more, its two rows apart; a part in memory of its own (catalog.copied): printed by tools/gen_copy.py. A store into a part of a row, by a law; a load of a part where blocks lie apart (Aloof): no program.
-/
import Derived.Test.YtjelnmokcpoofaaGreatDoorKAE
import Derived.Test.YtjelnmokcpoofaaGreatDoorKAA
import Derived.Test.YtjelnmokcpoofaaGreatDoorKAB
import Derived.Test.YtjelnmokcpoofaaGreatDoorKAD
import Derived.Laws.AppendOwnNone
namespace Go.Proofs.YtjelnmokcpoofaaGreatDoor
set_option maxRecDepth 100000
open Go Go.RowKit Go.Proofs
set_option maxHeartbeats 3200000 in
theorem make_f (v1 v2 : Value) (X Y : Int) (w : World) (hX : nl X ≤ 2048) (hY : nl Y ≤ 2048) (hY0 : Y ≠ 0) (h1 : IntR w v1 X) (h2 : IntR w v2 Y) :
    Calls Tryz.prog 99 #[v1, v2] w fun e w' => ∃ v, e = .returned (.tuple #[v, .int .i64 0]) ∧ Ext w w' ∧ AnyF w' v (some (Rat.divInt X Y)) := by
  have H1 := h1
  have H2 := h2
  have k1 := fun w (h : IntR w v1 X) => check_c v1 _ _ w (by unfold nl at hX; omega) (int_any h)
  have k2 := fun w (h : IntR w v2 Y) => check_c v2 _ _ w (by unfold nl at hY; omega) (int_any h)
  rw [if_pos (good_int hX)] at k1
  rw [if_pos (good_int hY)] at k2
  have ks := fun w (h : IntR w v2 Y) => sign_c v2 Y w h (by omega)
  have lo := fun w h1 h2 => lowest_r v1 v2 X Y w (by omega) (by omega) hY0 h1 h2
  have hq : nf (Rat.divInt X Y) ≤ 2048 := Nat.le_trans (nf_div X Y hY0) (by omega)
  have han := fun v w h => answered_f v (Rat.divInt X Y) w (by omega) h
  simp only [capE, capF, if_pos hq] at han
  have hs : (Y.sign == 0) = false := by
    rw [beq_eq_false_iff_ne]
    intro h
    exact hY0 (Int.sign_eq_zero_iff_zero.1 h)
  generalize Y.sign = S at *
  obtain ⟨p1, q1, r1, s1, rfl⟩ := h1.shape
  obtain ⟨p2, q2, r2, s2, rfl⟩ := h2.shape
  replace k1 := mkHid k1
  replace k2 := mkHid k2
  replace ks := mkHid ks
  replace lo := mkHid lo
  replace han := mkHid han
  replace hq := mkHid hq
  obtain ⟨wb, hwb⟩ : ∃ wb, wb = ((w.alloc (.cells #[.bool p1, .slice q1 r1 s1] 50)).alloc (.cells #[.bool p2, .slice q2 r2 s2] 50)).alloc (.cells #[.bool false, .slice none 0 0, .bool false, .slice none 0 0] 52) := ⟨_, rfl⟩
  have hE : Ext w wb := by rw [hwb]; exact (((Ext.refl w).al _).al _).al _
  have hB0 : wb.heap[w.heap.size]? = some (.cells #[.bool p1, .slice q1 r1 s1] 50) := by rw [hwb]; exact (heap_alloc_old _ _ (by simp <;> omega)).trans ((heap_alloc_old _ _ (by simp <;> omega)).trans (heap_alloc_new _ _))
  have hB1 : wb.heap[w.heap.size + 1]? = some (.cells #[.bool p2, .slice q2 r2 s2] 50) := by rw [hwb]; exact (heap_alloc_old _ _ (by simp <;> omega)).trans (heap_at _ _ _ (by simp))
  have hB2 : wb.heap[w.heap.size + 1 + 1]? = some (.cells #[.bool false, .slice none 0 0, .bool false, .slice none 0 0] 52) := by rw [hwb]; exact heap_at _ _ _ (by simp)
  replace H1 := mkHid (H1.ext hE)
  replace H2 := mkHid (H2.ext hE)
  replace hE := mkHid hE
  replace hB0 := mkHid hB0
  replace hB1 := mkHid hB1
  replace hB2 := mkHid hB2
  replace hwb := mkHid hwb
  clear h1 h2 hY0 hX hY
  go_enter Tryz.func99, Tryz.ntmps99
  go_wp2_with fail
  rw [← hwb.out]
  clear hwb
  refine (k1.out _ H1.out).mono ?_
  rintro e w1 ⟨rfl, hE1⟩
  replace H1 := mkHid (H1.out.ext hE1)
  replace H2 := mkHid (H2.out.ext hE1)
  replace hE := mkHid (hE.out.trans hE1)
  replace hB0 := mkHid (hE1.blk hB0.out)
  replace hB1 := mkHid (hE1.blk hB1.out)
  replace hB2 := mkHid (hE1.blk hB2.out)
  clear hE1
  have c1 := row2_cells hB1.out
  go_wp2_with fail
  refine (k2.out _ H2.out).mono ?_
  rintro e w2 ⟨rfl, hE2⟩
  clear c1
  replace H1 := mkHid (H1.out.ext hE2)
  replace H2 := mkHid (H2.out.ext hE2)
  replace hE := mkHid (hE.out.trans hE2)
  replace hB0 := mkHid (hE2.blk hB0.out)
  replace hB1 := mkHid (hE2.blk hB1.out)
  replace hB2 := mkHid (hE2.blk hB2.out)
  clear hE2
  have c1 := row2_cells hB1.out
  go_wp2_with fail
  refine (ks.out _ H2.out).mono ?_
  rintro e w3 ⟨rfl, hE3⟩
  clear c1
  replace H1 := mkHid (H1.out.ext hE3)
  replace H2 := mkHid (H2.out.ext hE3)
  replace hE := mkHid (hE.out.trans hE3)
  replace hB0 := mkHid (hE3.blk hB0.out)
  replace hB1 := mkHid (hE3.blk hB1.out)
  replace hB2 := mkHid (hE3.blk hB2.out)
  clear hE3
  have c1 := row2_cells hB1.out
  have c0 := row2_cells hB0.out
  go_wp2_with fail
  refine (lo.out _ H1.out H2.out).mono ?_
  rintro e w4 ⟨v, rfl, hE4, hv⟩
  clear c1 c0
  replace H1 := mkHid (H1.out.ext hE4)
  replace H2 := mkHid (H2.out.ext hE4)
  replace hE := mkHid (hE.out.trans hE4)
  replace hB0 := mkHid (hE4.blk hB0.out)
  replace hB1 := mkHid (hE4.blk hB1.out)
  replace hB2 := mkHid (hE4.blk hB2.out)
  clear hE4
  go_wp2_with fail
  refine (han.out _ _ hv).mono ?_
  rintro e w5 ⟨v, rfl, hE5, hv⟩
  replace H1 := mkHid (H1.out.ext hE5)
  replace H2 := mkHid (H2.out.ext hE5)
  replace hE := mkHid (hE.out.trans hE5)
  replace hB0 := mkHid (hE5.blk hB0.out)
  replace hB1 := mkHid (hE5.blk hB1.out)
  replace hB2 := mkHid (hE5.blk hB2.out)
  clear hE5
  obtain ⟨x1, x2, x3, x4, y1, y2, y3, y4, rfl⟩ := hv.shape
  have FR := hv.flat hB2.out (by simp [flatV]) #[.bool x1, .slice x2 x3 x4, .bool y1, .slice y2 y3 y4]
  have FE := hE.out.row (show w.heap.size ≤ w.heap.size + 1 + 1 by omega) #[.bool x1, .slice x2 x3 x4, .bool y1, .slice y2 y3 y4]
  replace FR := mkHid FR
  replace FE := mkHid FE
  clear hv
  go_wp2_with (refine wpList_store_row rfl 52 (.tmp 4) (.tmp 23) rfl (w.heap.size + 1 + 1) #[.bool x1, .slice x2 x3 x4, .bool y1, .slice y2 y3 y4] rfl rfl 52 _ hB2.out (by kernel_rfl) rfl (by kernel_rfl) ?_)
  exact bodyPost_ret (results_row_tmp rfl _ _ (w.heap.size + 1 + 1) 52 #[.bool x1, .slice x2 x3 x4, .bool y1, .slice y2 y3 y4] _ _ rfl rfl (setRow_heap _ _ _ _ _ _ hB2.out) Tryz.underlying52 rfl (by kernel_rfl)) rfl ⟨_, rfl, FE.out, FR.out⟩
theorem nl_i64' {n : Int} (h0 : -9223372036854775808 ≤ n) (h1 : n < 9223372036854775808) : nl n ≤ 2048 := by
  unfold nl
  exact Nat.le_trans (lim_length_le (k := 2) (by omega)) (by omega)
set_option maxHeartbeats 1600000 in
theorem of_f (n d : Int) (w : World) (h0 : -9223372036854775808 ≤ n) (h1 : n < 9223372036854775808) (h2 : -9223372036854775808 ≤ d) (h3 : d < 9223372036854775808) (hd : d ≠ 0) :
    Calls Tryz.prog 59 #[.int .i64 n, .int .i64 d] w fun e w' => ∃ v, e = .returned (.tuple #[v, .int .i64 0]) ∧ Ext w w' ∧ AnyF w' v (some (Rat.divInt n d)) := by
  have o1 := mkHid (fun w => of_c n w h0 h1)
  have o2 := mkHid (fun w => of_c d w h2 h3)
  have mk := mkHid (fun v v' w' k1 k2 => make_f v v' n d w' (nl_i64' h0 h1) (nl_i64' h2 h3) hd k1 k2)
  clear h0 h1 h2 h3 hd
  go_enter Tryz.func59, Tryz.ntmps59
  go_wp2_with fail
  refine (o1.out _).mono ?_
  rintro e w1 ⟨x, rfl, hE1, hx⟩
  have hB := mkHid (hE1.blk (heap_alloc_new _ _))
  replace hE1 := mkHid (((Ext.refl w).al _).trans hE1)
  replace hx := mkHid hx.r
  go_wp2_with fail
  refine (o2.out _).mono ?_
  rintro e w2 ⟨y, rfl, hE2, hy⟩
  replace hx := mkHid (hx.out.ext hE2)
  replace hy := mkHid hy.r
  replace hB := mkHid (hE2.blk hB.out)
  replace hE1 := mkHid (hE1.out.trans hE2)
  clear hE2
  go_wp2_with fail
  refine (mk.out _ _ _ hx.out hy.out).mono ?_
  rintro e w3 ⟨v, rfl, hE3, hv⟩
  obtain ⟨x1, x2, x3, x4, y1, y2, y3, y4, rfl⟩ := hv.shape
  replace hB := hE3.blk hB.out
  have FR := hv.flat hB (by simp [flatV]) #[.bool x1, .slice x2 x3 x4, .bool y1, .slice y2 y3 y4]
  have FE := (hE1.out.trans hE3).row (Nat.le_refl _) #[.bool x1, .slice x2 x3 x4, .bool y1, .slice y2 y3 y4]
  replace FR := mkHid FR
  replace FE := mkHid FE
  clear hv hE3 hE1
  go_wp2_with (refine wpList_store_row rfl 52 (.tmp 4) (.tmp 11) rfl w.heap.size #[.bool x1, .slice x2 x3 x4, .bool y1, .slice y2 y3 y4] rfl rfl 52 _ hB (by kernel_rfl) rfl (by kernel_rfl) ?_)
  exact bodyPost_ret (results_row_tmp rfl _ _ w.heap.size 52 #[.bool x1, .slice x2 x3 x4, .bool y1, .slice y2 y3 y4] _ _ rfl rfl (setRow_heap _ _ _ _ _ _ hB) Tryz.underlying52 rfl (by kernel_rfl)) rfl ⟨_, rfl, FE.out, FR.out⟩
end Go.Proofs.YtjelnmokcpoofaaGreatDoor
namespace Go.Proofs.YtjelnmokcpoofaaGreatDoor
set_option maxRecDepth 100000
open Go Go.RowKit Go.Proofs
theorem eq_of_getD {l m : List Nat} (hl : l.length = m.length) (h : ∀ j, j < l.length → l.getD j 0 = m.getD j 0) : l = m := by
  refine List.ext_getElem hl fun j h1 h2 => ?_
  have := h j h1
  simpa [List.getD_eq_getElem?_getD, h1, h2] using this
set_option maxHeartbeats 3200000 in
theorem sameInt_c (v1 v2 : Value) (b1 b2 : Bool) (l1 l2 : List Nat) (w : World) (hl1 : l1.length ≤ 4294967296) (_hl2 : l2.length ≤ 4294967296) (h1 : AnyR w v1 b1 l1) (h2 : AnyR w v2 b2 l2) :
    Calls Tryz.prog 148 #[v1, v2] w fun e w' => e = .returned (.bool (decide (b1 = b2 ∧ l1 = l2))) ∧ Ext w w' := by
  obtain ⟨a1, c1, rfl, ok1, _, r1⟩ := h1
  obtain ⟨a2, c2, rfl, ok2, _, r2⟩ := h2
  by_cases hb : b1 = b2
  · by_cases hlen : l1.length = l2.length
    · subst hb
      obtain ⟨r, hr⟩ : ∃ r, r = decide (b1 = b1 ∧ l1 = l2) := ⟨_, rfl⟩
      rw [← hr]
      obtain ⟨g1, o1, ha1, hc1⟩ := r1
      obtain ⟨g2, o2, ha2, hc2⟩ := r2
      obtain ⟨n, hn⟩ : ∃ n, n = l1.length := ⟨_, rfl⟩
      have hn2 : n = l2.length := by omega
      have hnb : n ≤ 4294967296 := by omega
      rw [← hn, ← hn2]
      obtain ⟨wb, hwb⟩ : ∃ wb, wb = (w.alloc (.cells #[.bool b1, .slice a1 n c1] 50)).alloc (.cells #[.bool b1, .slice a2 n c2] 50) := ⟨_, rfl⟩
      have hE : Ext w wb := by rw [hwb]; exact ((Ext.refl w).al _).al _
      have z0 : wb.heap[w.heap.size]? = some (.cells #[.bool b1, .slice a1 n c1] 50 (0, 0)) := by rw [hwb]; exact (heap_alloc_old _ _ (by simp)).trans (heap_alloc_new _ _)
      have z1 : wb.heap[w.heap.size + 1]? = some (.cells #[.bool b1, .slice a2 n c2] 50 (0, 0)) := by rw [hwb]; exact heap_at _ _ _ (by simp)
      have y0 := row2_cells z0
      have y1 := row2_cells z1
      replace hwb := mkHid hwb
      replace hr := mkHid hr
      replace hn := mkHid hn
      replace hn2 := mkHid hn2
      replace ha1 := mkHid ha1
      replace ha2 := mkHid ha2
      replace hc1 := mkHid hc1
      replace hc2 := mkHid hc2
      replace hE := mkHid hE
      clear hlen z0 z1
      go_enter Tryz.func148, Tryz.ntmps148
      go_wp2_with fail
      rw [← hwb.out]
      obtain ⟨wo, hwo⟩ : ∃ wo : World, wo = wb := ⟨_, rfl⟩
      go_loopw [5] (fun i wr => ∃ k, k ≤ n ∧ i = .int .i64 (k : Nat) ∧ Ext wo wr ∧ ∀ j, j < k → l1.getD j 0 = l2.getD j 0) (fun i _ => n - (intOf i).toNat)
      case atStart => exact ⟨0, Nat.zero_le _, rfl, hwo ▸ Ext.refl _, fun j hj => absurd hj (by omega)⟩
      case round =>
        obtain ⟨k, hk, rfl, hX, hj⟩ := hrel
        have x0 := (hwo ▸ hX : Ext wb wr).cell y0.2
        have x1 := (hwo ▸ hX : Ext wb wr).cell y1.2
        have hEw : Ext w wr := hE.out.trans (hwo ▸ hX)
        clear y0 y1
        by_cases hlt : k < n
        · have u1 : k < l1.length := by rw [← hn.out]; exact hlt
          have u2 : k < l2.length := by rw [← hn2.out]; exact hlt
          have e1 : wr.cell? ⟨g1, o1 + k, none⟩ = some (.int .u32 (l1.getD k 0 : Nat)) := by
            have := hEw.cell (hc1.out k (by rw [limV_length]; exact u1))
            rwa [limV_getD _ _ u1] at this
          have e2 : wr.cell? ⟨g2, o2 + k, none⟩ = some (.int .u32 (l2.getD k 0 : Nat)) := by
            have := hEw.cell (hc2.out k (by rw [limV_length]; exact u2))
            rwa [limV_getD _ _ u2] at this
          have q1 := ha1.out (limV_ne u1)
          have q2 := ha2.out (limV_ne u2)
          subst q1
          subst q2
          have hne : l1.getD k 0 ≠ l2.getD k 0 → r = false := by
            intro h
            rw [hr.out]
            refine decide_eq_false (fun e => h (by rw [e.2]))
          have hs : ∀ j, j < k + 1 → l1.getD k 0 = l2.getD k 0 → l1.getD j 0 = l2.getD j 0 := by
            intro j h e
            rcases Nat.lt_or_ge j k with h1 | h1
            · exact hj j h1
            · obtain rfl : j = k := by omega
              exact e
          generalize l1.getD k 0 = x at *
          generalize l2.getD k 0 = y at *
          replace hs := mkHid hs
          replace hne := mkHid hne
          replace hEw := mkHid hEw
          replace hX := mkHid hX
          clear hj u1 u2 hc1 hc2 ha1 ha2
          by_cases hxy : x = y
          · subst hxy
            go_wp2_with fail
            go_quiet (fail)
            go_wp2_with fail
            go_roundw
            case rel => exact ⟨k + 1, by omega, by go_num, hX.out.drN _, fun j h => hs.out j h (by trivial)⟩
            case measure => simp [intOf] <;> omega
          · have hb1 : ((x : Int) == (y : Int)) = false := by rw [beq_eq_false_iff_ne]; omega
            obtain rfl := hne.out hxy
            replace hxy := mkHid hxy
            go_wp2_with fail
            go_quiet (fail)
            go_wp2_with fail
            go_ret
            exact ⟨rfl, hEw.out.drN _⟩
        · obtain rfl : n = k := by omega
          have hrt : r = true := by
            rw [hr.out]
            exact decide_eq_true ⟨by trivial, eq_of_getD (by rw [← hn.out, ← hn2.out]) (fun j h => hj j (by rw [hn.out]; exact h))⟩
          subst hrt
          replace hEw := mkHid hEw
          clear hj hX
          go_wp2_with fail
          go_ret
          exact ⟨rfl, hEw.out⟩
    · have hf : decide (b1 = b2 ∧ l1 = l2) = false := decide_eq_false (fun h => hlen (by rw [h.2]))
      rw [hf]
      have hl : ((l1.length : Int) == (l2.length : Int)) = false := by rw [beq_eq_false_iff_ne]; omega
      subst hb
      clear hf r1 r2
      generalize l1.length = n1 at *
      generalize l2.length = n2 at *
      replace hlen := mkHid hlen
      go_enter Tryz.func148, Tryz.ntmps148
      go_wp2_with fail
      go_ret
      exact ⟨rfl, ((Ext.refl _).al _).al _⟩
  · have hf : decide (b1 = b2 ∧ l1 = l2) = false := decide_eq_false (fun h => hb h.1)
    rw [hf]
    have hbb : (b1 == b2) = false := by rw [beq_eq_false_iff_ne]; exact hb
    clear hf r1 r2
    generalize l1.length = n1 at *
    generalize l2.length = n2 at *
    replace hb := mkHid hb
    go_enter Tryz.func148, Tryz.ntmps148
    go_wp2_with fail
    go_ret
    exact ⟨rfl, ((Ext.refl _).al _).al _⟩
end Go.Proofs.YtjelnmokcpoofaaGreatDoor
namespace Go.Proofs.YtjelnmokcpoofaaGreatDoor.Aloof
set_option maxRecDepth 100000
open Go Go.RowKit Go.Proofs
/-- The blocks that a value leads to. -/
def blk1 : Value → Option Nat
  | .slice (some a) _ _ => some a.block
  | _ => none
def blks (v : Value) : List Nat := v.cells.toList.filterMap blk1
inductive FSpec where
  | val (c : Value)
  | pred (Φ : World → Value → Prop)
  | fresh (Φ : World → Value → Prop)
def FSpec.ok : FSpec → World → Value → Prop
  | .val c, _, v => v = c
  | .pred Φ, W, v => Φ W v
  | .fresh Φ, W, v => Φ W v ∧ ∀ g ∈ blks v, g < W.heap.size
def FSpec.isFresh : FSpec → Bool
  | .fresh _ => true
  | _ => false
/-- What an operation gives. -/
def givesV (P : Program) (S : World → Value → Prop) : Result Next → Prop
  | .ok (.value v) w => S w v
  | .ok .skip w => S w undef
  | .ok (.enter f args) w => Calls P f args w fun e w' => ∃ v, e = .returned v ∧ S w' v
  | _ => False
@[go_sem] theorem givesV_value (P : Program) (S : World → Value → Prop) (v : Value) (w : World) : givesV P S (.ok (.value v) w) = S w v := rfl
@[go_sem] theorem givesV_skip (P : Program) (S : World → Value → Prop) (w : World) : givesV P S (.ok .skip w) = S w undef := rfl
@[go_sem] theorem givesV_enter (P : Program) (S : World → Value → Prop) (f : FuncId) (args : Array Value) (w : World) : givesV P S (.ok (.enter f args) w) = Calls P f args w fun e w' => ∃ v, e = .returned v ∧ S w' v := rfl
theorem upon_of_gives {P : Program} {S : World → Value → Prop} {o : Oper} {a : Act} {K : Act → World → Prop} {Q : Exit → Act → World → Prop} {r : Result Next}
    (h : givesV P S r) (hK : ∀ w v, S w v → K (a.put o.dst v) w) : o.upon P a K Q r := by
  unfold givesV at h
  split at h
  · exact hK _ _ h
  · exact hK _ _ h
  · refine Calls.mono h fun e w' he => ?_
    obtain ⟨v, rfl, hs⟩ := he
    exact hK _ _ hs
  · exact h.elim
/-- Is the j-th operation one on which the k-th leans by a temporary? -/
def leans (l : List Oper) (o : Oper) (j : Nat) : Bool :=
  match (l[j]?).bind (·.dst) with
  | some d => (o.looksAt l.toArray).contains d
  | none => false
/-- What is known of the values so far, the latest first. -/
def factsHold (sel : Nat → Bool) (W : World) : List (Nat × FSpec × Value) → Prop
  | [] => True
  | p :: F => (sel p.1 = true → p.2.1.ok W p.2.2) ∧ factsHold sel W F
theorem factsHold_of {sel : Nat → Bool} {W : World} : ∀ {F : List (Nat × FSpec × Value)}, (∀ p ∈ F, sel p.1 = true → p.2.1.ok W p.2.2) → factsHold sel W F
  | [], _ => trivial
  | p :: _, h => ⟨h p (List.mem_cons_self ..), factsHold_of fun q hq => h q (List.mem_cons_of_mem _ hq)⟩
def freeSteps (P : Program) (l0 : List Oper) (R : World → World → Prop) (w0 : World) (Q : Exit → Act → World → Prop) : Nat → List FSpec → List Oper → Act → List (Nat × FSpec × Value) → Prop
  | _, [], l, a, F => ∀ W, R w0 W → factsHold (fun _ => true) W F → (∀ p q, p ∈ F → q ∈ F → p.2.1.isFresh = true → q.2.1.isFresh = true → p.1 ≠ q.1 → ∀ g ∈ blks p.2.2, g ∉ blks q.2.2) → wpList P l0.toArray Q l a W
  | _, _ :: _, [], _, _ => False
  | k, .val c :: ss, o :: l, a, F =>
    (∀ W, R w0 W → factsHold (leans l0 o) W F → if Region.wanted o (yielded l0.toArray a.tmps) then givesV P (fun W' v => R W W' ∧ v = c) ((execOp a.eval o).run P W) else undef = c) ∧
      freeSteps P l0 R w0 Q (k + 1) ss l (a.put o.dst c) F
  | k, .pred Φ :: ss, o :: l, a, F =>
    (∀ W, R w0 W → factsHold (leans l0 o) W F → if Region.wanted o (yielded l0.toArray a.tmps) then givesV P (fun W' v => R W W' ∧ Φ W' v) ((execOp a.eval o).run P W) else Φ W undef) ∧
      ∀ v, freeSteps P l0 R w0 Q (k + 1) ss l (a.put o.dst v) ((k, .pred Φ, v) :: F)
  | k, .fresh Φ :: ss, o :: l, a, F =>
    (∀ W, R w0 W → factsHold (leans l0 o) W F → if Region.wanted o (yielded l0.toArray a.tmps) then givesV P (fun W' v => R W W' ∧ Φ W' v ∧ ∀ g ∈ blks v, W.heap.size ≤ g ∧ g < W'.heap.size) ((execOp a.eval o).run P W) else False) ∧
      ∀ v, freeSteps P l0 R w0 Q (k + 1) ss l (a.put o.dst v) ((k, .fresh Φ, v) :: F)
/-- Edges that bind, to an operation. -/
def hasEdge (o : Oper) (j : Nat) : Bool := o.after.toList.any fun e => Region.binds .any e && e.on == j
def ancB (l : List Oper) : Nat → Oper → Nat → Bool
  | 0, o, j => hasEdge o j
  | f + 1, o, j => hasEdge o j || o.after.toList.any fun e => Region.binds .any e && (match l[e.on]? with | some o' => ancB l f o' j | none => false)
def okOper (l : List Oper) (n i : Nat) (o : Oper) : Bool :=
  (o.after.toList.all fun e => !Region.binds .any e || decide (e.on < i)) &&
  (if i < n then
    o.dst.isSome && (List.range l.length).all fun j => match l[j]? with
      | some oj => (match oj.dst with
        | some d => (!(o.looksAt l.toArray).contains d || (decide (j < i) && hasEdge o j)) && (j == i || o.dst != some d)
        | none => true)
      | none => true
  else (List.range i).all fun j => ancB l 16 o j)
def okFree (n size : Nat) (l : List Oper) : Bool :=
  Region.noSelect l.toArray && decide (n ≤ l.length) && (l.all fun o => match o.dst with | some d => decide (d < size) | none => true) &&
    (List.range l.length).all fun i => match l[i]? with | some o => okOper l n i o | none => true
section
variable {P : Program} {l0 : List Oper} {R : World → World → Prop} {w0 : World} {Q : Exit → Act → World → Prop}
/-- The frame behind the first operations, lexically. -/
def frameAt (a0 : Act) (l : List Oper) (vs : Nat → Value) : Nat → Act
  | 0 => a0
  | k + 1 => match l[k]? with
    | some o => (frameAt a0 l vs k).put o.dst (vs k)
    | none => frameAt a0 l vs k
def factsAt (specs : List FSpec) (vs : Nat → Value) : Nat → List (Nat × FSpec × Value)
  | 0 => []
  | k + 1 => match specs[k]? with
    | some (.pred Φ) => (k, .pred Φ, vs k) :: factsAt specs vs k
    | some (.fresh Φ) => (k, .fresh Φ, vs k) :: factsAt specs vs k
    | _ => factsAt specs vs k
/-- Values that agree with what is known outright. -/
def fits (specs : List FSpec) (vs : Nat → Value) : Prop := ∀ k c, specs[k]? = some (.val c) → vs k = c
theorem steps_at {specs : List FSpec} {a0 : Act} (h : freeSteps P l0 R w0 Q 0 specs l0 a0 []) (vs : Nat → Value) (hv : fits specs vs) :
    ∀ k, k ≤ specs.length → freeSteps P l0 R w0 Q k (specs.drop k) (l0.drop k) (frameAt a0 l0 vs k) (factsAt specs vs k) := by
  intro k
  induction k with
  | zero => intro _; simpa [frameAt, factsAt] using h
  | succ k ih =>
    intro hk
    have ih := ih (by omega)
    rw [List.drop_eq_getElem_cons (show k < specs.length by omega)] at ih
    have hs : specs[k]? = some specs[k] := List.getElem?_eq_getElem (by omega)
    by_cases hl : k < l0.length
    · rw [List.drop_eq_getElem_cons hl] at ih
      have ho : l0[k]? = some l0[k] := List.getElem?_eq_getElem hl
      generalize hsp : specs[k] = s at ih hs
      cases s with
      | val c =>
        have hc := hv k c hs
        simp only [freeSteps] at ih
        simp only [frameAt, ho, factsAt, hs, hc]
        exact ih.2
      | pred Φ =>
        simp only [freeSteps] at ih
        simp only [frameAt, ho, factsAt, hs]
        exact ih.2 (vs k)
      | fresh Φ =>
        simp only [freeSteps] at ih
        simp only [frameAt, ho, factsAt, hs]
        exact ih.2 (vs k)
    · rw [List.drop_eq_nil_of_le (show l0.length ≤ k by omega)] at ih
      simp [freeSteps] at ih
theorem frameAt_defers (a0 : Act) (l : List Oper) (vs : Nat → Value) (k : Nat) : (frameAt a0 l vs k).defers = a0.defers := by
  induction k with
  | zero => rfl
  | succ k ih =>
    simp only [frameAt]
    split
    · rename_i o _
      cases h : o.dst <;> simp [Act.put, ih]
    · exact ih
theorem frameAt_size (a0 : Act) (l : List Oper) (vs : Nat → Value) (k : Nat) : (frameAt a0 l vs k).tmps.size = a0.tmps.size := by
  induction k with
  | zero => rfl
  | succ k ih =>
    simp only [frameAt]
    split
    · rename_i o _
      cases h : o.dst <;> simp [Act.put, ih]
    · exact ih
theorem frameAt_other (a0 : Act) (l : List Oper) (vs : Nat → Value) (k t : Nat) (h : ∀ j o, j < k → l[j]? = some o → o.dst ≠ some t) :
    (frameAt a0 l vs k).tmps[t]? = a0.tmps[t]? := by
  induction k with
  | zero => rfl
  | succ k ih =>
    have ih := ih fun j o hj => h j o (by omega)
    simp only [frameAt]
    split
    · rename_i o ho
      have := h k o (by omega) ho
      cases hd : o.dst with
      | none => simpa [Act.put, hd] using ih
      | some d =>
        have hne : d ≠ t := fun e => this (by rw [hd, e])
        simp only [Act.put, Array.getElem?_setIfInBounds_ne hne]
        exact ih
    · exact ih
theorem frameAt_own (a0 : Act) (l : List Oper) (vs : Nat → Value) (k t j : Nat) (o : Oper) (hj : j < k) (ho : l[j]? = some o) (hd : o.dst = some t) (ht : t < a0.tmps.size)
    (h : ∀ i o', i ≠ j → l[i]? = some o' → o'.dst ≠ some t) : (frameAt a0 l vs k).tmps[t]? = some (vs j) := by
  induction k with
  | zero => omega
  | succ k ih =>
    simp only [frameAt]
    by_cases hjk : j = k
    · subst hjk
      rw [ho]
      simp only [Act.put, hd]
      rw [Array.getElem?_setIfInBounds_self_of_lt (by rw [frameAt_size]; exact ht)]
    · have ih := ih (by omega)
      split
      · rename_i o' ho'
        have := h k o' (fun e => hjk e.symm) ho'
        cases hd' : o'.dst with
        | none => simpa [Act.put, hd'] using ih
        | some d =>
          have hne : d ≠ t := fun e => this (by rw [hd', e])
          simp only [Act.put, Array.getElem?_setIfInBounds_ne hne]
          exact ih
      · exact ih
theorem mem_factsAt {specs : List FSpec} {vs : Nat → Value} {k : Nat} {p : Nat × FSpec × Value} (h : p ∈ factsAt specs vs k) : p.1 < k ∧ specs[p.1]? = some p.2.1 ∧ p.2.2 = vs p.1 := by
  induction k with
  | zero => simp [factsAt] at h
  | succ k ih =>
    simp only [factsAt] at h
    split at h
    · rename_i Φ hs
      rcases List.mem_cons.1 h with h | h
      · subst h
        exact ⟨by simp, hs, rfl⟩
      · have := ih h
        exact ⟨by omega, this.2⟩
    · rename_i Φ hs
      rcases List.mem_cons.1 h with h | h
      · subst h
        exact ⟨by simp, hs, rfl⟩
      · have := ih h
        exact ⟨by omega, this.2⟩
    · have := ih h
      exact ⟨by omega, this.2⟩
theorem filter_le {p q : Nat → Bool} : ∀ (l : List Nat), (∀ x ∈ l, q x = true → p x = true) → (l.filter q).length ≤ (l.filter p).length
  | [], _ => Nat.le_refl _
  | x :: l, h => by
    have ih := filter_le l fun y hy => h y (List.mem_cons_of_mem _ hy)
    by_cases hq : q x = true
    · simp [hq, h x (List.mem_cons_self ..) hq, ih]
    · by_cases hp : p x = true
      · simp [hq, hp]; omega
      · simp [hq, hp, ih]
theorem filter_lt {p q : Nat → Bool} {i : Nat} : ∀ (l : List Nat), (∀ x ∈ l, q x = true → p x = true) → i ∈ l → p i = true → q i = false → (l.filter q).length < (l.filter p).length
  | x :: l, h, hi, hp, hq => by
    have hl := filter_le l fun y hy => h y (List.mem_cons_of_mem _ hy)
    by_cases hx : x = i
    · subst hx
      simp [hp, hq]
      omega
    · have hi' : i ∈ l := by
        rcases List.mem_cons.1 hi with e | e
        · exact absurd e.symm hx
        · exact e
      have ih := filter_lt l (fun y hy => h y (List.mem_cons_of_mem _ hy)) hi' hp hq
      by_cases hqx : q x = true
      · simp [hqx, h x (List.mem_cons_self ..) hqx, ih]
      · by_cases hpx : p x = true
        · simp [hqx, hpx]; omega
        · simp [hqx, hpx, ih]
/-- How many are still to come. -/
def left (l : List Oper) (listed : Array Bool) : Nat := ((List.range l.length).filter fun i => !listed.getD i true).length
theorem left_set {l : List Oper} {listed : Array Bool} {i : Nat} (hi : i < l.length) (h : listed.getD i true = false) : left l (listed.setIfInBounds i true) < left l listed := by
  refine filter_lt _ (fun x _ hx => ?_) (List.mem_range.2 hi) (by simpa using h) ?_
  · by_cases e : i = x
    · subst e; simpa using h
    · rwa [getD_set_ne true e] at hx
  · have hlt : i < listed.size := by
      rcases Nat.lt_or_ge i listed.size with h' | h'
      · exact h'
      · simp [Array.getElem?_eq_none h'] at h
    simp [hlt]
theorem left_ge {l : List Oper} {listed : Array Bool} {n : Nat} (h : ∀ i, n ≤ i → i < l.length → listed.getD i true = false) : l.length - n ≤ left l listed := by
  unfold left
  generalize l.length = L at h
  induction L with
  | zero => simp
  | succ L ih =>
    have ih := ih fun i h1 h2 => h i h1 (by omega)
    rw [List.range_succ, List.filter_append, List.length_append]
    by_cases hn : n ≤ L
    · have := h L hn (by omega)
      have e : ([L].filter fun i => !listed.getD i true) = [L] := List.filter_eq_self.2 fun x hx => by
        simp only [List.mem_singleton] at hx
        rw [hx, this]; rfl
      rw [e, List.length_singleton]
      omega
    · omega
theorem lt_of_unlisted {listed : Array Bool} {i : Nat} (h : listed.getD i true = false) : i < listed.size := by
  rcases Nat.lt_or_ge i listed.size with h' | h'
  · exact h'
  · simp [Array.getElem?_eq_none h'] at h
theorem listed_cases {listed : Array Bool} {i : Nat} (h : i < listed.size) : listed.getD i false = true ∨ listed.getD i true = false := by
  simp [h]
/-- What the ancestors of a ready operation are: all listed. -/
theorem listed_anc {listed : Array Bool} (hcl : ∀ i o, listed.getD i false = true → l0[i]? = some o → ∀ e ∈ o.after, Region.binds .any e = true → listed.getD e.on false = true) :
    ∀ (f : Nat) (o : Oper) (j : Nat), (∀ e ∈ o.after, Region.binds .any e = true → listed.getD e.on false = true) → ancB l0 f o j = true → listed.getD j false = true := by
  have direct : ∀ (o : Oper) (j : Nat), (∀ e ∈ o.after, Region.binds .any e = true → listed.getD e.on false = true) → hasEdge o j = true → listed.getD j false = true := by
    intro o j h he
    simp only [hasEdge, List.any_eq_true, Bool.and_eq_true, beq_iff_eq] at he
    obtain ⟨e, hm, hb, rfl⟩ := he
    exact h e (Array.mem_toList_iff.1 hm) hb
  intro f
  induction f with
  | zero => intro o j h ha; exact direct o j h ha
  | succ f ih =>
    intro o j h ha
    simp only [ancB, Bool.or_eq_true] at ha
    rcases ha with ha | ha
    · exact direct o j h ha
    · simp only [List.any_eq_true, Bool.and_eq_true] at ha
      obtain ⟨e, hm, hb, ha⟩ := ha
      split at ha
      · rename_i o' ho'
        exact ih o' j (hcl e.on o' (h e (Array.mem_toList_iff.1 hm) hb) ho') ha
      · cases ha
theorem tail_forced {n : Nat} (htail : ∀ i o, n ≤ i → l0[i]? = some o → ∀ j, j < i → ancB l0 16 o j = true) :
    ∀ (k m : Nat) (listed : Array Bool) (a : Act) (W : World) (fuel : Nat), n ≤ m → m + k = l0.length → k ≤ fuel → listed.size = l0.length →
      (∀ i o, listed.getD i false = true → l0[i]? = some o → ∀ e ∈ o.after, Region.binds .any e = true → listed.getD e.on false = true) →
      (∀ i, i < l0.length → (listed.getD i false = true ↔ i < m)) →
      (∀ i o, l0[i]? = some o → ∀ e ∈ o.after, Region.binds .any e = true → e.on < i) →
      wpList P l0.toArray Q (l0.drop m) a W → wpAny P .any l0.toArray Q fuel listed a W := by
  intro k
  induction k with
  | zero =>
    intro m listed a W fuel _ hmk _ hsz _ hlst _ h
    have hr : Region.ready .any l0.toArray listed = [] := by
      cases hr : Region.ready .any l0.toArray listed with
      | nil => rfl
      | cons i r =>
        have := (mem_ready (md := .any) (ops := l0.toArray) (listed := listed) (j := i)).1 (by rw [hr]; simp)
        have hlt := lt_of_unlisted this.1
        have h2 := (hlst i (by omega)).2 (by omega)
        have h3 := this.1
        simp [hlt] at h2 h3
        rw [h2] at h3
        cases h3
    rw [List.drop_eq_nil_of_le (show l0.length ≤ m by omega)] at h
    exact wpAny_done hr h fuel
  | succ k ih =>
    intro m listed a W fuel hnm hmk hfuel hsz hcl hlst hed h
    obtain ⟨fuel, rfl⟩ : ∃ f, fuel = f + 1 := ⟨fuel - 1, by omega⟩
    have hml : m < l0.length := by omega
    have ho : l0[m]? = some l0[m] := List.getElem?_eq_getElem hml
    have hun : listed.getD m true = false := by
      rcases listed_cases (listed := listed) (i := m) (by omega) with h1 | h1
      · have := (hlst m hml).1 h1; omega
      · exact h1
    have hready : m ∈ Region.ready .any l0.toArray listed := by
      rw [mem_ready]
      exact ⟨hun, _, by simp [hml], fun e he hb => (hlst e.on (by have := hed m _ ho e he hb; omega)).2 (hed m _ ho e he hb)⟩
    refine ⟨fun h0 => absurd (h0 ▸ hready) (by simp), fun i hi => ?_⟩
    have him : i = m := by
      obtain ⟨h1, o, ho', hall⟩ := mem_ready.1 hi
      have hlt := lt_of_unlisted h1
      rcases Nat.lt_trichotomy i m with hlt' | he | hgt
      · have h2 := (hlst i (by omega)).2 hlt'
        simp [hlt] at h1 h2
        rw [h2] at h1; cases h1
      · exact he
      · have ho'' : l0[i]? = some o := by simpa using ho'
        have := listed_anc hcl 16 o m hall (htail i o (by omega) ho'' m hgt)
        have := (hlst m hml).1 this
        omega
    subst him
    unfold wpOp
    simp only [List.getElem?_toArray, ho]
    rw [List.drop_eq_getElem_cons hml] at h
    simp only [wpList] at h
    have next : ∀ a' W', wpList P l0.toArray Q (l0.drop (i + 1)) a' W' → wpAny P .any l0.toArray Q fuel (listed.setIfInBounds i true) a' W' := by
      intro a' W' h'
      refine ih (i + 1) _ a' W' fuel (by omega) (by omega) (by omega) (by simpa using hsz) ?_ ?_ hed h'
      · intro j o hj hoj e he hb
        by_cases hij : i = j
        · subst hij
          rw [ho] at hoj
          cases hoj
          exact getD_set_true ((hlst e.on (by have := hed i _ ho e he hb; omega)).2 (hed i _ ho e he hb))
        · rw [getD_set_ne false hij] at hj
          exact getD_set_true (hcl j o hj hoj e he hb)
      · intro j hj
        by_cases hij : i = j
        · subst hij
          simp [show i < listed.size by omega]
        · rw [getD_set_ne false hij, hlst j hj]
          omega
    split
    · rename_i hw
      rw [if_pos hw] at h
      exact h.imp (Oper.wp_mono next) id
    · rename_i hw
      rw [if_neg hw] at h
      exact next _ _ h
structure OkSpec (l : List Oper) (n size : Nat) : Prop where
  sel : ∀ (j : Nat) (o : Oper) cs b, l[j]? = some o → o.op ≠ .select cs b
  len : n ≤ l.length
  dst : ∀ (j : Nat) (o : Oper) (d : Tmp), l[j]? = some o → o.dst = some d → d < size
  edge : ∀ (i : Nat) (o : Oper), l[i]? = some o → ∀ e ∈ o.after, Region.binds .any e = true → e.on < i
  has : ∀ (i : Nat) (o : Oper), i < n → l[i]? = some o → o.dst.isSome = true
  look : ∀ (i : Nat) (o : Oper) (j : Nat) (oj : Oper) (d : Tmp), i < n → l[i]? = some o → l[j]? = some oj → oj.dst = some d → d ∈ o.looksAt l.toArray → j < i ∧ hasEdge o j = true
  one : ∀ (i : Nat) (o : Oper) (j : Nat) (oj : Oper) (d : Tmp), i < n → l[i]? = some o → l[j]? = some oj → oj.dst = some d → i ≠ j → o.dst ≠ some d
  tail : ∀ (i : Nat) (o : Oper), n ≤ i → l[i]? = some o → ∀ j, j < i → ancB l 16 o j = true
theorem okFree_spec {n size : Nat} {l : List Oper} (h : okFree n size l = true) : OkSpec l n size := by
  simp only [okFree, Bool.and_eq_true, decide_eq_true_eq, List.all_eq_true, List.mem_range] at h
  obtain ⟨⟨⟨h1, h2⟩, h3⟩, h4⟩ := h
  have at_ : ∀ i o, l[i]? = some o → okOper l n i o = true := by
    intro i o ho
    have := h4 i (List.getElem?_eq_some_iff.1 ho).1
    rwa [ho] at this
  refine ⟨fun j o cs b hj => Region.noSelect_spec h1 j o cs b (by simpa using hj), h2, ?_, ?_, ?_, ?_, ?_, ?_⟩
  · intro j o d ho hd
    have := h3 o (List.mem_of_getElem? ho)
    simpa [hd] using this
  · intro i o ho e he hb
    have := at_ i o ho
    simp only [okOper, Bool.and_eq_true, List.all_eq_true, Bool.or_eq_true, Bool.not_eq_true', decide_eq_true_eq] at this
    have := this.1 e (Array.mem_toList_iff.2 he)
    rcases this with h | h
    · rw [h] at hb; cases hb
    · exact h
  · intro i o hi ho
    have := at_ i o ho
    simp only [okOper, Bool.and_eq_true, if_pos hi] at this
    exact this.2.1
  · intro i o j oj d hi ho hj hd hm
    have := at_ i o ho
    simp only [okOper, Bool.and_eq_true, if_pos hi, List.all_eq_true, List.mem_range] at this
    have := this.2.2 j (List.getElem?_eq_some_iff.1 hj).1
    simp only [hj, hd, Bool.and_eq_true, Bool.or_eq_true, Bool.not_eq_true', decide_eq_true_eq] at this
    rcases this.1 with h | h
    · have := List.contains_iff_mem.2 hm
      rw [h] at this; cases this
    · exact h
  · intro i o j oj d hi ho hj hd hne
    have := at_ i o ho
    simp only [okOper, Bool.and_eq_true, if_pos hi, List.all_eq_true, List.mem_range] at this
    have := this.2.2 j (List.getElem?_eq_some_iff.1 hj).1
    simp only [hj, hd, Bool.and_eq_true, Bool.or_eq_true, beq_iff_eq, bne_iff_ne, ne_eq] at this
    rcases this.2 with h | h
    · exact absurd h.symm hne
    · exact h
  · intro i o hi ho j hj
    have := at_ i o ho
    simp only [okOper, Bool.and_eq_true, if_neg (Nat.not_lt.2 hi), List.all_eq_true, List.mem_range] at this
    exact this.2 j hj
/-- Where a region stands, whatever came first. -/
structure Midway (l : List Oper) (specs : List FSpec) (R : World → World → Prop) (w0 : World) (a0 : Act) (listed : Array Bool) (a : Act) (W : World) : Prop where
  size : listed.size = l.length
  rel : R w0 W
  defers : a.defers = a0.defers
  tsize : a.tmps.size = a0.tmps.size
  closed : ∀ (i : Nat) (o : Oper), listed.getD i false = true → l[i]? = some o → ∀ e ∈ o.after, Region.binds .any e = true → listed.getD e.on false = true
  other : ∀ (t : Tmp), (∀ (j : Nat) (o : Oper), l[j]? = some o → listed.getD j false = true → o.dst ≠ some t) → a.tmps[t]? = a0.tmps[t]?
  fact : ∀ (j : Nat) (o : Oper) (d : Tmp) (s : FSpec), listed.getD j false = true → l[j]? = some o → o.dst = some d → specs[j]? = some s → s.ok W (a.tmps.getD d undef)
  late : ∀ (j : Nat), specs.length ≤ j → listed.getD j false = false
  apart : ∀ (i j : Nat) (oi oj : Oper) (di dj : Tmp) (si sj : FSpec), i ≠ j → listed.getD i false = true → listed.getD j false = true → l[i]? = some oi → l[j]? = some oj → oi.dst = some di → oj.dst = some dj →
    specs[i]? = some si → specs[j]? = some sj → si.isFresh = true → sj.isFresh = true → ∀ g ∈ blks (a.tmps.getD di undef), g ∉ blks (a.tmps.getD dj undef)
/-- The values so far. -/
def valuesOf (l : List Oper) (specs : List FSpec) (a : Act) (j : Nat) : Value :=
  match specs[j]? with
  | some (.val c) => c
  | _ => match (l[j]?).bind (·.dst) with
    | some d => a.tmps.getD d undef
    | none => undef
theorem valuesOf_fits (l : List Oper) (specs : List FSpec) (a : Act) : fits specs (valuesOf l specs a) := by
  intro k c h
  simp [valuesOf, h]
theorem Midway.value {specs : List FSpec} {a0 a : Act} {listed : Array Bool} {W : World} (m : Midway l0 specs R w0 a0 listed a W) {j : Nat} {o : Oper} {d : Tmp} (hj : listed.getD j false = true) (ho : l0[j]? = some o) (hd : o.dst = some d) :
    a.tmps.getD d undef = valuesOf l0 specs a j := by
  have hlt : j < specs.length := by
    rcases Nat.lt_or_ge j specs.length with h | h
    · exact h
    · rw [m.late j h] at hj; cases hj
  have hs : specs[j]? = some specs[j] := List.getElem?_eq_getElem hlt
  have := m.fact j o d _ hj ho hd hs
  generalize specs[j] = s at this hs
  cases s with
  | val c => simp only [FSpec.ok] at this; simp [valuesOf, hs, this]
  | pred Φ => simp [valuesOf, hs, ho, hd]
  | fresh Φ => simp [valuesOf, hs, ho, hd]
theorem Midway.tmp {specs : List FSpec} {a0 a : Act} {listed : Array Bool} {W : World} (m : Midway l0 specs R w0 a0 listed a W) (ok : OkSpec l0 specs.length a0.tmps.size) (k t : Nat) (hk : k ≤ specs.length)
    (h : ∀ (j : Nat) (oj : Oper), l0[j]? = some oj → oj.dst = some t → j < k ∧ listed.getD j false = true) : (frameAt a0 l0 (valuesOf l0 specs a) k).tmps[t]? = a.tmps[t]? := by
  by_cases hex : ∃ (j : Nat) (oj : Oper), l0[j]? = some oj ∧ oj.dst = some t
  · obtain ⟨j, oj, hj, hd⟩ := hex
    obtain ⟨hjk, hlj⟩ := h j oj hj hd
    have ht := ok.dst j oj t hj hd
    rw [frameAt_own a0 l0 _ k t j oj hjk hj hd ht fun i o' hne ho' hd' => by
      rcases Nat.lt_or_ge i specs.length with hi | hi
      · exact ok.one i o' j oj t hi ho' hj hd hne hd'
      · exact ok.one j oj i o' t (by omega) hj ho' hd' (Ne.symm hne) hd]
    rw [← m.value hlj hj hd]
    have : t < a.tmps.size := by rw [m.tsize]; exact ht
    simp [this]
  · rw [frameAt_other a0 l0 _ k t fun j o _ ho hd => hex ⟨j, o, ho, hd⟩, m.other t fun j o ho _ hd => hex ⟨j, o, ho, hd⟩]
theorem eval_of_tmps {a b : Act} (o : Oper) (hs : ∀ cs b, o.op ≠ .select cs b) (h : ∀ t, t ∈ o.looksAt l0.toArray → a.tmps[t]? = b.tmps[t]?) : execOp a.eval o = execOp b.eval o := by
  refine execOp_congr o hs fun x hx => ?_
  cases x with
  | tmp t =>
    have := h t (List.mem_append_left _ (List.mem_filterMap.2 ⟨.tmp t, by simpa using hx, rfl⟩))
    simp [Act.eval, this]
  | _ => rfl
theorem wanted_of_tmps {a b : Act} (o : Oper) (h : ∀ t, t ∈ o.looksAt l0.toArray → a.tmps[t]? = b.tmps[t]?) : Region.wanted o (yielded l0.toArray a.tmps) = Region.wanted o (yielded l0.toArray b.tmps) := by
  unfold Region.wanted
  cases hg : o.guard with
  | none => rfl
  | some gw =>
    obtain ⟨g, want⟩ := gw
    have hy : yielded l0.toArray a.tmps g = yielded l0.toArray b.tmps g := by
      unfold yielded
      cases ht : (l0.toArray[g]?).bind (·.dst) with
      | none => rfl
      | some t =>
        have := h t (List.mem_append_right _ (by simp only [hg, ht]; simp))
        simp [this]
    simp only [hy]
/-- One operation more, none of the tail. -/
theorem Midway.step {specs : List FSpec} {a0 a : Act} {listed : Array Bool} {W : World} (m : Midway l0 specs R w0 a0 listed a W) (ok : OkSpec l0 specs.length a0.tmps.size) (hrf : ∀ a, R a a) (htr : ∀ a b c, R a b → R b c → R a c)
    (hst : ∀ s ∈ specs, ∀ W W' v, R W W' → s.ok W v → s.ok W' v) (h : freeSteps P l0 R w0 Q 0 specs l0 a0 []) {i : Nat} (hi : i < specs.length) (hr : i ∈ Region.ready .any l0.toArray listed) :
    wpOp P l0.toArray Q i (fun a' W' => Midway l0 specs R w0 a0 (listed.setIfInBounds i true) a' W') a W := by
  obtain ⟨hun, o, ho', hedge⟩ := mem_ready.1 hr
  have ho : l0[i]? = some o := by simpa using ho'
  have hil : i < l0.length := (List.getElem?_eq_some_iff.1 ho).1
  have hlt : i < listed.size := by rw [m.size]; exact hil
  have hat := steps_at h (valuesOf l0 specs a) (valuesOf_fits l0 specs a) i (by omega)
  rw [List.drop_eq_getElem_cons hi, List.drop_eq_getElem_cons hil] at hat
  have hs : specs[i]? = some specs[i] := List.getElem?_eq_getElem hi
  have hoi : l0[i] = o := by
    have := List.getElem?_eq_getElem hil
    rw [ho] at this
    exact (Option.some.inj this).symm
  rw [hoi] at hat
  have hfacts : ∀ p ∈ factsAt specs (valuesOf l0 specs a) i, leans l0 o p.1 = true → p.2.1.ok W p.2.2 := by
    intro p hp hl
    obtain ⟨h1, h2, h3⟩ := mem_factsAt hp
    unfold leans at hl
    split at hl
    · rename_i d hd
      obtain ⟨oj, hj, hdj⟩ := Option.bind_eq_some_iff.1 hd
      have hlook := ok.look i o p.1 oj d hi ho hj hdj (List.contains_iff_mem.1 hl)
      have hlj : listed.getD p.1 false = true := listed_anc (l0 := l0) m.closed 0 o p.1 hedge hlook.2
      have := m.fact p.1 oj d p.2.1 hlj hj hdj h2
      rw [h3, ← m.value hlj hj hdj]
      exact this
    · cases hl
  have hsame : ∀ t, t ∈ o.looksAt l0.toArray → (frameAt a0 l0 (valuesOf l0 specs a) i).tmps[t]? = a.tmps[t]? := by
    intro t ht
    refine m.tmp ok i t (by omega) fun j oj hj hdj => ?_
    have hlook := ok.look i o j oj t hi ho hj hdj ht
    exact ⟨hlook.1, listed_anc (l0 := l0) m.closed 0 o j hedge hlook.2⟩
  have hev : execOp (frameAt a0 l0 (valuesOf l0 specs a) i).eval o = execOp a.eval o := eval_of_tmps o (fun cs b => ok.sel i o cs b ho) hsame
  have hwa : Region.wanted o (yielded l0.toArray (frameAt a0 l0 (valuesOf l0 specs a) i).tmps) = Region.wanted o (yielded l0.toArray a.tmps) := wanted_of_tmps o hsame
  -- what is left to show of each value
  have next : ∀ W' v, R W W' → specs[i].ok W' v → (specs[i].isFresh = true → ∀ g ∈ blks v, W.heap.size ≤ g) → Midway l0 specs R w0 a0 (listed.setIfInBounds i true) (a.put o.dst v) W' := by
    intro W' v hR hv hfr
    -- what an elder operation's place holds, and the new one's
    have keep : ∀ (j : Nat) (oj : Oper) (d : Tmp), i ≠ j → l0[j]? = some oj → oj.dst = some d → (a.put o.dst v).tmps.getD d undef = a.tmps.getD d undef := by
      intro j oj d hij hoj hdj
      have hnd : o.dst ≠ some d := ok.one i o j oj d hi ho hoj hdj hij
      cases hd : o.dst with
      | none => simp [Act.put]
      | some e =>
        have : e ≠ d := fun e' => hnd (by rw [hd, e'])
        simp [Act.put, Array.getElem?_setIfInBounds_ne this]
    have own : ∀ (d : Tmp), o.dst = some d → (a.put o.dst v).tmps.getD d undef = v := by
      intro d hd
      have hsz : d < a.tmps.size := by rw [m.tsize]; exact ok.dst i _ d ho hd
      simp [Act.put, hd, hsz]
    have elder : ∀ (j : Nat) (oj : Oper) (d : Tmp) (sj : FSpec), listed.getD j false = true → l0[j]? = some oj → oj.dst = some d → specs[j]? = some sj → sj.isFresh = true → ∀ g ∈ blks (a.tmps.getD d undef), g < W.heap.size := by
      intro j oj d sj hj hoj hdj hsj hfj
      have hf := m.fact j oj d sj hj hoj hdj hsj
      cases sj with
      | fresh Φ => exact hf.2
      | val c => cases hfj
      | pred Φ => cases hfj
    refine ⟨by simpa using m.size, htr _ _ _ m.rel hR, ?_, ?_, ?_, ?_, ?_, ?_, ?_⟩
    · rw [← m.defers]; cases o.dst <;> rfl
    · rw [← m.tsize]; cases hd : o.dst <;> simp [Act.put]
    · intro j oj hj hoj e he hb
      by_cases hij : i = j
      · subst hij
        rw [ho] at hoj; cases hoj
        exact getD_set_true (hedge e he hb)
      · rw [getD_set_ne false hij] at hj
        exact getD_set_true (m.closed j oj hj hoj e he hb)
    · intro t ht
      have hne : o.dst ≠ some t := ht i o ho (by simp [hlt])
      rw [← m.other t fun j oj hoj hj => ht j oj hoj (by
        by_cases hij : i = j
        · subst hij; simp [hlt]
        · rw [getD_set_ne false hij]; exact hj)]
      cases hd : o.dst with
      | none => rfl
      | some d =>
        have : d ≠ t := fun e => hne (by rw [hd, e])
        simp [Act.put, Array.getElem?_setIfInBounds_ne this]
    · intro j oj d s hj hoj hdj hsj
      by_cases hij : i = j
      · subst hij
        rw [ho] at hoj; cases hoj
        rw [hs] at hsj; cases hsj
        have hsz : d < a.tmps.size := by rw [m.tsize]; exact ok.dst i _ d ho hdj
        simpa [Act.put, hdj, hsz] using hv
      · rw [getD_set_ne false hij] at hj
        have hf := m.fact j oj d s hj hoj hdj hsj
        have hf := hst s (List.mem_of_getElem? hsj) _ _ _ hR hf
        have hnd : o.dst ≠ some d := ok.one i o j oj d hi ho hoj hdj hij
        cases hd : o.dst with
        | none => simpa [Act.put] using hf
        | some e =>
          have : e ≠ d := fun e' => hnd (by rw [hd, e'])
          simpa [Act.put, Array.getElem?_setIfInBounds_ne this] using hf
    · intro j hj
      rw [getD_set_ne false (show i ≠ j by omega)]
      exact m.late j hj
    · intro i1 j1 oi oj di dj si sj hne hl1 hl2 ho1 ho2 hd1 hd2 hs1 hs2 hf1 hf2
      by_cases e1 : i = i1
      · subst e1
        have hij : i ≠ j1 := hne
        rw [ho] at ho1; cases ho1
        rw [hs] at hs1; cases hs1
        rw [getD_set_ne false hij] at hl2
        rw [own di hd1, keep j1 oj dj hij ho2 hd2]
        intro g hg1 hg2
        have h1 := hfr hf1 g hg1
        have h2 := elder j1 oj dj sj hl2 ho2 hd2 hs2 hf2 g hg2
        omega
      · rw [getD_set_ne false e1] at hl1
        by_cases e2 : i = j1
        · subst e2
          rw [ho] at ho2; cases ho2
          rw [hs] at hs2; cases hs2
          rw [own dj hd2, keep i1 oi di e1 ho1 hd1]
          intro g hg1 hg2
          have h1 := hfr hf2 g hg2
          have h2 := elder i1 oi di si hl1 ho1 hd1 hs1 hf1 g hg1
          omega
        · rw [getD_set_ne false e2] at hl2
          rw [keep i1 oi di e1 ho1 hd1, keep j1 oj dj e2 ho2 hd2]
          exact m.apart i1 j1 oi oj di dj si sj hne hl1 hl2 ho1 ho2 hd1 hd2 hs1 hs2 hf1 hf2
  unfold wpOp
  simp only [List.getElem?_toArray, ho]
  generalize hsp : specs[i] = s at hat next
  cases s with
  | val c =>
    simp only [freeSteps] at hat
    have hone := hat.1 W m.rel (factsHold_of hfacts)
    rw [hwa, hev] at hone
    split
    · rename_i hw
      rw [if_pos hw] at hone
      refine .inl (upon_of_gives hone fun w' v hv => next _ _ hv.1 hv.2 (fun h => by cases h))
    · rename_i hw
      rw [if_neg hw] at hone
      exact next W undef (hrf W) hone (fun h => by cases h)
  | pred Φ =>
    simp only [freeSteps] at hat
    have hone := hat.1 W m.rel (factsHold_of hfacts)
    rw [hwa, hev] at hone
    split
    · rename_i hw
      rw [if_pos hw] at hone
      refine .inl (upon_of_gives hone fun w' v hv => next _ _ hv.1 hv.2 (fun h => by cases h))
    · rename_i hw
      rw [if_neg hw] at hone
      exact next W undef (hrf W) hone (fun h => by cases h)
  | fresh Φ =>
    simp only [freeSteps] at hat
    have hone := hat.1 W m.rel (factsHold_of hfacts)
    rw [hwa, hev] at hone
    split
    · rename_i hw
      rw [if_pos hw] at hone
      refine .inl (upon_of_gives hone fun w' v hv => ?_)
      obtain ⟨h1, h2, h3⟩ := hv
      exact next _ _ h1 ⟨h2, fun g hg => (h3 g hg).2⟩ (fun _ g hg => (h3 g hg).1)
    · rename_i hw
      rw [if_neg hw] at hone
      exact hone.elim
/-- All of the front is done, and nothing else: the frame is the lexical walk's. -/
theorem Midway.done {specs : List FSpec} {a0 a : Act} {listed : Array Bool} {W : World} (m : Midway l0 specs R w0 a0 listed a W) (ok : OkSpec l0 specs.length a0.tmps.size) (hall : ∀ j, j < specs.length → listed.getD j false = true) :
    a = frameAt a0 l0 (valuesOf l0 specs a) specs.length ∧ ∀ p ∈ factsAt specs (valuesOf l0 specs a) specs.length, p.2.1.ok W p.2.2 := by
  refine ⟨?_, fun p hp => ?_⟩
  · obtain ⟨tm, df⟩ := a
    have hdf := frameAt_defers a0 l0 (valuesOf l0 specs ⟨tm, df⟩) specs.length
    have htm : tm = (frameAt a0 l0 (valuesOf l0 specs ⟨tm, df⟩) specs.length).tmps := by
      refine Array.ext_getElem? fun t => ?_
      by_cases hex : ∃ (j : Nat) (oj : Oper), l0[j]? = some oj ∧ oj.dst = some t ∧ specs.length ≤ j
      · obtain ⟨j, oj, hj, hd, hge⟩ := hex
        by_cases hin : ∃ (i : Nat) (oi : Oper), l0[i]? = some oi ∧ oi.dst = some t ∧ i < specs.length
        · obtain ⟨i, oi, hi, hdi, hlt⟩ := hin
          exact absurd hdi (ok.one i oi j oj t hlt hi hj hd (by omega))
        · rw [frameAt_other a0 l0 _ _ t fun i o hi ho hd' => hin ⟨i, o, ho, hd', hi⟩]
          refine m.other t fun i o ho hl hd' => ?_
          rcases Nat.lt_or_ge i specs.length with h | h
          · exact hin ⟨i, o, ho, hd', h⟩
          · rw [m.late i h] at hl; cases hl
      · refine (m.tmp ok specs.length t (Nat.le_refl _) fun j oj hj hd => ?_).symm
        have hlt : j < specs.length := by
          rcases Nat.lt_or_ge j specs.length with h | h
          · exact h
          · exact absurd ⟨j, oj, hj, hd, h⟩ hex
        exact ⟨hlt, hall j hlt⟩
    have h1 : (frameAt a0 l0 (valuesOf l0 specs ⟨tm, df⟩) specs.length).defers = df := by rw [hdf, ← m.defers]
    generalize frameAt a0 l0 (valuesOf l0 specs ⟨tm, df⟩) specs.length = f at htm h1
    obtain ⟨ft, fd⟩ := f
    simp only at htm h1
    rw [htm, h1]
  · obtain ⟨h1, h2, h3⟩ := mem_factsAt hp
    have hil : p.1 < l0.length := by have := ok.len; omega
    have ho : l0[p.1]? = some l0[p.1] := List.getElem?_eq_getElem hil
    rw [h3]
    cases hd : l0[p.1].dst with
    | some d =>
      rw [← m.value (hall p.1 h1) ho hd]
      exact m.fact p.1 _ d _ (hall p.1 h1) ho hd h2
    | none =>
      have := ok.has p.1 _ h1 ho
      simp [hd] at this
theorem free_any {specs : List FSpec} {a0 : Act} (ok : OkSpec l0 specs.length a0.tmps.size) (hrf : ∀ a, R a a) (htr : ∀ a b c, R a b → R b c → R a c)
    (hst : ∀ s ∈ specs, ∀ W W' v, R W W' → s.ok W v → s.ok W' v) (h : freeSteps P l0 R w0 Q 0 specs l0 a0 []) :
    ∀ (fuel : Nat) (listed : Array Bool) (a : Act) (W : World), left l0 listed ≤ fuel → Midway l0 specs R w0 a0 listed a W → wpAny P .any l0.toArray Q fuel listed a W := by
  have fin : ∀ (listed : Array Bool) (a : Act) (W : World), Midway l0 specs R w0 a0 listed a W → (∀ j, j < specs.length → listed.getD j false = true) → wpList P l0.toArray Q (l0.drop specs.length) a W := by
    intro listed a W m hall
    obtain ⟨he, hf⟩ := m.done ok hall
    have hat := steps_at h (valuesOf l0 specs a) (valuesOf_fits l0 specs a) specs.length (Nat.le_refl _)
    rw [List.drop_length] at hat
    simp only [freeSteps] at hat
    have := hat W m.rel (factsHold_of fun p hp _ => hf p hp) (fun p q hp hq h1 h2 hne => by
      obtain ⟨a1, a2, a3⟩ := mem_factsAt hp
      obtain ⟨b1, b2, b3⟩ := mem_factsAt hq
      have hil : p.1 < l0.length := by have := ok.len; omega
      have hjl : q.1 < l0.length := by have := ok.len; omega
      have ho1 : l0[p.1]? = some l0[p.1] := List.getElem?_eq_getElem hil
      have ho2 : l0[q.1]? = some l0[q.1] := List.getElem?_eq_getElem hjl
      obtain ⟨d1, hd1⟩ := Option.isSome_iff_exists.1 (ok.has p.1 _ a1 ho1)
      obtain ⟨d2, hd2⟩ := Option.isSome_iff_exists.1 (ok.has q.1 _ b1 ho2)
      rw [a3, b3, ← m.value (hall p.1 a1) ho1 hd1, ← m.value (hall q.1 b1) ho2 hd2]
      exact m.apart p.1 q.1 _ _ d1 d2 _ _ hne (hall p.1 a1) (hall q.1 b1) ho1 ho2 hd1 hd2 a2 b2 h1 h2)
    rwa [← he] at this
  have hlst : ∀ (listed : Array Bool) (a : Act) (W : World), Midway l0 specs R w0 a0 listed a W → (∀ j, j < specs.length → listed.getD j false = true) → ∀ i, i < l0.length → (listed.getD i false = true ↔ i < specs.length) := by
    intro listed a W m hall i hi
    constructor
    · intro hl
      rcases Nat.lt_or_ge i specs.length with h | h
      · exact h
      · rw [m.late i h] at hl; cases hl
    · exact hall i
  intro fuel
  induction fuel with
  | zero =>
    intro listed a W hl m
    have hnone : ∀ i, i < l0.length → listed.getD i true = true := by
      intro i hi
      have h0 : ((List.range l0.length).filter fun i => !listed.getD i true) = [] := List.eq_nil_of_length_eq_zero (by unfold left at hl; omega)
      have := List.filter_eq_nil_iff.1 h0 i (List.mem_range.2 hi)
      simpa using this
    have hall : ∀ j, j < specs.length → listed.getD j false = true := by
      intro j hj
      have h1 := hnone j (by have := ok.len; omega)
      rcases listed_cases (listed := listed) (i := j) (by rw [m.size]; have := ok.len; omega) with h2 | h2
      · exact h2
      · rw [h2] at h1; cases h1
    have hn : specs.length = l0.length := by
      rcases Nat.lt_or_ge specs.length l0.length with h1 | h1
      · have h2 := hnone specs.length h1
        have h3 := m.late specs.length (Nat.le_refl _)
        rcases listed_cases (listed := listed) (i := specs.length) (by rw [m.size]; exact h1) with h4 | h4
        · rw [h4] at h3; cases h3
        · rw [h4] at h2; cases h2
      · have := ok.len; omega
    exact tail_forced ok.tail 0 specs.length listed a W 0 (Nat.le_refl _) hn (Nat.le_refl _) m.size m.closed (hlst _ _ _ m hall) ok.edge (fin _ _ _ m hall)
  | succ fuel ih =>
    intro listed a W hl m
    by_cases hall : ∀ j, j < specs.length → listed.getD j false = true
    · refine tail_forced ok.tail (l0.length - specs.length) specs.length listed a W (fuel + 1) (Nat.le_refl _) (by have := ok.len; omega) ?_ m.size m.closed (hlst _ _ _ m hall) ok.edge (fin _ _ _ m hall)
      have := left_ge (l := l0) (listed := listed) (n := specs.length) fun i h1 h2 => by
        have := m.late i h1
        have hlt : i < listed.size := by rw [m.size]; exact h2
        simpa [hlt] using this
      omega
    · refine ⟨fun h0 => ?_, fun i hi => ?_⟩
      · refine absurd (fun j => ?_) hall
        induction j using Nat.strongRecOn with
        | _ j ihj =>
          intro hj
          have hjl : j < l0.length := by have := ok.len; omega
          have hoj : l0[j]? = some l0[j] := List.getElem?_eq_getElem hjl
          rcases listed_cases (listed := listed) (i := j) (by rw [m.size]; exact hjl) with h1 | h1
          · exact h1
          · have hm : j ∈ Region.ready .any l0.toArray listed := mem_ready.2 ⟨h1, l0[j], by simp [hjl], fun e he hb => by
              have := ok.edge j _ hoj e he hb
              exact ihj e.on this (by omega)⟩
            rw [h0] at hm
            cases hm
      · obtain ⟨hun, o, ho', hedge⟩ := mem_ready.1 hi
        have hil : i < l0.length := by have := lt_of_unlisted hun; rw [m.size] at this; exact this
        have hn : i < specs.length := by
          rcases Nat.lt_or_ge i specs.length with h1 | h1
          · exact h1
          · exact absurd (fun j hj => listed_anc m.closed 16 o j hedge (ok.tail i o h1 (by simpa using ho') j (by omega))) hall
        exact wpOp_mono (fun a' W' m' => ih _ a' W' (by have := left_set hil hun; omega) m') (m.step ok hrf htr hst h hn hi)
theorem region_free {id : Nat} {l : List Oper} {a : Act} {w : World} (R : World → World → Prop) (specs : List FSpec) (hm : P.follows .mixedOrders = true) (hok : okFree specs.length a.tmps.size l = true)
    (hrf : ∀ a, R a a) (htr : ∀ a b c, R a b → R b c → R a c) (hdr : ∀ a, R a a.drew) (hst : ∀ s ∈ specs, ∀ W W' v, R W W' → s.ok W v → s.ok W' v)
    (h : freeSteps P l R w Q 0 specs l a []) : (Code.region id l.toArray true).wp P Q a w := by
  refine wp_region_any hm ?_
  have hsz : l.toArray.size = l.length := by simp
  have hget : ∀ i : Nat, (Array.replicate l.toArray.size false).getD i false = false := by
    intro i
    rw [Array.getD_eq_getD_getElem?, Array.getElem?_replicate]
    split <;> rfl
  refine free_any (okFree_spec hok) hrf htr hst h _ _ _ _ ?_ ⟨by simp, hdr w, rfl, rfl, ?_, ?_, ?_, ?_, ?_⟩
  · unfold left
    refine Nat.le_trans (List.length_filter_le _ _) ?_
    simp
  · intro i o hi
    rw [hget] at hi; cases hi
  · intro t _; rfl
  · intro j o d s hj
    rw [hget] at hj; cases hj
  · intro j _
    exact hget j
  · intro i j oi oj di dj si sj _ h1
    rw [hget] at h1; cases h1
end
def Stable (R : World → World → Prop) (s : FSpec) : Prop := ∀ W W' v, R W W' → s.ok W v → s.ok W' v
def StableAll (R : World → World → Prop) : List FSpec → Prop
  | [] => True
  | s :: ss => Stable R s ∧ StableAll R ss
theorem stableAll_mem {R : World → World → Prop} : ∀ {ss : List FSpec}, StableAll R ss → ∀ s ∈ ss, ∀ W W' v, R W W' → s.ok W v → s.ok W' v
  | [], _, s, hs => by cases hs
  | s :: ss, h, s', hs => by
    rcases List.mem_cons.1 hs with rfl | hs
    · exact h.1
    · exact stableAll_mem h.2 s' hs
theorem stable_val {R : World → World → Prop} (c : Value) : Stable R (.val c) := fun _ _ _ _ h => h
theorem stable_vals {R : World → World → Prop} {ss : List FSpec} (c : Value) (h : StableAll R ss) : StableAll R (.val c :: ss) := ⟨stable_val c, h⟩
end Go.Proofs.YtjelnmokcpoofaaGreatDoor.Aloof
namespace Go.Proofs.YtjelnmokcpoofaaGreatDoor
set_option maxRecDepth 100000
open Go Go.RowKit Go.Proofs
theorem region_aloof {id : Nat} {l : List Oper} {a : Act} {w : World} {Q : Exit → Act → World → Prop} (specs : List Aloof.FSpec) (hok : Aloof.okFree specs.length a.tmps.size l = true) (hst : Aloof.StableAll Ext specs)
    (h : Aloof.freeSteps Tryz.prog l Ext w Q 0 specs l a []) : (Code.region id l.toArray true).wp Tryz.prog Q a w :=
  Aloof.region_free Ext specs mixed hok Ext.refl (fun _ _ _ => Ext.trans) (fun w => (Ext.refl w).dr) (Aloof.stableAll_mem hst) h
theorem ast_val {R : World → World → Prop} {ss : List Aloof.FSpec} (c : Value) (h : Aloof.StableAll R ss) : Aloof.StableAll R (.val c :: ss) := Aloof.stable_vals c h
end Go.Proofs.YtjelnmokcpoofaaGreatDoor
namespace Go.Proofs.YtjelnmokcpoofaaGreatDoor
set_option maxRecDepth 100000
open Go Go.RowKit Go.Proofs
def okOperT (l : List Oper) (n i : Nat) (o : Oper) : Bool :=
  (o.after.toList.all fun e => !Region.binds .any e || decide (e.on < i)) &&
  (if i < n then
    o.dst.isSome && (List.range l.length).all fun j => match l[j]? with
      | some oj => (match oj.dst with
        | some d => (!(o.looksAt l.toArray).contains d || (decide (j < i) && hasEdge o j) || decide (n ≤ j)) && (j == i || o.dst != some d)
        | none => true)
      | none => true
  else (List.range i).all fun j => ancB l 16 o j)
def okFreeT (n size : Nat) (l : List Oper) : Bool :=
  Region.noSelect l.toArray && decide (n ≤ l.length) && (l.all fun o => match o.dst with | some d => decide (d < size) | none => true) &&
    (List.range l.length).all fun i => match l[i]? with | some o => okOperT l n i o | none => true
section
variable {P : Program} {l0 : List Oper} {R : World → World → Prop} {w0 : World} {Q : Exit → Act → World → Prop}
structure OkSpecT (l : List Oper) (n size : Nat) : Prop where
  sel : ∀ (j : Nat) (o : Oper) cs b, l[j]? = some o → o.op ≠ .select cs b
  len : n ≤ l.length
  dst : ∀ (j : Nat) (o : Oper) (d : Tmp), l[j]? = some o → o.dst = some d → d < size
  edge : ∀ (i : Nat) (o : Oper), l[i]? = some o → ∀ e ∈ o.after, Region.binds .any e = true → e.on < i
  has : ∀ (i : Nat) (o : Oper), i < n → l[i]? = some o → o.dst.isSome = true
  look : ∀ (i : Nat) (o : Oper) (j : Nat) (oj : Oper) (d : Tmp), i < n → l[i]? = some o → l[j]? = some oj → oj.dst = some d → d ∈ o.looksAt l.toArray → (j < i ∧ hasEdge o j = true) ∨ n ≤ j
  one : ∀ (i : Nat) (o : Oper) (j : Nat) (oj : Oper) (d : Tmp), i < n → l[i]? = some o → l[j]? = some oj → oj.dst = some d → i ≠ j → o.dst ≠ some d
  tail : ∀ (i : Nat) (o : Oper), n ≤ i → l[i]? = some o → ∀ j, j < i → ancB l 16 o j = true
theorem okFree_specT {n size : Nat} {l : List Oper} (h : okFreeT n size l = true) : OkSpecT l n size := by
  simp only [okFreeT, Bool.and_eq_true, decide_eq_true_eq, List.all_eq_true, List.mem_range] at h
  obtain ⟨⟨⟨h1, h2⟩, h3⟩, h4⟩ := h
  have at_ : ∀ i o, l[i]? = some o → okOperT l n i o = true := by
    intro i o ho
    have := h4 i (List.getElem?_eq_some_iff.1 ho).1
    rwa [ho] at this
  refine ⟨fun j o cs b hj => Region.noSelect_spec h1 j o cs b (by simpa using hj), h2, ?_, ?_, ?_, ?_, ?_, ?_⟩
  · intro j o d ho hd
    have := h3 o (List.mem_of_getElem? ho)
    simpa [hd] using this
  · intro i o ho e he hb
    have := at_ i o ho
    simp only [okOperT, Bool.and_eq_true, List.all_eq_true, Bool.or_eq_true, Bool.not_eq_true', decide_eq_true_eq] at this
    have := this.1 e (Array.mem_toList_iff.2 he)
    rcases this with h | h
    · rw [h] at hb; cases hb
    · exact h
  · intro i o hi ho
    have := at_ i o ho
    simp only [okOperT, Bool.and_eq_true, if_pos hi] at this
    exact this.2.1
  · intro i o j oj d hi ho hj hd hm
    have := at_ i o ho
    simp only [okOperT, Bool.and_eq_true, if_pos hi, List.all_eq_true, List.mem_range] at this
    have := this.2.2 j (List.getElem?_eq_some_iff.1 hj).1
    simp only [hj, hd, Bool.and_eq_true, Bool.or_eq_true, Bool.not_eq_true', decide_eq_true_eq] at this
    rcases this.1 with (h | h) | h
    · have := List.contains_iff_mem.2 hm
      rw [h] at this; cases this
    · exact .inl h
    · exact .inr h
  · intro i o j oj d hi ho hj hd hne
    have := at_ i o ho
    simp only [okOperT, Bool.and_eq_true, if_pos hi, List.all_eq_true, List.mem_range] at this
    have := this.2.2 j (List.getElem?_eq_some_iff.1 hj).1
    simp only [hj, hd, Bool.and_eq_true, Bool.or_eq_true, beq_iff_eq, bne_iff_ne, ne_eq] at this
    rcases this.2 with h | h
    · exact absurd h.symm hne
    · exact h
  · intro i o hi ho j hj
    have := at_ i o ho
    simp only [okOperT, Bool.and_eq_true, if_neg (Nat.not_lt.2 hi), List.all_eq_true, List.mem_range] at this
    exact this.2 j hj
theorem Midway.tmpT {specs : List FSpec} {a0 a : Act} {listed : Array Bool} {W : World} (m : Midway l0 specs R w0 a0 listed a W) (ok : OkSpecT l0 specs.length a0.tmps.size) (k t : Nat) (hk : k ≤ specs.length)
    (h : ∀ (j : Nat) (oj : Oper), l0[j]? = some oj → oj.dst = some t → (j < k ∧ listed.getD j false = true) ∨ specs.length ≤ j) : (frameAt a0 l0 (valuesOf l0 specs a) k).tmps[t]? = a.tmps[t]? := by
  by_cases hex : ∃ (j : Nat) (oj : Oper), l0[j]? = some oj ∧ oj.dst = some t
  · obtain ⟨j, oj, hj, hd⟩ := hex
    rcases h j oj hj hd with ⟨hjk, hlj⟩ | hge
    case inr =>
      have hfr : ∀ (i : Nat) (oi : Oper), i < specs.length → l0[i]? = some oi → oi.dst ≠ some t := fun i oi hi hoi => ok.one i oi j oj t hi hoi hj hd (by omega)
      rw [frameAt_other a0 l0 _ k t fun i oi hi hoi => hfr i oi (by omega) hoi]
      refine (m.other t fun i oi hoi hl => ?_).symm
      rcases Nat.lt_or_ge i specs.length with hi | hi
      · exact hfr i oi hi hoi
      · rw [m.late i hi] at hl; cases hl
    have ht := ok.dst j oj t hj hd
    rw [frameAt_own a0 l0 _ k t j oj hjk hj hd ht fun i o' hne ho' hd' => by
      rcases Nat.lt_or_ge i specs.length with hi | hi
      · exact ok.one i o' j oj t hi ho' hj hd hne hd'
      · exact ok.one j oj i o' t (by omega) hj ho' hd' (Ne.symm hne) hd]
    rw [← m.value hlj hj hd]
    have : t < a.tmps.size := by rw [m.tsize]; exact ht
    simp [this]
  · rw [frameAt_other a0 l0 _ k t fun j o _ ho hd => hex ⟨j, o, ho, hd⟩, m.other t fun j o ho _ hd => hex ⟨j, o, ho, hd⟩]
/-- One operation more, none of the tail. -/
theorem Midway.stepT {specs : List FSpec} {a0 a : Act} {listed : Array Bool} {W : World} (m : Midway l0 specs R w0 a0 listed a W) (ok : OkSpecT l0 specs.length a0.tmps.size) (hrf : ∀ a, R a a) (htr : ∀ a b c, R a b → R b c → R a c)
    (hst : ∀ s ∈ specs, ∀ W W' v, R W W' → s.ok W v → s.ok W' v) (h : freeSteps P l0 R w0 Q 0 specs l0 a0 []) {i : Nat} (hi : i < specs.length) (hr : i ∈ Region.ready .any l0.toArray listed) :
    wpOp P l0.toArray Q i (fun a' W' => Midway l0 specs R w0 a0 (listed.setIfInBounds i true) a' W') a W := by
  obtain ⟨hun, o, ho', hedge⟩ := mem_ready.1 hr
  have ho : l0[i]? = some o := by simpa using ho'
  have hil : i < l0.length := (List.getElem?_eq_some_iff.1 ho).1
  have hlt : i < listed.size := by rw [m.size]; exact hil
  have hat := steps_at h (valuesOf l0 specs a) (valuesOf_fits l0 specs a) i (by omega)
  rw [List.drop_eq_getElem_cons hi, List.drop_eq_getElem_cons hil] at hat
  have hs : specs[i]? = some specs[i] := List.getElem?_eq_getElem hi
  have hoi : l0[i] = o := by
    have := List.getElem?_eq_getElem hil
    rw [ho] at this
    exact (Option.some.inj this).symm
  rw [hoi] at hat
  have hfacts : ∀ p ∈ factsAt specs (valuesOf l0 specs a) i, leans l0 o p.1 = true → p.2.1.ok W p.2.2 := by
    intro p hp hl
    obtain ⟨h1, h2, h3⟩ := mem_factsAt hp
    unfold leans at hl
    split at hl
    · rename_i d hd
      obtain ⟨oj, hj, hdj⟩ := Option.bind_eq_some_iff.1 hd
      have hlook := (ok.look i o p.1 oj d hi ho hj hdj (List.contains_iff_mem.1 hl)).resolve_right (by omega)
      have hlj : listed.getD p.1 false = true := listed_anc (l0 := l0) m.closed 0 o p.1 hedge hlook.2
      have := m.fact p.1 oj d p.2.1 hlj hj hdj h2
      rw [h3, ← m.value hlj hj hdj]
      exact this
    · cases hl
  have hsame : ∀ t, t ∈ o.looksAt l0.toArray → (frameAt a0 l0 (valuesOf l0 specs a) i).tmps[t]? = a.tmps[t]? := by
    intro t ht
    refine m.tmpT ok i t (by omega) fun j oj hj hdj => ?_
    rcases ok.look i o j oj t hi ho hj hdj ht with hlook | hlook
    · exact .inl ⟨hlook.1, listed_anc (l0 := l0) m.closed 0 o j hedge hlook.2⟩
    · exact .inr hlook
  have hev : execOp (frameAt a0 l0 (valuesOf l0 specs a) i).eval o = execOp a.eval o := eval_of_tmps o (fun cs b => ok.sel i o cs b ho) hsame
  have hwa : Region.wanted o (yielded l0.toArray (frameAt a0 l0 (valuesOf l0 specs a) i).tmps) = Region.wanted o (yielded l0.toArray a.tmps) := wanted_of_tmps o hsame
  -- what is left to show of each value
  have next : ∀ W' v, R W W' → specs[i].ok W' v → Midway l0 specs R w0 a0 (listed.setIfInBounds i true) (a.put o.dst v) W' := by
    intro W' v hR hv
    refine ⟨by simpa using m.size, htr _ _ _ m.rel hR, ?_, ?_, ?_, ?_, ?_, ?_⟩
    · rw [← m.defers]; cases o.dst <;> rfl
    · rw [← m.tsize]; cases hd : o.dst <;> simp [Act.put]
    · intro j oj hj hoj e he hb
      by_cases hij : i = j
      · subst hij
        rw [ho] at hoj; cases hoj
        exact getD_set_true (hedge e he hb)
      · rw [getD_set_ne false hij] at hj
        exact getD_set_true (m.closed j oj hj hoj e he hb)
    · intro t ht
      have hne : o.dst ≠ some t := ht i o ho (by simp [hlt])
      rw [← m.other t fun j oj hoj hj => ht j oj hoj (by
        by_cases hij : i = j
        · subst hij; simp [hlt]
        · rw [getD_set_ne false hij]; exact hj)]
      cases hd : o.dst with
      | none => rfl
      | some d =>
        have : d ≠ t := fun e => hne (by rw [hd, e])
        simp [Act.put, Array.getElem?_setIfInBounds_ne this]
    · intro j oj d s hj hoj hdj hsj
      by_cases hij : i = j
      · subst hij
        rw [ho] at hoj; cases hoj
        rw [hs] at hsj; cases hsj
        have hsz : d < a.tmps.size := by rw [m.tsize]; exact ok.dst i _ d ho hdj
        simpa [Act.put, hdj, hsz] using hv
      · rw [getD_set_ne false hij] at hj
        have hf := m.fact j oj d s hj hoj hdj hsj
        have hf := hst s (List.mem_of_getElem? hsj) _ _ _ hR hf
        have hnd : o.dst ≠ some d := ok.one i o j oj d hi ho hoj hdj hij
        cases hd : o.dst with
        | none => simpa [Act.put] using hf
        | some e =>
          have : e ≠ d := fun e' => hnd (by rw [hd, e'])
          simpa [Act.put, Array.getElem?_setIfInBounds_ne this] using hf
    · intro j hj
      rw [getD_set_ne false (show i ≠ j by omega)]
      exact m.late j hj
  unfold wpOp
  simp only [List.getElem?_toArray, ho]
  generalize hsp : specs[i] = s at hat next
  cases s with
  | val c =>
    simp only [freeSteps] at hat
    have hone := hat.1 W m.rel (factsHold_of hfacts)
    rw [hwa, hev] at hone
    split
    · rename_i hw
      rw [if_pos hw] at hone
      refine .inl (upon_of_gives hone fun w' v hv => next _ _ hv.1 hv.2)
    · rename_i hw
      rw [if_neg hw] at hone
      exact next W undef (hrf W) hone
  | pred Φ =>
    simp only [freeSteps] at hat
    have hone := hat.1 W m.rel (factsHold_of hfacts)
    rw [hwa, hev] at hone
    split
    · rename_i hw
      rw [if_pos hw] at hone
      refine .inl (upon_of_gives hone fun w' v hv => next _ _ hv.1 hv.2)
    · rename_i hw
      rw [if_neg hw] at hone
      exact next W undef (hrf W) hone
/-- All of the front is done, and nothing else: the frame is the lexical walk's. -/
theorem Midway.doneT {specs : List FSpec} {a0 a : Act} {listed : Array Bool} {W : World} (m : Midway l0 specs R w0 a0 listed a W) (ok : OkSpecT l0 specs.length a0.tmps.size) (hall : ∀ j, j < specs.length → listed.getD j false = true) :
    a = frameAt a0 l0 (valuesOf l0 specs a) specs.length ∧ ∀ p ∈ factsAt specs (valuesOf l0 specs a) specs.length, p.2.1.ok W p.2.2 := by
  refine ⟨?_, fun p hp => ?_⟩
  · obtain ⟨tm, df⟩ := a
    have hdf := frameAt_defers a0 l0 (valuesOf l0 specs ⟨tm, df⟩) specs.length
    have htm : tm = (frameAt a0 l0 (valuesOf l0 specs ⟨tm, df⟩) specs.length).tmps := by
      refine Array.ext_getElem? fun t => ?_
      by_cases hex : ∃ (j : Nat) (oj : Oper), l0[j]? = some oj ∧ oj.dst = some t ∧ specs.length ≤ j
      · obtain ⟨j, oj, hj, hd, hge⟩ := hex
        by_cases hin : ∃ (i : Nat) (oi : Oper), l0[i]? = some oi ∧ oi.dst = some t ∧ i < specs.length
        · obtain ⟨i, oi, hi, hdi, hlt⟩ := hin
          exact absurd hdi (ok.one i oi j oj t hlt hi hj hd (by omega))
        · rw [frameAt_other a0 l0 _ _ t fun i o hi ho hd' => hin ⟨i, o, ho, hd', hi⟩]
          refine m.other t fun i o ho hl hd' => ?_
          rcases Nat.lt_or_ge i specs.length with h | h
          · exact hin ⟨i, o, ho, hd', h⟩
          · rw [m.late i h] at hl; cases hl
      · refine (m.tmpT ok specs.length t (Nat.le_refl _) fun j oj hj hd => ?_).symm
        have hlt : j < specs.length := by
          rcases Nat.lt_or_ge j specs.length with h | h
          · exact h
          · exact absurd ⟨j, oj, hj, hd, h⟩ hex
        exact .inl ⟨hlt, hall j hlt⟩
    have h1 : (frameAt a0 l0 (valuesOf l0 specs ⟨tm, df⟩) specs.length).defers = df := by rw [hdf, ← m.defers]
    generalize frameAt a0 l0 (valuesOf l0 specs ⟨tm, df⟩) specs.length = f at htm h1
    obtain ⟨ft, fd⟩ := f
    simp only at htm h1
    rw [htm, h1]
  · obtain ⟨h1, h2, h3⟩ := mem_factsAt hp
    have hil : p.1 < l0.length := by have := ok.len; omega
    have ho : l0[p.1]? = some l0[p.1] := List.getElem?_eq_getElem hil
    rw [h3]
    cases hd : l0[p.1].dst with
    | some d =>
      rw [← m.value (hall p.1 h1) ho hd]
      exact m.fact p.1 _ d _ (hall p.1 h1) ho hd h2
    | none =>
      have := ok.has p.1 _ h1 ho
      simp [hd] at this
theorem free_anyT {specs : List FSpec} {a0 : Act} (ok : OkSpecT l0 specs.length a0.tmps.size) (hrf : ∀ a, R a a) (htr : ∀ a b c, R a b → R b c → R a c)
    (hst : ∀ s ∈ specs, ∀ W W' v, R W W' → s.ok W v → s.ok W' v) (h : freeSteps P l0 R w0 Q 0 specs l0 a0 []) :
    ∀ (fuel : Nat) (listed : Array Bool) (a : Act) (W : World), left l0 listed ≤ fuel → Midway l0 specs R w0 a0 listed a W → wpAny P .any l0.toArray Q fuel listed a W := by
  have fin : ∀ (listed : Array Bool) (a : Act) (W : World), Midway l0 specs R w0 a0 listed a W → (∀ j, j < specs.length → listed.getD j false = true) → wpList P l0.toArray Q (l0.drop specs.length) a W := by
    intro listed a W m hall
    obtain ⟨he, hf⟩ := m.doneT ok hall
    have hat := steps_at h (valuesOf l0 specs a) (valuesOf_fits l0 specs a) specs.length (Nat.le_refl _)
    rw [List.drop_length] at hat
    simp only [freeSteps] at hat
    have := hat W m.rel (factsHold_of fun p hp _ => hf p hp)
    rwa [← he] at this
  have hlst : ∀ (listed : Array Bool) (a : Act) (W : World), Midway l0 specs R w0 a0 listed a W → (∀ j, j < specs.length → listed.getD j false = true) → ∀ i, i < l0.length → (listed.getD i false = true ↔ i < specs.length) := by
    intro listed a W m hall i hi
    constructor
    · intro hl
      rcases Nat.lt_or_ge i specs.length with h | h
      · exact h
      · rw [m.late i h] at hl; cases hl
    · exact hall i
  intro fuel
  induction fuel with
  | zero =>
    intro listed a W hl m
    have hnone : ∀ i, i < l0.length → listed.getD i true = true := by
      intro i hi
      have h0 : ((List.range l0.length).filter fun i => !listed.getD i true) = [] := List.eq_nil_of_length_eq_zero (by unfold left at hl; omega)
      have := List.filter_eq_nil_iff.1 h0 i (List.mem_range.2 hi)
      simpa using this
    have hall : ∀ j, j < specs.length → listed.getD j false = true := by
      intro j hj
      have h1 := hnone j (by have := ok.len; omega)
      rcases listed_cases (listed := listed) (i := j) (by rw [m.size]; have := ok.len; omega) with h2 | h2
      · exact h2
      · rw [h2] at h1; cases h1
    have hn : specs.length = l0.length := by
      rcases Nat.lt_or_ge specs.length l0.length with h1 | h1
      · have h2 := hnone specs.length h1
        have h3 := m.late specs.length (Nat.le_refl _)
        rcases listed_cases (listed := listed) (i := specs.length) (by rw [m.size]; exact h1) with h4 | h4
        · rw [h4] at h3; cases h3
        · rw [h4] at h2; cases h2
      · have := ok.len; omega
    exact tail_forced ok.tail 0 specs.length listed a W 0 (Nat.le_refl _) hn (Nat.le_refl _) m.size m.closed (hlst _ _ _ m hall) ok.edge (fin _ _ _ m hall)
  | succ fuel ih =>
    intro listed a W hl m
    by_cases hall : ∀ j, j < specs.length → listed.getD j false = true
    · refine tail_forced ok.tail (l0.length - specs.length) specs.length listed a W (fuel + 1) (Nat.le_refl _) (by have := ok.len; omega) ?_ m.size m.closed (hlst _ _ _ m hall) ok.edge (fin _ _ _ m hall)
      have := left_ge (l := l0) (listed := listed) (n := specs.length) fun i h1 h2 => by
        have := m.late i h1
        have hlt : i < listed.size := by rw [m.size]; exact h2
        simpa [hlt] using this
      omega
    · refine ⟨fun h0 => ?_, fun i hi => ?_⟩
      · refine absurd (fun j => ?_) hall
        induction j using Nat.strongRecOn with
        | _ j ihj =>
          intro hj
          have hjl : j < l0.length := by have := ok.len; omega
          have hoj : l0[j]? = some l0[j] := List.getElem?_eq_getElem hjl
          rcases listed_cases (listed := listed) (i := j) (by rw [m.size]; exact hjl) with h1 | h1
          · exact h1
          · have hm : j ∈ Region.ready .any l0.toArray listed := mem_ready.2 ⟨h1, l0[j], by simp [hjl], fun e he hb => by
              have := ok.edge j _ hoj e he hb
              exact ihj e.on this (by omega)⟩
            rw [h0] at hm
            cases hm
      · obtain ⟨hun, o, ho', hedge⟩ := mem_ready.1 hi
        have hil : i < l0.length := by have := lt_of_unlisted hun; rw [m.size] at this; exact this
        have hn : i < specs.length := by
          rcases Nat.lt_or_ge i specs.length with h1 | h1
          · exact h1
          · exact absurd (fun j hj => listed_anc m.closed 16 o j hedge (ok.tail i o h1 (by simpa using ho') j (by omega))) hall
        exact wpOp_mono (fun a' W' m' => ih _ a' W' (by have := left_set hil hun; omega) m') (m.stepT ok hrf htr hst h hn hi)
theorem region_freeT {id : Nat} {l : List Oper} {a : Act} {w : World} (R : World → World → Prop) (specs : List FSpec) (hm : P.follows .mixedOrders = true) (hok : okFreeT specs.length a.tmps.size l = true)
    (hrf : ∀ a, R a a) (htr : ∀ a b c, R a b → R b c → R a c) (hdr : ∀ a, R a a.drew) (hst : ∀ s ∈ specs, ∀ W W' v, R W W' → s.ok W v → s.ok W' v)
    (h : freeSteps P l R w Q 0 specs l a []) : (Code.region id l.toArray true).wp P Q a w := by
  refine wp_region_any hm ?_
  have hsz : l.toArray.size = l.length := by simp
  have hget : ∀ i : Nat, (Array.replicate l.toArray.size false).getD i false = false := by
    intro i
    rw [Array.getD_eq_getD_getElem?, Array.getElem?_replicate]
    split <;> rfl
  refine free_anyT (okFree_specT hok) hrf htr hst h _ _ _ _ ?_ ⟨by simp, hdr w, rfl, rfl, ?_, ?_, ?_, ?_⟩
  · unfold left
    refine Nat.le_trans (List.length_filter_le _ _) ?_
    simp
  · intro i o hi
    rw [hget] at hi; cases hi
  · intro t _; rfl
  · intro j o d s hj
    rw [hget] at hj; cases hj
  · intro j _
    exact hget j
end
theorem region_extT {id : Nat} {l : List Oper} {a : Act} {w : World} {Q : Exit → Act → World → Prop} (specs : List FSpec) (hok : okFreeT specs.length a.tmps.size l = true) (hst : StableAll Ext specs)
    (h : freeSteps Tryz.prog l Ext w Q 0 specs l a []) : (Code.region id l.toArray true).wp Tryz.prog Q a w :=
  region_freeT Ext specs mixed hok Ext.refl (fun _ _ _ => Ext.trans) (fun w => (Ext.refl w).dr) (stableAll_mem hst) h
end Go.Proofs.YtjelnmokcpoofaaGreatDoor
namespace Go.Proofs.YtjelnmokcpoofaaGreatDoor
set_option maxRecDepth 100000
open Go Go.RowKit Go.Proofs
theorem run_loadVar_sub {P : Program} (w : World) (g o : Nat) (t ty : TypeId) (cs sub : Array Value) (fr : Nat × Nat) (d : TypeDesc) (hg : w.heap[g]? = some (.cells cs t fr)) (hs : cs.extract o (o + sub.size) = sub)
    (hu : P.underlying ty = some d) (hd : (match d with | .struct _ | .array _ _ => true | _ => false) = true) (hi : (P.info? ty).map (·.size) = some sub.size) :
    (loadVar ty ⟨g, o, none⟩).run P w = .ok (.agg sub) w := by
  have hl : (loadCells ⟨g, o, none⟩ sub.toList.length).run P w = .ok sub.toList.toArray w :=
    run_loadCells_list (P := P) w ⟨g, o, none⟩ sub.toList (fun j v hv => by
      have hadd : (⟨g, o, none⟩ : Addr).add j = ⟨g, o + j, none⟩ := by unfold Addr.add; split <;> simp_all
      rw [hadd, cell_of_row w g (o + j) cs t fr hg]
      have hv2 : sub[j]? = some v := by simpa using hv
      rw [← hs, Array.getElem?_extract] at hv2
      split at hv2
      · exact hv2
      · cases hv2)
  cases hq : P.info? ty with
  | none => simp [hq] at hi
  | some i =>
    have hs : i.size = sub.size := by simpa [hq] using hi
    have hagg : (isAgg ty).run P w = .ok true w := by
      unfold isAgg
      rw [Sem.run_bind, run_underlying hu w]
      cases d <;> simp_all
    simp only [Array.length_toList, Array.toArray_toList] at hl
    simp [loadVar, Sem.run_bind, hagg, sizeOf, typeInfo, hq, hs, hl]
theorem wp_load_sub {P : Program} {o : Oper} {a : Act} {w : World} {K : Act → World → Prop} {Q : Exit → Act → World → Prop} (ty : TypeId) (x : Operand) (ho : o.op = .load ty x)
    (g k : Nat) (hx : a.eval x = .pointer (some ⟨g, k, none⟩)) (t : TypeId) (cs sub : Array Value) (fr : Nat × Nat) (d : TypeDesc) (hg : w.heap[g]? = some (.cells cs t fr)) (hs : cs.extract k (k + sub.size) = sub)
    (hu : P.underlying ty = some d) (hd : (match d with | .struct _ | .array _ _ => true | _ => false) = true) (hi : (P.info? ty).map (·.size) = some sub.size)
    (h : K (a.put o.dst (.agg sub)) w) : o.wp P a w K Q := by
  unfold Oper.wp execOp
  simp only [ho, hx, Instr.loadAt, Instr.sureAddr, Sem.run_bind, Sem.run_pure, Result.andThen_ok, run_loadVar_sub w g k t ty cs sub fr d hg hs hu hd hi]
  exact h
theorem wpList_load_sub {P : Program} {ops : Array Oper} {rest : List Oper} {o : Oper} {a : Act} {w : World} {Q : Exit → Act → World → Prop} (hgd : o.guard = none) (ty : TypeId) (x : Operand) (ho : o.op = .load ty x)
    (g k : Nat) (hx : a.eval x = .pointer (some ⟨g, k, none⟩)) (t : TypeId) (cs sub : Array Value) (fr : Nat × Nat) (d : TypeDesc) (hg : w.heap[g]? = some (.cells cs t fr)) (hs : cs.extract k (k + sub.size) = sub)
    (hu : P.underlying ty = some d) (hd : (match d with | .struct _ | .array _ _ => true | _ => false) = true) (hi : (P.info? ty).map (·.size) = some sub.size)
    (h : wpList P ops Q rest (a.put o.dst (.agg sub)) w) : wpList P ops Q (o :: rest) a w :=
  wpList_plain hgd fun _ hK => wp_load_sub ty x ho g k hx t cs sub fr d hg hs hu hd hi (hK _ _ h)
theorem fr_load_sub {P : Program} {S : World → Value → Prop} {o : Oper} {a : Act} {W : World} {X : Prop} {c : Prop} {ic : Decidable c} (hw : c) (ty : TypeId) (x : Operand) (ho : o.op = .load ty x)
    (g k : Nat) (hx : a.eval x = .pointer (some ⟨g, k, none⟩)) (t : TypeId) (cs sub : Array Value) (fr : Nat × Nat) (d : TypeDesc) (hg : W.heap[g]? = some (.cells cs t fr)) (hs : cs.extract k (k + sub.size) = sub)
    (hu : P.underlying ty = some d) (hd : (match d with | .struct _ | .array _ _ => true | _ => false) = true) (hi : (P.info? ty).map (·.size) = some sub.size)
    (h : S W (.agg sub)) : if c then givesV P S ((execOp a.eval o).run P W) else X := by
  rw [if_pos hw]
  unfold execOp
  simp only [ho, hx, Instr.loadAt, Instr.sureAddr, Sem.run_bind, Sem.run_pure, Result.andThen_ok, run_loadVar_sub W g k t ty cs sub fr d hg hs hu hd hi]
  exact h
end Go.Proofs.YtjelnmokcpoofaaGreatDoor
namespace Go.Proofs.YtjelnmokcpoofaaGreatDoor
set_option maxRecDepth 100000
open Go Go.RowKit Go.Proofs
/-- Where a row of one's own lies. -/
theorem MagO.span {w : World} {base : Nat} {a : Option Addr} {n c : Nat} {l : List Nat} (h : MagO w base (.slice a n c) l) : ∀ g, a.map (·.block) = some g → base ≤ g ∧ g < w.heap.size := by
  obtain ⟨_, h | ⟨g, cap, cur, e, h1, h2, _⟩⟩ := h
  · obtain ⟨e, _⟩ := h
    cases e
    intro g hg
    cases hg
  · cases e
    intro k hk
    simp at hk
    subst hk
    exact ⟨h1, (Array.getElem?_eq_some_iff.1 h2).1⟩
theorem blks_int {b : Bool} {a : Option Addr} {n c g : Nat} (h : g ∈ Aloof.blks (.agg #[.bool b, .slice a n c])) : a.map (·.block) = some g := by
  cases a with
  | none => simp [Aloof.blks, Aloof.blk1, Value.cells] at h
  | some a => simpa [Aloof.blks, Aloof.blk1, Value.cells, eq_comm] using h
theorem IntO.span {w : World} {base : Nat} {v : Value} {x : Int} (h : IntO w base v x) : ∀ g ∈ Aloof.blks v, base ≤ g ∧ g < w.heap.size := by
  obtain ⟨b, a, n, c, rfl⟩ := h.r.shape
  obtain ⟨s, e, hm⟩ := h
  cases e
  exact fun g hg => hm.span g (blks_int hg)
theorem IntO.new {w w' : World} {v : Value} {x : Int} {lo : Nat} (h : IntO w' w.heap.size v x) (hl : lo ≤ w.heap.size) : IntO w' lo v x ∧ ∀ g ∈ Aloof.blks v, w.heap.size ≤ g ∧ g < w'.heap.size :=
  ⟨h.mono hl, h.span⟩
theorem ast_intO {ss : List Aloof.FSpec} (lo : Nat) (x : Int) (h : Aloof.StableAll Ext ss) : Aloof.StableAll Ext (.fresh (fun W v => IntO W lo v x) :: ss) :=
  ⟨fun _ _ _ e h => ⟨h.1.ext e, fun g hg => Nat.lt_of_lt_of_le (h.2 g hg) e.size⟩, h⟩
/-- A fraction in two rows of its own. -/
def FracK (lo : Nat) (w : World) (v : Value) (q : Rat) : Prop := FracO w lo v q ∧ (Aloof.blks v).Nodup
theorem FracK.ext {lo : Nat} {w w' : World} {v : Value} {q : Rat} (h : FracK lo w v q) (e : Ext w w') : FracK lo w' v q := ⟨h.1.ext e, h.2⟩
theorem blks_agg2 (b1 : Bool) (a1 : Option Addr) (n1 c1 : Nat) (b2 : Bool) (a2 : Option Addr) (n2 c2 : Nat) : Aloof.blks (.agg #[.bool b1, .slice a1 n1 c1, .bool b2, .slice a2 n2 c2]) = Aloof.blks (.agg #[.bool b1, .slice a1 n1 c1]) ++ Aloof.blks (.agg #[.bool b2, .slice a2 n2 c2]) := by
  cases a1 <;> cases a2 <;> rfl
theorem nodup1 (b : Bool) (a : Option Addr) (n c : Nat) : (Aloof.blks (.agg #[.bool b, .slice a n c])).Nodup := by
  cases a with
  | none => exact List.nodup_nil
  | some a => exact List.nodup_cons.2 ⟨by simp, List.nodup_nil⟩
theorem nodup2 {b1 : Bool} {a1 : Option Addr} {n1 c1 : Nat} {b2 : Bool} {a2 : Option Addr} {n2 c2 : Nat} (h : ∀ g, g ∈ Aloof.blks (.agg #[.bool b1, .slice a1 n1 c1]) → g ∈ Aloof.blks (.agg #[.bool b2, .slice a2 n2 c2]) → False) : (Aloof.blks (.agg #[.bool b1, .slice a1 n1 c1, .bool b2, .slice a2 n2 c2])).Nodup := by
  rw [blks_agg2]
  exact List.nodup_append.2 ⟨nodup1 _ _ _ _, nodup1 _ _ _ _, fun a h1 b h2 e => h a h1 (e ▸ h2)⟩
theorem FracO.span {w : World} {base : Nat} {v : Value} {q : Rat} (h : FracO w base v q) : ∀ g ∈ Aloof.blks v, base ≤ g ∧ g < w.heap.size := by
  obtain ⟨b1, a1, n1, c1, b2, a2, n2, c2, rfl, h1, h2⟩ := h
  rw [blks_agg2]
  intro g hg
  rcases List.mem_append.1 hg with hg | hg
  · exact h1.span g hg
  · exact h2.span g hg
theorem FracK.new {w w' : World} {v : Value} {q : Rat} {lo : Nat} (h : FracK w.heap.size w' v q) (hl : lo ≤ w.heap.size) : FracK lo w' v q ∧ ∀ g ∈ Aloof.blks v, w.heap.size ≤ g ∧ g < w'.heap.size :=
  ⟨⟨h.1.mono hl, h.2⟩, h.1.span⟩
theorem ast_fracK {ss : List Aloof.FSpec} (lo : Nat) (q : Rat) (h : Aloof.StableAll Ext ss) : Aloof.StableAll Ext (.fresh (fun W v => FracK lo W v q) :: ss) :=
  ⟨fun _ _ _ e h => ⟨h.1.ext e, fun g hg => Nat.lt_of_lt_of_le (h.2 g hg) e.size⟩, h⟩
set_option maxRecDepth 100000 in
set_option maxHeartbeats 3200000 in
theorem copy_k (v1 : Value) (x : Rat) (w : World) (hX1 : nf x ≤ 268435456) (h1 : FracR w v1 x) :
    Calls Tryz.prog 58 #[v1] w fun e w' => ∃ v, e = .returned v ∧ Ext w w' ∧ FracK w.heap.size w' v x := by
  have H1 := h1
  obtain ⟨p1, q1, r1, s1, t1, u1, f1, g1, rfl⟩ := h1.shape
  have bn1 : nl x.num ≤ 268435456 := Nat.le_trans (Nat.le_max_left _ _) hX1
  have bd1 : nl (x.den : Int) ≤ 268435456 := Nat.le_trans (Nat.le_max_right _ _) hX1
  have ho := mkHid (fun w => of_c 0 w (by omega) (by omega))
  have pzn := mkHid (fun w v0 (h : IntR w (.agg #[.bool p1, .slice q1 r1 s1]) x.num) h0 => plus_zero _ v0 _ w (Nat.le_trans bn1 (by decide)) h h0)
  have pz := mkHid (fun w v0 (h : IntR w (.agg #[.bool t1, .slice u1 f1 g1]) (x.den : Int)) h0 => plus_zero _ v0 _ w (Nat.le_trans bd1 (by decide)) h h0)
  replace H1 := mkHid H1
  clear h1
  go_enter Tryz.func58, Tryz.ntmps58
  go_wp2_with fail
  obtain ⟨wb, hwb⟩ : ∃ wb, wb = ((w.alloc (.cells #[.bool p1, .slice q1 r1 s1, .bool t1, .slice u1 f1 g1] 52)).alloc (.cells #[.bool false, .slice none 0 0, .bool false, .slice none 0 0] 52)) := ⟨_, rfl⟩
  have hE : Ext w wb := by rw [hwb]; exact (((Ext.refl w).al _).al _)
  have c10 : ∀ W, Ext wb W → W.cell? ⟨w.heap.size, 0, none⟩ = some (.bool p1) := fun W e => e.cell (by rw [hwb]; go_simp)
  have c11 : ∀ W, Ext wb W → W.cell? ⟨w.heap.size, 1, none⟩ = some (.slice q1 r1 s1) := fun W e => e.cell (by rw [hwb]; go_simp)
  have c12 : ∀ W, Ext wb W → W.cell? ⟨w.heap.size, 2, none⟩ = some (.bool t1) := fun W e => e.cell (by rw [hwb]; go_simp)
  have c13 : ∀ W, Ext wb W → W.cell? ⟨w.heap.size, 3, none⟩ = some (.slice u1 f1 g1) := fun W e => e.cell (by rw [hwb]; go_simp)
  have hB : ∀ W, Ext wb W → W.heap[w.heap.size + 1]? = some (.cells #[.bool false, .slice none 0 0, .bool false, .slice none 0 0] 52) := fun W e => e.blk (by rw [hwb]; exact heap_at _ _ _ (by simp))
  have hsz : w.heap.size + 2 ≤ wb.heap.size := by rw [hwb]; simp
  replace H1 := mkHid (H1.out.ext hE)
  rw [← hwb]
  replace hB := mkHid hB
  replace hE := mkHid hE
  clear hwb
  refine (ho.out wb).mono ?_
  rintro e w1 ⟨vo, rfl, hE1, hvo⟩
  obtain ⟨ob, oa, on, oc, rfl⟩ := hvo.r.shape
  have hE1' := mkHid hE1
  have hvo' := mkHid hvo.r
  clear hE1 hvo
  go_wp2_with fail
  obtain ⟨w2, hw2⟩ : ∃ w2, w2 = w1.alloc (.cells #[.bool ob, .slice oa on oc] 50) := ⟨_, rfl⟩
  rw [← hw2]
  have hE2 : Ext wb w2 := by rw [hw2]; exact hE1'.out.al _
  have o0 : ∀ W, Ext w2 W → W.cell? ⟨w1.heap.size, 0, none⟩ = some (.bool ob) := fun W e => e.cell (by rw [hw2]; go_simp)
  have o1 : ∀ W, Ext w2 W → W.cell? ⟨w1.heap.size, 1, none⟩ = some (.slice oa on oc) := fun W e => e.cell (by rw [hw2]; go_simp)
  have Ho := mkHid (show IntR w2 (.agg #[.bool ob, .slice oa on oc]) 0 by rw [hw2]; exact hvo'.out.ext ((Ext.refl _).al _))
  replace c10 := fun W (e : Ext w2 W) => c10 W (hE2.trans e)
  replace c11 := fun W (e : Ext w2 W) => c11 W (hE2.trans e)
  replace c12 := fun W (e : Ext w2 W) => c12 W (hE2.trans e)
  replace c13 := fun W (e : Ext w2 W) => c13 W (hE2.trans e)
  replace hB := mkHid (fun W (e : Ext w2 W) => hB.out W (hE2.trans e))
  replace H1 := mkHid (H1.out.ext hE2)
  replace hE := mkHid (hE.out.trans hE2)
  replace hsz : w.heap.size + 2 ≤ w2.heap.size := Nat.le_trans hsz hE2.size
  clear hE1' hvo' hw2 hE2
  apply region_aloof [.val _, .val _, .val _, .fresh (fun W v => IntO W (w.heap.size + 2) v (x.num)), .val _, .val _, .val _, .fresh (fun W v => IntO W (w.heap.size + 2) v ((x.den : Int)))] (by kernel_rfl) (ast_val _ (ast_val _ (ast_val _ (ast_intO _ _ (ast_val _ (ast_val _ (ast_val _ (ast_intO _ _ trivial))))))))
  refine ⟨fun W hW _ => by go_simp; exact ⟨Ext.refl _, rfl⟩, ?_⟩
  refine ⟨fun W hW _ => by go_simp; exact ⟨Ext.refl _, rfl⟩, ?_⟩
  refine ⟨fun W hW _ => by go_simp; exact ⟨Ext.refl _, rfl⟩, ?_⟩
  refine ⟨fun W hW hF => ?g3, fun v103 => ?_⟩
  case g3 =>
    clear hF
    go_simp
    refine (pzn.out W _ (H1.out.num.ext hW) (Ho.out.ext hW)).mono ?_
    rintro e w' ⟨v, rfl, h1, h2⟩
    exact ⟨v, rfl, h1, h2.new (Nat.le_trans hsz hW.size)⟩
  refine ⟨fun W hW _ => by go_simp; exact ⟨Ext.refl _, rfl⟩, ?_⟩
  refine ⟨fun W hW _ => by go_simp; exact ⟨Ext.refl _, rfl⟩, ?_⟩
  refine ⟨fun W hW _ => by go_simp; exact ⟨Ext.refl _, rfl⟩, ?_⟩
  refine ⟨fun W hW hF => ?g7, fun v107 => fun W hW hF hA => ?fin⟩
  case g7 =>
    clear hF
    go_simp
    refine (pz.out W _ (H1.out.den.ext hW) (Ho.out.ext hW)).mono ?_
    rintro e w' ⟨v, rfl, h1, h2⟩
    exact ⟨v, rfl, h1, h2.new (Nat.le_trans hsz hW.size)⟩
  case fin =>
    have d3 : IntO W (w.heap.size + 2) v103 (x.num) := (hF.2.1 rfl).1
    have d7 : IntO W (w.heap.size + 2) v107 ((x.den : Int)) := (hF.1 rfl).1
    have hap := hA (3, .fresh (fun W v => IntO W (w.heap.size + 2) v (x.num)), v103) (7, .fresh (fun W v => IntO W (w.heap.size + 2) v ((x.den : Int))), v107) (by simp) (by simp) rfl rfl (by simp)
    obtain ⟨x1, x2, x3, x4, rfl⟩ := d3.r.shape
    obtain ⟨y1, y2, y3, y4, rfl⟩ := d7.r.shape
    have R : FracO W (w.heap.size + 2) (.agg #[.bool x1, .slice x2 x3 x4, .bool y1, .slice y2 y3 y4]) (x) := ⟨_, _, _, _, _, _, _, _, rfl, by exact d3, by exact d7⟩
    have hnd := mkHid (nodup2 (b1 := x1) (b2 := y1) fun g h1 h2 => hap g h1 h2)
    have hBW := hB.out W hW
    have FR := ((R.row (g := w.heap.size + 1) (by omega) #[.bool x1, .slice x2 x3 x4, .bool y1, .slice y2 y3 y4]).mono (show w.heap.size ≤ w.heap.size + 2 by omega))
    have FE := (hE.out.trans hW).row (show w.heap.size ≤ w.heap.size + 1 by omega) #[.bool x1, .slice x2 x3 x4, .bool y1, .slice y2 y3 y4]
    replace FR := mkHid FR
    replace FE := mkHid FE
    clear hF hA hap R c10 c11 c12 c13 hW
    go_simp
    go_wp2_with (refine wpList_store_row rfl 52 (.tmp 2) (.tmp 13) rfl (w.heap.size + 1) #[.bool x1, .slice x2 x3 x4, .bool y1, .slice y2 y3 y4] rfl rfl 52 _ hBW (by kernel_rfl) rfl (by kernel_rfl) ?_)
    exact bodyPost_ret (results_cell_row rfl _ _ (w.heap.size + 1) 52 #[.bool x1, .slice x2 x3 x4, .bool y1, .slice y2 y3 y4] (0, 0) _ rfl (setRow_heap _ _ _ _ _ _ hBW) Tryz.underlying52 rfl (by kernel_rfl)) rfl ⟨_, rfl, FE.out, FR.out, hnd.out⟩
end Go.Proofs.YtjelnmokcpoofaaGreatDoor
namespace Go.Proofs.YtjelnmokcpoofaaGreatDoor
set_option maxRecDepth 100000
open Go Go.RowKit Go.Proofs
theorem run_storeCells_at {P : Program} (g k : Nat) (t : TypeId) : ∀ (vs : List Value) (i : Nat) (cur : Array Value) (w : World), w.heap[g]? = some (.cells cur t (0, 0)) → k + i + vs.length ≤ cur.size → (∀ v ∈ vs, v.oneCell' = true) →
    (storeCells ⟨g, k, none⟩ vs i).run P w = .ok () (w.setRow g (cur.toList.take (k + i) ++ vs ++ cur.toList.drop (k + i + vs.length)).toArray)
  | [], i, cur, w, hg, hl, _ => by
    have hlt : g < w.heap.size := (Array.getElem?_eq_some_iff.1 hg).1
    have hv : w.heap[g] = .cells cur t (0, 0) := (Array.getElem?_eq_some_iff.1 hg).2
    simp only [storeCells, List.append_nil, List.length_nil, Nat.add_zero, List.take_append_drop, Array.toArray_toList]
    show Result.ok () w = _
    congr 1
    unfold World.setRow
    cases w with
    | mk heap tape drawn os output =>
      congr 1
      apply Array.ext
      · simp
      · intro j h1 h2
        simp only [Array.getElem_modify]
        split
        · rename_i hk; subst hk; simp at hv; simp [hv]
        · rfl
  | v :: rest, i, cur, w, hg, hl, h1 => by
    have hi : k + i < cur.size := by simp at hl; omega
    have hadd : (⟨g, k, none⟩ : Addr).add i = ⟨g, k + i, none⟩ := by unfold Addr.add; split <;> simp_all
    have hcell : w.cell? ⟨g, k + i, none⟩ = some cur[k + i] := by simp [World.cell?, hg, hi]
    have hfro : w.frozen? ⟨g, k + i, none⟩ = false := by simp [World.frozen?, hg]
    have hst : (store ((⟨g, k, none⟩ : Addr).add i) v).run P w = .ok () (w.setRow g (cur.setIfInBounds (k + i) v)) := by
      rw [hadd, run_store P w _ v _ (h1 v (by simp)), hcell]
      simp [hfro, setCell_eq_setRow w g (k + i) cur t (0, 0) v hg]
    have ih := run_storeCells_at (P := P) g k t rest (i + 1) (cur.setIfInBounds (k + i) v) (w.setRow g (cur.setIfInBounds (k + i) v)) (setRow_heap w g cur _ t _ hg) (by simp at hl ⊢; omega) (fun x hx => h1 x (by simp [hx]))
    simp only [storeCells, Sem.run_bind, hst, Result.andThen_ok, ih, setRow_setRow]
    congr 3
    have e1 : (cur.setIfInBounds (k + i) v).toList.take (k + (i + 1)) = cur.toList.take (k + i) ++ [v] := by
      rw [Array.toList_setIfInBounds, ← Nat.add_assoc, List.take_succ_eq_append_getElem (by simpa using hi), List.take_set, List.set_eq_of_length_le (by rw [List.length_take]; omega)]
      simp
    have e2 : (cur.setIfInBounds (k + i) v).toList.drop (k + (i + 1) + rest.length) = cur.toList.drop (k + i + (rest.length + 1)) := by
      rw [Array.toList_setIfInBounds, List.drop_set_of_lt (by omega)]
      congr 1
      omega
    rw [e1, e2]
    simp
theorem run_storeVar_sub {P : Program} (w : World) (g k : Nat) (t ty : TypeId) (old new sub : Array Value) (hg : w.heap[g]? = some (.cells old t (0, 0))) (hi : (P.info? ty).map (·.size) = some sub.size)
    (hk : k + sub.size ≤ old.size) (hn : new = (old.toList.take k ++ sub.toList ++ old.toList.drop (k + sub.size)).toArray) (h1 : sub.all (·.oneCell') = true) :
    (storeVar ty ⟨g, k, none⟩ (.agg sub)).run P w = .ok () (w.setRow g new) := by
  have := run_storeCells_at (P := P) g k t sub.toList 0 old w hg (by simp; omega) (fun v hv => (Array.all_eq_true_iff_forall_mem.1 h1) v (by simpa using hv))
  cases hq : P.info? ty with
  | none => simp [hq] at hi
  | some i =>
    have hs : sub.size = i.size := by simp [hq] at hi; omega
    simp only [Nat.add_zero, Array.length_toList] at this
    simp [storeVar, sizeOf, typeInfo, hq, Value.cells, hs, hn, this]
theorem wpList_store_sub {P : Program} {ops : Array Oper} {rest : List Oper} {o : Oper} {a : Act} {w : World} {Q : Exit → Act → World → Prop} (hgd : o.guard = none) (ty : TypeId) (x y : Operand) (ho : o.op = .store ty x y)
    (g k : Nat) (hx : a.eval x = .pointer (some ⟨g, k, none⟩)) (t : TypeId) (old new sub : Array Value) (hy : a.eval y = .agg sub) (hg : w.heap[g]? = some (.cells old t (0, 0))) (hi : (P.info? ty).map (·.size) = some sub.size)
    (hk : k + sub.size ≤ old.size) (hn : new = (old.toList.take k ++ sub.toList ++ old.toList.drop (k + sub.size)).toArray) (h1 : sub.all (·.oneCell') = true)
    (h : wpList P ops Q rest (a.put o.dst undef) (w.setRow g new)) : wpList P ops Q (o :: rest) a w :=
  wpList_plain hgd fun _ hK => by
    unfold Oper.wp execOp
    simp only [ho, hx, hy, Instr.storeAt, Instr.sureAddr, Sem.run_bind, Sem.run_pure, Result.andThen_ok, run_storeVar_sub w g k t ty old new sub hg hi hk hn h1]
    exact hK _ _ h
theorem fr_load_subA {P : Program} {S : World → Value → Prop} {o : Oper} {a : Act} {W : World} {X : Prop} {c : Prop} {ic : Decidable c} (hw : c) (ty : TypeId) (x : Operand) (ho : o.op = .load ty x)
    (g k : Nat) (hx : a.eval x = .pointer (some ⟨g, k, none⟩)) (t : TypeId) (cs sub : Array Value) (fr : Nat × Nat) (d : TypeDesc) (hg : W.heap[g]? = some (.cells cs t fr)) (hs : cs.extract k (k + sub.size) = sub)
    (hu : P.underlying ty = some d) (hd : (match d with | .struct _ | .array _ _ => true | _ => false) = true) (hi : (P.info? ty).map (·.size) = some sub.size)
    (h : S W (.agg sub)) : if c then Aloof.givesV P S ((execOp a.eval o).run P W) else X := by
  rw [if_pos hw]
  unfold execOp
  simp only [ho, hx, Instr.loadAt, Instr.sureAddr, Sem.run_bind, Sem.run_pure, Result.andThen_ok, run_loadVar_sub W g k t ty cs sub fr d hg hs hu hd hi]
  exact h
end Go.Proofs.YtjelnmokcpoofaaGreatDoor
