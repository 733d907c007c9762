/-
  polestarref01: add, sub. polestarref01: mul, times. polestarref01: short, half, even. polestarref01: fitting. polestarref01: divide. ratio: Check. ratio: Checks, Long, Answer. frac: answered, Make, Of. frac: always, do, Mul, Sub. frac: Mul, Sub. frac: Make, Of; the law's whole. law01: SameInt.
-/
import Derived.Test.YtjelnmokcpoofaaGreatDoorTAD
import Derived.Test.YtjelnmokcpoofaaGreatDoorTAA
import Derived.Test.YtjelnmokcpoofaaGreatDoorTAB
import Derived.Laws.AppendOwnNone
namespace Go.Proofs.YtjelnmokcpoofaaGreatDoor
set_option maxRecDepth 100000
open Go Go.RowKit Go.Proofs
theorem getD_out {l : List Nat} {k : Nat} (h : ¬ k < l.length) : l.getD k 0 = 0 := by
 simp [List.getD_eq_getElem?_getD, List.getElem?_eq_none (show l.length ≤ k by omega)]
theorem val_take_any (l : List Nat) (k : Nat) : val (l.take (k + 1)) = val (l.take k) + 4294967296 ^ k * l.getD k 0 := by
 by_cases h : k < l.length
 ·exact val_take_succ l k h
 ·rw [getD_out h, List.take_of_length_le (by omega), List.take_of_length_le (by omega)]; simp
theorem val_snoc (q : List Nat) (x : Nat) : val (q ++ [x]) = val q + 4294967296 ^ q.length * x := by
 rw [val_append]; simp [val]
def AddI (l m q : List Nat) (k c : Nat) : Prop := q.length = k ∧ OkL q ∧ c ≤ 1 ∧ val q + 4294967296 ^ k * c = val (l.take k) + val (m.take k) ∧ k ≤ max l.length m.length + 1 ∧ (k ≤ max l.length m.length ∨ c = 0)
theorem addI_start (l m : List Nat) : AddI l m [] 0 0 := ⟨rfl, (fun x h => by cases h), by omega, by simp [val], by omega, by omega⟩
theorem addI_step {l m q : List Nat} {k c : Nat} (h : AddI l m q k c) (hl : OkL l) (hm : OkL m) (hg : k < l.length ∨ k < m.length ∨ 0 < c) :
  AddI l m (q ++ [(c + l.getD k 0 + m.getD k 0) % 4294967296]) (k + 1) ((c + l.getD k 0 + m.getD k 0) / 4294967296) := by
 obtain ⟨h1, h2, h3, h4, h5, h6⟩ := h
 have hx := okL_get hl k
 have hy := okL_get hm k
 refine ⟨by simp [h1], okL_append.2 ⟨h2, fun x hx => by simp at hx; omega⟩, by omega, ?_, by omega, ?_⟩
 ·rw [val_snoc, h1, val_take_any l k, val_take_any m k, Nat.pow_succ]
  have e : c + l.getD k 0 + m.getD k 0 = (c + l.getD k 0 + m.getD k 0) % 4294967296 + 4294967296 * ((c + l.getD k 0 + m.getD k 0) / 4294967296) := (Nat.mod_add_div _ _).symm
  generalize (c + l.getD k 0 + m.getD k 0) % 4294967296 = r at *
  generalize (c + l.getD k 0 + m.getD k 0) / 4294967296 = s at *
  generalize 4294967296 ^ k = p at *
  have e2 : p * (c + l.getD k 0 + m.getD k 0) = p * (r + 4294967296 * s) := by rw [e]
  simp only [Nat.mul_add] at e2
  rw [← Nat.mul_assoc] at e2
  omega
 ·by_cases hk : k < max l.length m.length
  ·exact .inl (by omega)
  ·right
   rw [getD_out (show ¬ k < l.length by omega), getD_out (show ¬ k < m.length by omega)]
   omega
theorem addI_end {l m q : List Nat} {k c : Nat} (h : AddI l m q k c) (h1 : ¬ k < l.length) (h2 : ¬ k < m.length) (h3 : c = 0) : OkL q ∧ q.length ≤ max l.length m.length + 1 ∧ val q = val l + val m := by
 obtain ⟨g1, g2, g3, g4, g5, g6⟩ := h
 subst h3
 rw [List.take_of_length_le (by omega), List.take_of_length_le (by omega)] at g4
 exact ⟨g2, by omega, by omega⟩
theorem magO_snoc {w : World} {base : Nat} {v : Value} {q : List Nat} {d : Int} {x : Nat} (h : w.ownsRow base 140 1 v (q.length + 1) (limV q ++ [.int .u32 d])) (hd : d = (x : Int)) : MagO w base v (q ++ [x]) := by
 unfold MagO limV at *
 rw [hd] at h
 simpa using h
theorem cells_new {w : World} {T : Nat} {u : Value} : ∀ j x, [u][j]? = some x → (w.alloc (.cells #[u] T)).cell? ((⟨w.heap.size, 0, none⟩ : Addr).add j) = some x := by
 intro j x hx
 cases j with
 | zero =>
  simp at hx
  subst hx
  have : (⟨w.heap.size, 0, none⟩ : Addr).add 0 = ⟨w.heap.size, 0, none⟩ := by simp [Addr.add]
  rw [this]
  unfold World.cell?
  rw [heap_alloc_new]
  rfl
 | succ j => simp at hx
theorem one_u32 {d : Int} : ∀ u ∈ [Value.int .u32 d], u.oneCell' = true := by
 intro u hu
 simp at hu
 subst hu
 rfl
theorem Ext.app {w wr w1 : World} {o : Obj} {E sz n : Nat} {v : Value} {xs : List Value} (e : Ext w wr) (h : wr.ownsRow w.heap.size E sz v n xs) (hg : (wr.alloc o).grownBy w1 v.ownBlock) : Ext w w1 :=
 (e.al o).gr hg fun k hk => (World.ownsRow.lt h k hk).1
set_option maxHeartbeats 3200000 in
theorem radd_c (a a' : Option Addr) (c c' : Nat) (l m : List Nat) (w : World) (hl : l.length ≤ 2147483648) (hm : m.length ≤ 2147483648) (okl : OkL l) (okm : OkL m)
  (h : Row w a (limV l)) (h' : Row w a' (limV m)) :
  Calls Tryz.prog 130 #[.slice a l.length c, .slice a' m.length c'] w fun e w' => ∃ v q, e = .returned v ∧ MagO w' w.heap.size v q ∧ OkL q ∧ q.length ≤ max l.length m.length + 1 ∧ val q = val l + val m ∧ Ext w w' := by
 obtain ⟨b, off, ha, hc⟩ := h
 obtain ⟨b', off', ha', hc'⟩ := h'
 replace ha := mK ha
 replace hc := mK hc
 replace ha' := mK ha'
 replace hc' := mK hc'
 have hst := mK (addI_start l m)
 obtain ⟨i0, hi, hz0, hz1, hz2⟩ := info_parts u32_info
 go_enter Tryz.func130, Tryz.ntmps130
 go_wp2_with fail
 go_loopw [5, 6, 7, 8] (fun v s i _ wr => ∃ k cr q, i = .int .i64 (k : Nat) ∧ s = .int .u64 (cr : Nat) ∧ MagO wr w.heap.size v q ∧ AddI l m q k cr ∧ Ext w wr) (fun _ _ i _ _ => (max l.length m.length + 2) - (intOf i).toNat)
 case atStart => exact ⟨0, 0, [], rfl, rfl, magO_nil _ _, hst.out, xR _⟩
 case round =>
  obtain ⟨k, cr, q, rfl, rfl, ho, had, he⟩ := hrel
  have hk := had.2.2.2.2.1
  have hcr := had.2.2.1
  have hql : q.length ≤ 2147483650 := by have := had.1; omega
  have ho0 := mK ho
  by_cases hkl : k < l.length
  ·have h1 := he.cell (row_at hc.out hkl)
   have hA := ha.out (limV_ne hkl)
   have hxl := okL_get okl k
   by_cases hkm : k < m.length
   ·have h2 := he.cell (row_at hc'.out hkm)
    have hA' := ha'.out (limV_ne hkm)
    have hyl := okL_get okm k
    have hnext := mK (addI_step had okl okm (.inl hkl))
    rw [hA, hA']
    replace hA := mK hA
    replace hA' := mK hA'
    replace had := mK had
    generalize l.getD k 0 = x at *
    generalize m.getD k 0 = y at *
    go_wp2_with (at_builtin; refine wpList_append_own _ rfl (.tmp 48) (.tmp 52) 48 rfl w.heap.size 140 i0 (.int .u32 0) 1 4 u32_under hi hz0 hz1 hz2 rfl (by decide) _ q.length (limV q) rfl (World.ownsRow.alloc ho _) ⟨wr.heap.size, 0, none⟩ 1 1 [.int .u32 (((cr : Int) + x + y) % 4294967296)] rfl rfl cells_new one_u32 ?c3 ?c4 ?c5 ?_)
    case c3 => unfold maxLen; have := hql; omega
    case c4 => have := hql; omega
    case c5 => have := he.size; simp; omega
    intro v' w1 hown hgrow _
    replace ho := mK (magO_snoc hown (show _ = (((cr + x + y) % 4294967296 : Nat) : Int) by simp))
    replace he := mK (he.app ho0.out hgrow)
    clear hown hgrow
    go_wp2_with fail
    go_roundw
    case rel => exact ⟨k + 1, (cr + x + y) / 4294967296, _, by go_num, by simp, ho.out, hnext.out, he.out⟩
    case measure => simp [intOf] <;> omega
   ·have hnext := addI_step had okl okm (.inl hkl)
    rw [getD_out hkm, Nat.add_zero] at hnext
    replace hnext := mK hnext
    rw [hA]
    replace hA := mK hA
    replace had := mK had
    generalize l.getD k 0 = x at *
    go_wp2_with (at_builtin; refine wpList_append_own _ rfl (.tmp 48) (.tmp 52) 48 rfl w.heap.size 140 i0 (.int .u32 0) 1 4 u32_under hi hz0 hz1 hz2 rfl (by decide) _ q.length (limV q) rfl (World.ownsRow.alloc ho _) ⟨wr.heap.size, 0, none⟩ 1 1 [.int .u32 (((cr : Int) + x) % 4294967296)] rfl rfl cells_new one_u32 ?c3 ?c4 ?c5 ?_)
    case c3 => unfold maxLen; have := hql; omega
    case c4 => have := hql; omega
    case c5 => have := he.size; simp; omega
    intro v' w1 hown hgrow _
    replace ho := mK (magO_snoc hown (show _ = (((cr + x) % 4294967296 : Nat) : Int) by simp))
    replace he := mK (he.app ho0.out hgrow)
    clear hown hgrow
    go_wp2_with fail
    go_roundw
    case rel => exact ⟨k + 1, (cr + x) / 4294967296, _, by go_num, by simp, ho.out, hnext.out, he.out⟩
    case measure => simp [intOf] <;> omega
  ·by_cases hkm : k < m.length
   ·have h2 := he.cell (row_at hc'.out hkm)
    have hA' := ha'.out (limV_ne hkm)
    have hyl := okL_get okm k
    have hnext := addI_step had okl okm (.inr (.inl hkm))
    rw [getD_out hkl, Nat.add_zero] at hnext
    replace hnext := mK hnext
    rw [hA']
    replace hA' := mK hA'
    replace had := mK had
    generalize m.getD k 0 = y at *
    go_wp2_with (at_builtin; refine wpList_append_own _ rfl (.tmp 48) (.tmp 52) 48 rfl w.heap.size 140 i0 (.int .u32 0) 1 4 u32_under hi hz0 hz1 hz2 rfl (by decide) _ q.length (limV q) rfl (World.ownsRow.alloc ho _) ⟨wr.heap.size, 0, none⟩ 1 1 [.int .u32 (((cr : Int) + y) % 4294967296)] rfl rfl cells_new one_u32 ?c3 ?c4 ?c5 ?_)
    case c3 => unfold maxLen; have := hql; omega
    case c4 => have := hql; omega
    case c5 => have := he.size; simp; omega
    intro v' w1 hown hgrow _
    replace ho := mK (magO_snoc hown (show _ = (((cr + y) % 4294967296 : Nat) : Int) by simp))
    replace he := mK (he.app ho0.out hgrow)
    clear hown hgrow
    go_wp2_with fail
    go_roundw
    case rel => exact ⟨k + 1, (cr + y) / 4294967296, _, by go_num, by simp, ho.out, hnext.out, he.out⟩
    case measure => simp [intOf] <;> omega
   ·by_cases h0 : cr = 0
    ·have hend := mK (addI_end had hkl hkm h0)
     subst h0
     replace had := mK had
     replace ho := mK ho
     replace he := mK he
     go_wp2_with fail
     go_ret
     exact ⟨_, _, rfl, ho.out, hend.out.1, hend.out.2.1, hend.out.2.2, he.out⟩
    ·have hnext := addI_step had okl okm (.inr (.inr (by omega)))
     rw [getD_out hkl, getD_out hkm, Nat.add_zero, Nat.add_zero] at hnext
     have hcp : 0 < cr := by omega
     have hki : k ≤ max l.length m.length := by have := had.2.2.2.2.2; omega
     replace hnext := mK hnext
     replace had := mK had
     replace h0 := mK h0
     go_wp2_with (at_builtin; refine wpList_append_own _ rfl (.tmp 48) (.tmp 52) 48 rfl w.heap.size 140 i0 (.int .u32 0) 1 4 u32_under hi hz0 hz1 hz2 rfl (by decide) _ q.length (limV q) rfl (World.ownsRow.alloc ho _) ⟨wr.heap.size, 0, none⟩ 1 1 [.int .u32 ((cr : Int) % 4294967296)] rfl rfl cells_new one_u32 ?c3 ?c4 ?c5 ?_)
     case c3 => unfold maxLen; have := hql; omega
     case c4 => have := hql; omega
     case c5 => have := he.size; simp; omega
     intro v' w1 hown hgrow _
     replace ho := mK (magO_snoc hown (show _ = ((cr % 4294967296 : Nat) : Int) by simp))
     replace he := mK (he.app ho0.out hgrow)
     clear hown hgrow
     go_wp2_with fail
     go_roundw
     case rel => exact ⟨k + 1, cr / 4294967296, _, by go_num, by simp, ho.out, hnext.out, he.out⟩
     case measure => simp [intOf] <;> omega
def SubI (l m q : List Nat) (k c : Nat) : Prop := q.length = k ∧ k ≤ l.length ∧ OkL q ∧ c ≤ 1 ∧ val q + val (m.take k) = val (l.take k) + 4294967296 ^ k * c
theorem subI_start (l m : List Nat) : SubI l m [] 0 0 := ⟨rfl, by omega, (fun x h => by cases h), by omega, by simp [val]⟩
theorem subI_step {l m q : List Nat} {k c d c' : Nat} (h : SubI l m q k c) (hk : k < l.length) (hd : d < 4294967296) (hc' : c' ≤ 1) (e : d + m.getD k 0 + c = l.getD k 0 + 4294967296 * c') :
  SubI l m (q ++ [d]) (k + 1) c' := by
 obtain ⟨h1, h2, h3, h4, h5⟩ := h
 refine ⟨by simp [h1], by omega, okL_append.2 ⟨h3, fun x hx => by simp at hx; omega⟩, hc', ?_⟩
 rw [val_snoc, h1, val_take_any l k, val_take_any m k, Nat.pow_succ]
 generalize 4294967296 ^ k = p at *
 have e2 : p * (d + m.getD k 0 + c) = p * (l.getD k 0 + 4294967296 * c') := by rw [e]
 simp only [Nat.mul_add] at e2
 rw [← Nat.mul_assoc] at e2
 omega
theorem subI_end {l m q : List Nat} {c : Nat} (h : SubI l m q l.length c) (hm : m.length ≤ l.length) (hv : val m ≤ val l) : OkL q ∧ q.length = l.length ∧ val q = val l - val m := by
 obtain ⟨h1, h2, h3, h4, h5⟩ := h
 refine ⟨h3, h1, ?_⟩
 rw [List.take_length, List.take_of_length_le hm] at h5
 have hq := val_lt h3
 rw [h1] at hq
 have : c = 0 ∨ c = 1 := by omega
 rcases this with rfl | rfl <;> simp at h5 <;> omega
set_option maxHeartbeats 3200000 in
theorem rsub_c (a a' : Option Addr) (c c' : Nat) (l m : List Nat) (w : World) (hl : l.length ≤ 2147483648) (hml : m.length ≤ l.length) (okl : OkL l) (okm : OkL m) (hv : val m ≤ val l)
  (h : Row w a (limV l)) (h' : Row w a' (limV m)) :
  Calls Tryz.prog 236 #[.slice a l.length c, .slice a' m.length c'] w fun e w' => ∃ v, e = .returned v ∧ MagO w' w.heap.size v (lim (val l - val m)) ∧ Ext w w' := by
 obtain ⟨b, off, ha, hc⟩ := h
 obtain ⟨b', off', ha', hc'⟩ := h'
 replace ha := mK ha
 replace hc := mK hc
 replace ha' := mK ha'
 replace hc' := mK hc'
 replace hv := mK hv
 have hst := mK (subI_start l m)
 obtain ⟨i0, hi, hz0, hz1, hz2⟩ := info_parts u32_info
 go_enter Tryz.func236, Tryz.ntmps236
 go_wp2_with fail
 go_loopw [5, 6, 7, 8, 9] (fun v s i _ _ wr => ∃ k cr q, i = .int .i64 (k : Nat) ∧ s = .int .u64 (cr : Nat) ∧ MagO wr w.heap.size v q ∧ SubI l m q k cr ∧ Ext w wr) (fun _ _ i _ _ _ => l.length - (intOf i).toNat)
 case atStart => exact ⟨0, 0, [], rfl, rfl, magO_nil _ _, hst.out, xR _⟩
 case round =>
  obtain ⟨k, cr, q, rfl, rfl, ho, had, he⟩ := hrel
  have hk := had.2.1
  have hcr := had.2.2.2.1
  have hql : q.length ≤ 2147483648 := by have := had.1; omega
  have ho0 := mK ho
  by_cases hkl : k < l.length
  ·have h1 := he.cell (row_at hc.out hkl)
   have hA := ha.out (limV_ne hkl)
   have hxl := okL_get okl k
   have hyl := okL_get okm k
   obtain ⟨x, hxe⟩ : ∃ x, x = l.getD k 0 := ⟨_, rfl⟩
   obtain ⟨y, hye⟩ : ∃ y, y = m.getD k 0 := ⟨_, rfl⟩
   rw [hA]
   rw [← hxe] at h1 hxl
   rw [← hye] at hyl
   replace hxe := mK hxe
   replace hA := mK hA
   by_cases hkm : k < m.length
   ·have h2 := he.cell (row_at hc'.out hkm)
    have hA' := ha'.out (limV_ne hkm)
    rw [← hye] at h2
    rw [hA']
    replace hA' := mK hA'
    replace hye := mK hye
    by_cases hlt : x < cr + y
    ·have hlt2 : (x : Int) < ((cr : Int) + y) := by omega
     have hb1 : ((cr : Int) + y) ≤ x + 4294967296 := by omega
     have hnext := mK (subI_step (d := x + 4294967296 - (cr + y)) (c' := 1) had hkl (by omega) (by omega) (by rw [← hxe.out, ← hye.out]; omega))
     have hdd := mK (show (x : Int) + 4294967296 - (((cr : Int) + y)) = ((x + 4294967296 - (cr + y) : Nat) : Int) by omega)
     replace had := mK had
     replace hlt := mK hlt
     go_wp2_with (at_builtin; refine wpList_append_own _ rfl (.tmp 38) (.tmp 43) 48 rfl w.heap.size 140 i0 (.int .u32 0) 1 4 u32_under hi hz0 hz1 hz2 rfl (by decide) _ q.length (limV q) rfl (World.ownsRow.alloc ho _) ⟨wr.heap.size, 0, none⟩ 1 1 [.int .u32 ((x : Int) + 4294967296 - (((cr : Int) + y)))] rfl rfl cells_new one_u32 ?c3 ?c4 ?c5 ?_)
     case c3 => unfold maxLen; have := hql; omega
     case c4 => have := hql; omega
     case c5 => have := he.size; simp; omega
     intro v' w1 hown hgrow _
     replace ho := mK (magO_snoc hown (hdd.out))
     replace he := mK (he.app ho0.out hgrow)
     clear hown hgrow
     go_wp2_with fail
     go_roundw
     case rel => exact ⟨k + 1, 1, _, by go_num, by simp, ho.out, hnext.out, he.out⟩
     case measure => simp [intOf] <;> omega
    ·have hlt2 : ¬ (x : Int) < ((cr : Int) + y) := by omega
     have hnext := mK (subI_step (d := x - (cr + y)) (c' := 0) had hkl (by omega) (by omega) (by rw [← hxe.out, ← hye.out]; omega))
     have hdd := mK (show (x : Int) - (((cr : Int) + y)) = ((x - (cr + y) : Nat) : Int) by omega)
     replace had := mK had
     replace hlt := mK hlt
     go_wp2_with (at_builtin; refine wpList_append_own _ rfl (.tmp 38) (.tmp 43) 48 rfl w.heap.size 140 i0 (.int .u32 0) 1 4 u32_under hi hz0 hz1 hz2 rfl (by decide) _ q.length (limV q) rfl (World.ownsRow.alloc ho _) ⟨wr.heap.size, 0, none⟩ 1 1 [.int .u32 ((x : Int) - (((cr : Int) + y)))] rfl rfl cells_new one_u32 ?c3 ?c4 ?c5 ?_)
     case c3 => unfold maxLen; have := hql; omega
     case c4 => have := hql; omega
     case c5 => have := he.size; simp; omega
     intro v' w1 hown hgrow _
     replace ho := mK (magO_snoc hown (hdd.out))
     replace he := mK (he.app ho0.out hgrow)
     clear hown hgrow
     go_wp2_with fail
     go_roundw
     case rel => exact ⟨k + 1, 0, _, by go_num, by simp, ho.out, hnext.out, he.out⟩
     case measure => simp [intOf] <;> omega
   ·have hy0 : y = 0 := by rw [hye]; exact getD_out hkm
    replace hye := mK hye
    replace hy0 := mK hy0
    have := hy0.out
    subst this
    by_cases hlt : x < cr
    ·have hlt2 : (x : Int) < (cr : Int) := by omega
     have hb1 : (cr : Int) ≤ x + 4294967296 := by omega
     have hnext := mK (subI_step (d := x + 4294967296 - (cr)) (c' := 1) had hkl (by omega) (by omega) (by rw [← hxe.out, ← hye.out]; omega))
     have hdd := mK (show (x : Int) + 4294967296 - ((cr : Int)) = ((x + 4294967296 - (cr) : Nat) : Int) by omega)
     replace had := mK had
     replace hlt := mK hlt
     go_wp2_with (at_builtin; refine wpList_append_own _ rfl (.tmp 38) (.tmp 43) 48 rfl w.heap.size 140 i0 (.int .u32 0) 1 4 u32_under hi hz0 hz1 hz2 rfl (by decide) _ q.length (limV q) rfl (World.ownsRow.alloc ho _) ⟨wr.heap.size, 0, none⟩ 1 1 [.int .u32 ((x : Int) + 4294967296 - ((cr : Int)))] rfl rfl cells_new one_u32 ?c3 ?c4 ?c5 ?_)
     case c3 => unfold maxLen; have := hql; omega
     case c4 => have := hql; omega
     case c5 => have := he.size; simp; omega
     intro v' w1 hown hgrow _
     replace ho := mK (magO_snoc hown (hdd.out))
     replace he := mK (he.app ho0.out hgrow)
     clear hown hgrow
     go_wp2_with fail
     go_roundw
     case rel => exact ⟨k + 1, 1, _, by go_num, by simp, ho.out, hnext.out, he.out⟩
     case measure => simp [intOf] <;> omega
    ·have hlt2 : ¬ (x : Int) < (cr : Int) := by omega
     have hnext := mK (subI_step (d := x - (cr)) (c' := 0) had hkl (by omega) (by omega) (by rw [← hxe.out, ← hye.out]; omega))
     have hdd := mK (show (x : Int) - ((cr : Int)) = ((x - (cr) : Nat) : Int) by omega)
     replace had := mK had
     replace hlt := mK hlt
     go_wp2_with (at_builtin; refine wpList_append_own _ rfl (.tmp 38) (.tmp 43) 48 rfl w.heap.size 140 i0 (.int .u32 0) 1 4 u32_under hi hz0 hz1 hz2 rfl (by decide) _ q.length (limV q) rfl (World.ownsRow.alloc ho _) ⟨wr.heap.size, 0, none⟩ 1 1 [.int .u32 ((x : Int) - ((cr : Int)))] rfl rfl cells_new one_u32 ?c3 ?c4 ?c5 ?_)
     case c3 => unfold maxLen; have := hql; omega
     case c4 => have := hql; omega
     case c5 => have := he.size; simp; omega
     intro v' w1 hown hgrow _
     replace ho := mK (magO_snoc hown (hdd.out))
     replace he := mK (he.app ho0.out hgrow)
     clear hown hgrow
     go_wp2_with fail
     go_roundw
     case rel => exact ⟨k + 1, 0, _, by go_num, by simp, ho.out, hnext.out, he.out⟩
     case measure => simp [intOf] <;> omega
  ·obtain rfl : k = l.length := by omega
   have hend := subI_end had hml hv.out
   obtain ⟨aa, cc, rfl, hle, hrow⟩ := ho.r
   have hres := ho.lim hend.1
   have hcall := fun w' (e : Row w' aa (limV q)) => rtrim_c aa q cc w' hend.1 (by omega) hle e
   rw [hend.2.2] at hres hcall
   rw [hend.2.1] at hcall ⊢
   replace hcall := mK hcall
   replace hres := mK hres
   replace hrow := mK hrow
   replace had := mK had
   replace hend := mK hend
   replace he := mK he
   clear ho ho0
   go_wp2_with fail
   refine (hcall.out _ hrow.out).mono ?_
   rintro e w' ⟨rfl, rfl⟩
   go_wp2_with fail
   go_ret
   exact ⟨_, rfl, hres.out, he.out⟩
def Blk (w : World) (g : Nat) (q : List Nat) : Prop := w.heap[g]? = some (.cells (limV q).toArray 140 (0, 0))
theorem Blk.cell {w : World} {g : Nat} {q : List Nat} (h : Blk w g q) {k : Nat} (hk : k < q.length) : w.cell? ⟨g, k, none⟩ = some (.int .u32 ((q.getD k 0 : Nat) : Int)) := by
 unfold Blk at h
 simp [World.cell?, h, limV, hk]
theorem Blk.frozen {w : World} {g : Nat} {q : List Nat} (h : Blk w g q) (k : Nat) : w.frozen? ⟨g, k, none⟩ = false := by
 unfold Blk at h
 simp [World.frozen?, h]
theorem Blk.set {w : World} {g : Nat} {q : List Nat} (h : Blk w g q) (k v : Nat) : Blk (w.setCell ⟨g, k, none⟩ (.int .u32 (v : Int))) g (q.set k v) := by
 unfold Blk at *
 have := limV_arr_set q k v
 unfold World.setCell
 show (w.heap.modify g _)[g]? = _
 rw [Array.getElem?_modify, if_pos rfl, h, ← this]
 rfl
theorem Blk.ext {w w' : World} {g : Nat} {q : List Nat} (h : Blk w g q) (e : Ext w w') : Blk w' g q := e.blk h
theorem blk_new (w : World) (q : List Nat) : Blk (w.alloc (.cells (limV q).toArray 140)) w.heap.size q := heap_alloc_new w _
theorem Blk.own {w : World} {g : Nat} {q : List Nat} (h : Blk w g q) (hl : q.length ≤ 4294967296) : MagO w g (.slice (some ⟨g, 0, none⟩) q.length q.length) q := by
 refine ⟨by simp [limV], .inr ⟨g, q.length, _, rfl, nR _, h, nR _, by unfold maxLen; omega, by simp [limV], ?_⟩⟩
 rw [Nat.mul_one, List.take_of_length_le (by simp [limV])]
set_option maxHeartbeats 3200000 in
theorem rmul_c (a a' : Option Addr) (c c' : Nat) (l m : List Nat) (w : World) (hl : l.length ≤ 1073741824) (hm : m.length ≤ 1073741824) (okl : OkL l) (okm : OkL m)
  (h : Row w a (limV l)) (h' : Row w a' (limV m)) :
  Calls Tryz.prog 185 #[.slice a l.length c, .slice a' m.length c'] w fun e w' => ∃ v, e = .returned v ∧ MagO w' w.heap.size v (lim (val l * val m)) ∧ Ext w w' := by
 obtain ⟨b, off, ha, hc⟩ := h
 obtain ⟨b', off', ha', hc'⟩ := h'
 replace ha := mK ha
 replace hc := mK hc
 replace ha' := mK ha'
 replace hc' := mK hc'
 have hmk := fun w => make32 (l.length + m.length) w (by omega)
 rw [show (((l.length + m.length : Nat)) : Int) = (l.length : Int) + m.length by omega] at hmk
 have hst := mK (mulO_start l m)
 go_enter Tryz.func185, Tryz.ntmps185
 go_wp2_with fail
 go_loopw [6, 7, 8, 9] (fun i _ _ _ wr => ∃ k q, k ≤ l.length ∧ i = .int .i64 (k : Nat) ∧ Blk wr w.heap.size q ∧ MulO l m q k ∧ Ext w wr) (fun i _ _ _ _ => l.length - (intOf i).toNat)
 case atStart => exact ⟨0, _, Nat.zero_le _, rfl, blk_new _ _, hst.out, (xR w).al _⟩
 case round =>
  obtain ⟨k, q, hk, rfl, hB, hmo, he⟩ := hrel
  obtain ⟨wo, rfl⟩ : ∃ wo : World, wo = wr := ⟨_, rfl⟩
  replace hmo := mK hmo
  replace hB := mK hB
  replace he := mK he
  by_cases hkl : k < l.length
  ·have hA := ha.out (limV_ne hkl)
   rw [hA]
   replace hA := mK hA
   have hu := okL_get okl k
   obtain ⟨u, hu'⟩ : ∃ u, u = l.getD k 0 := ⟨_, rfl⟩
   rw [← hu'] at hu
   have hi0 := mK (mulI_start hmo.out)
   replace hu' := mK hu'
   have hkl' := mK hkl
   go_wp2_with fail
   go_loopw [7, 8, 9] (fun s i _ wr => ∃ kk cr q, kk ≤ m.length ∧ i = .int .i64 (kk : Nat) ∧ s = .int .u64 (cr : Nat) ∧ Blk wr w.heap.size q ∧ MulI l m q k kk cr ∧ Ext w wr) (fun _ i _ _ => m.length - (intOf i).toNat)
   case atStart => exact ⟨0, 0, q, Nat.zero_le _, rfl, rfl, hB.out, hi0.out, he.out⟩
   case round =>
    obtain ⟨kk, cr, q, hkk, rfl, rfl, hB, hmi, he⟩ := hrel
    have hq1 := hmi.1
    have hcr := hmi.2.2.1
    by_cases hkk2 : kk < m.length
    ·have h1 := he.cell (row_at hc.out hkl'.out)
     have h2 := he.cell (row_at hc'.out hkk2)
     rw [← hu'.out] at h1
     have hA' := ha'.out (limV_ne hkk2)
     have hv := okL_get okm kk
     have hold := hB.cell (k := k + kk) (by omega)
     have hfr := hB.frozen (k + kk)
     have ho := okL_get hmi.2.1 (k + kk)
     have hnext := mulI_step hmi hkl'.out hkk2 okl okm
     rw [← hu'.out] at hnext
     have hb := mul_bounds hu hv ho hcr
     obtain ⟨R, hR⟩ : ∃ R, R = (cr + (u * m.getD kk 0 + q.getD (k + kk) 0)) := ⟨_, rfl⟩
     rw [← hR] at hnext
     have hset := hB.set (k + kk) (R % 4294967296)
     have hes := he.st (p := ⟨w.heap.size, k + kk, none⟩) (nR _) (.int .u32 ((R % 4294967296 : Nat) : Int))
     have hRD : ((R % 4294967296 : Nat) : Int) = ((u : Int) * (m.getD kk 0 : Nat) + (q.getD (k + kk) 0 : Nat) + cr) % 4294967296 := by
      rw [hR]; simp only [Int.natCast_emod, Int.natCast_add, Int.natCast_mul]; congr 1; omega
     have hRQ : ((R / 4294967296 : Nat) : Int) = ((u : Int) * (m.getD kk 0 : Nat) + (q.getD (k + kk) 0 : Nat) + cr) / 4294967296 := by
      rw [hR]; simp only [Int.natCast_ediv, Int.natCast_add, Int.natCast_mul]; congr 1; omega
     rw [hRD] at hset hes
     replace hRD := mK hRD
     replace hRQ := mK hRQ
     rw [hA']
     replace hA' := mK hA'
     replace hnext := mK hnext
     replace hmi := mK hmi
     replace hset := mK hset
     replace hes := mK hes
     replace he := mK he
     replace hB := mK hB
     generalize m.getD kk 0 = v at *
     generalize q.getD (k + kk) 0 = o at *
     replace hR := mK hR
     go_wp2_with fail
     go_quiet (fail)
     go_wp2_with fail
     go_roundw
     case rel => exact ⟨kk + 1, R / 4294967296, _, by omega, by go_num, by rw [hRQ.out], hset.out, hnext.out, hes.out.drN _⟩
     case measure => simp [intOf] <;> omega
    ·obtain rfl : kk = m.length := by omega
     have hend := mK (mulI_end hmi hkl'.out)
     have hold := hB.cell (k := k + m.length) (by omega)
     have hfr := hB.frozen (k + m.length)
     have hset := mK (hB.set (k + m.length) cr)
     have hes := mK (he.st (p := ⟨w.heap.size, k + m.length, none⟩) (nR _) (.int .u32 (cr : Int)))
     replace hmi := mK hmi
     replace he := mK he
     replace hB := mK hB
     go_wp2_with fail
     go_roundw
     case rel => exact ⟨k + 1, _, by omega, by go_num, hset.out, hend.out, hes.out⟩
     case measure => simp [intOf] <;> omega
  ·obtain rfl : k = l.length := by omega
   obtain ⟨x1, x2, x3⟩ := hmo.out
   rw [List.take_length, List.take_of_length_le (by omega)] at x3
   have hown := hB.out.own (by omega)
   obtain ⟨aa, cc, he0, hle, hrow⟩ := hown.r
   simp only [Value.slice.injEq] at he0
   obtain ⟨rfl, -, rfl⟩ := he0
   have hres := hown.lim x2
   have hcall := fun w' (e : Row w' (some ⟨w.heap.size, 0, none⟩) (limV q)) => rtrim_c (some ⟨w.heap.size, 0, none⟩) q q.length w' x2 (by omega) hle e
   rw [x3] at hres hcall
   rw [x1] at hcall hres
   replace hcall := mK hcall
   replace hres := mK hres
   replace hrow := mK hrow
   replace x1 := mK x1
   replace x3 := mK x3
   clear hown
   go_wp2_with fail
   refine (hcall.out _ hrow.out).mono ?_
   rintro e w' ⟨rfl, rfl⟩
   go_wp2_with fail
   go_ret
   exact ⟨_, rfl, hres.out, he.out⟩
theorem row_one (w : World) (T : Nat) (n : Nat) : Row (w.alloc (.cells #[.int .u32 (n : Int)] T)) (some ⟨w.heap.size, 0, none⟩) (limV [n]) := by
 refine ⟨w.heap.size, 0, fun _ => rfl, fun j hj => ?_⟩
 have : j = 0 := by simp [limV] at hj; omega
 subst this
 unfold World.cell?
 simp only [Nat.zero_add, heap_alloc_new]
 rfl
theorem val_one (n : Nat) : val [n] = n := by simp [val]
set_option maxHeartbeats 1600000 in
theorem rtimes_c (a : Option Addr) (c : Nat) (l : List Nat) (n : Nat) (w : World) (hl : l.length ≤ 1073741824) (okl : OkL l) (hn : n < 4294967296) (h : Row w a (limV l)) :
  Calls Tryz.prog 131 #[.slice a l.length c, .int .u32 n] w fun e w' => ∃ v, e = .returned v ∧ MagO w' w.heap.size v (lim (val l * n)) ∧ Ext w w' := by
 have okn : OkL [n] := fun x hx => by simp at hx; omega
 have hr := row_one w 140 n
 have htr := rtrim_c (some ⟨w.heap.size, 0, none⟩) [n] 1 _ okn (by simp) (by simp) hr
 have hle := lim_length_val okn
 rw [val_one] at htr hle
 simp only [List.length_singleton] at hle
 have hr2 := hr.lim okn
 rw [val_one] at hr2
 have hml := rmul_c a (some ⟨w.heap.size, 0, none⟩) c 1 l (lim n) _ hl (by omega) okl (lim_ok n) (h.ext ((xR w).al _)) hr2
 rw [val_lim] at hml
 replace htr := mK htr
 replace hml := mK hml
 clear hr hr2 okn
 go_enter Tryz.func131, Tryz.ntmps131
 go_wp2_with fail
 refine htr.out.mono ?_
 rintro e w' ⟨rfl, rfl⟩
 go_wp2_with fail
 refine hml.out.mono ?_
 rintro e w' ⟨v, rfl, h1, h2⟩
 replace h1 := mK (h1.mono (show w.heap.size ≤ _ by simp))
 replace h2 := mK (((xR w).al _).trans h2)
 go_wp2_with fail
 go_ret
 exact ⟨v, rfl, h1.out, h2.out⟩
def ShortJ (l : List Nat) (d : Nat) (q : List Nat) (k r : Nat) : Prop := q.length = l.length ∧ OkL q ∧ r < d ∧ val (l.drop k) = val (q.drop k) * d + r
theorem shortJ_start (l : List Nat) {d : Nat} (hd : 0 < d) : ShortJ l d (List.replicate l.length 0) l.length 0 :=
 ⟨by simp, (fun x hx => by rw [List.eq_of_mem_replicate hx]; omega), hd, by simp [val]⟩
theorem shortJ_step {l q : List Nat} {d k r : Nat} (h : ShortJ l d q (k + 1) r) (hk : k < l.length) (okl : OkL l) (hd : d < 4294967296) :
  ShortJ l d (q.set k ((r * 4294967296 + l.getD k 0) / d)) k ((r * 4294967296 + l.getD k 0) % d) := by
 obtain ⟨h1, h2, h3, h5⟩ := h
 have hl := okL_get okl k
 refine ⟨by simpa using h1, okL_set h2 ?_, Nat.mod_lt _ (by omega), ?_⟩
 ·exact Nat.div_lt_of_lt_mul (by have := Nat.mul_le_mul_right 4294967296 (show r + 1 ≤ d from h3); omega)
 ·rw [val_drop_succ l k hk, h5, val_drop_succ _ k (by simp; omega)]
  have e := Nat.div_add_mod (r * 4294967296 + l.getD k 0) d
  have e2 : (q.set k ((r * 4294967296 + l.getD k 0) / d)).getD k 0 = (r * 4294967296 + l.getD k 0) / d := by simp [show k < q.length by omega]
  have e3 : (q.set k ((r * 4294967296 + l.getD k 0) / d)).drop (k + 1) = q.drop (k + 1) := by rw [List.drop_set_of_lt (by omega)]
  rw [e2, e3]
  generalize (r * 4294967296 + l.getD k 0) / d = x at *
  generalize (r * 4294967296 + l.getD k 0) % d = y at *
  generalize val (q.drop (k + 1)) = v at *
  rw [Nat.add_mul, Nat.mul_add, Nat.mul_assoc 4294967296 v d, Nat.mul_comm x d]
  omega
theorem shortJ_end {l q : List Nat} {d r : Nat} (h : ShortJ l d q 0 r) : val q = val l / d ∧ r = val l % d := by
 obtain ⟨h1, h2, h3, h5⟩ := h
 simp only [List.drop_zero] at h5
 have hd : 0 < d := by omega
 constructor
 ·rw [h5, Nat.add_comm, Nat.add_mul_div_right _ _ hd, Nat.div_eq_of_lt h3, Nat.zero_add]
 ·rw [h5, Nat.add_comm, Nat.add_mul_mod_self_right, Nat.mod_eq_of_lt h3]
set_option maxHeartbeats 3200000 in
theorem rshort_c (a : Option Addr) (c : Nat) (l : List Nat) (d : Nat) (w : World) (hl : l.length ≤ 2147483648) (okl : OkL l) (hd : 0 < d) (hd2 : d < 4294967296) (h : Row w a (limV l)) :
  Calls Tryz.prog 219 #[.slice a l.length c, .int .u32 d] w fun e w' => ∃ v, e = .returned (.tuple #[v, .int .u32 ((val l % d : Nat) : Int)]) ∧ MagO w' w.heap.size v (lim (val l / d)) ∧ Ext w w' := by
 obtain ⟨b, off, ha, hc⟩ := h
 replace ha := mK ha
 replace hc := mK hc
 have hmk := fun w => make32 l.length w (by omega)
 have hst := mK (shortJ_start l hd)
 have hdz : ((d : Int) == 0) = false := by rw [beq_eq_false_iff_ne]; omega
 obtain ⟨D, hD⟩ : ∃ D : Int, D = (d : Int) := ⟨_, rfl⟩
 go_enter Tryz.func219, Tryz.ntmps219
 go_wp2_with fail
 go_loopw [7, 8, 9] (fun s i _ wr => ∃ k r q, k ≤ l.length ∧ i = .int .i64 ((k : Int) - 1) ∧ s = .int .u64 (r : Nat) ∧ Blk wr w.heap.size q ∧ ShortJ l d q k r ∧ Ext w wr) (fun _ i _ _ => (intOf i + 1).toNat)
 case atStart => exact ⟨l.length, 0, _, nR _, rfl, rfl, blk_new _ _, hst.out, (xR w).al _⟩
 case round =>
  obtain ⟨k, r, q, hk, rfl, rfl, hB, hsh, he⟩ := hrel
  cases k with
  | zero =>
   obtain ⟨e1, e2⟩ := shortJ_end hsh
   have hown := hB.own (by have := hsh.1; omega)
   obtain ⟨aa, cc, he0, hle, hrow⟩ := hown.r
   simp only [Value.slice.injEq] at he0
   obtain ⟨rfl, -, rfl⟩ := he0
   have hres := hown.lim hsh.2.1
   have hcall := fun w' (e : Row w' (some ⟨w.heap.size, 0, none⟩) (limV q)) => rtrim_c (some ⟨w.heap.size, 0, none⟩) q q.length w' hsh.2.1 (by have := hsh.1; omega) hle e
   rw [e1] at hres hcall
   rw [hsh.1] at hcall hres
   have hr2 := hsh.2.2.1

   replace hcall := mK hcall
   replace hres := mK hres
   replace hrow := mK hrow
   replace hsh := mK hsh
   replace he := mK he
   replace e1 := mK e1
   replace e2 := mK e2
   clear hown hB
   go_wp2_with fail
   refine (hcall.out _ hrow.out).mono ?_
   rintro e w' ⟨rfl, rfl⟩
   go_wp2_with fail
   go_ret2
   exact ⟨.slice (some ⟨w.heap.size, 0, none⟩) (lim (val l / d)).length l.length, by rw [← e2.out]; rfl, hres.out, he.out⟩
  | succ k =>
   rw [show (((k + 1 : Nat)) : Int) - 1 = (k : Int) by omega]
   have h1 := he.cell (row_at hc.out (show k < l.length by omega))
   have hA := ha.out (limV_ne (show k < l.length by omega))
   rw [hA]
   have hx := okL_get okl k
   have hq1 := hsh.1
   have hr := hsh.2.2.1
   have hfr := hB.frozen k
   have hold := hB.cell (k := k) (by omega)
   have hnext := shortJ_step hsh (by omega) okl hd2
   obtain ⟨x, hxe⟩ : ∃ x, x = l.getD k 0 := ⟨_, rfl⟩
   rw [← hxe] at h1 hx hnext
   have hb : (r : Int) * 4294967296 + x ≤ 18446744073709551615 := by omega
   have hb0 : (r : Int) * 4294967296 ≤ 18446744073709551615 := by omega
   have hQ : (r * 4294967296 + x) / d < 4294967296 := Nat.div_lt_of_lt_mul (by have := Nat.mul_le_mul_right 4294967296 (show r + 1 ≤ d from hr); omega)
   have hset := hB.set k ((r * 4294967296 + x) / d)
   have hes := he.st (p := ⟨w.heap.size, k, none⟩) (nR _) (.int .u32 (((r * 4294967296 + x) / d : Nat) : Int))
   have hQD : (((r * 4294967296 + x) / d : Nat) : Int) = ((r : Int) * 4294967296 + x) / d % 4294967296 := by
    have e : ((r : Int) * 4294967296 + x) / d = (((r * 4294967296 + x) / d : Nat) : Int) := by simp
    rw [e]
    generalize (r * 4294967296 + x) / d = Qn at hQ
    omega
   have hRD : (((r * 4294967296 + x) % d : Nat) : Int) = ((r : Int) * 4294967296 + x) % d := by simp
   rw [hQD] at hset hes
   clear hQ
   replace hQD := mK hQD
   replace hRD := mK hRD
   replace hA := mK hA
   replace hnext := mK hnext
   replace hsh := mK hsh
   replace hset := mK hset
   replace hes := mK hes
   replace he := mK he
   replace hB := mK hB
   replace hxe := mK hxe
   go_wp2_with fail
   go_roundw
   case rel => exact ⟨k, _, _, by omega, rfl, by rw [← hRD.out], hset.out, hnext.out, hes.out⟩
   case measure => simp [intOf] <;> omega
theorem rhalf_c (a : Option Addr) (c : Nat) (l : List Nat) (w : World) (hl : l.length ≤ 2147483648) (okl : OkL l) (h : Row w a (limV l)) :
  Calls Tryz.prog 235 #[.slice a l.length c] w fun e w' => ∃ v, e = .returned v ∧ MagO w' w.heap.size v (lim (val l / 2)) ∧ Ext w w' := by
 have hs := mK (rshort_c a c l 2 w hl okl (by omega) (by omega) h)
 go_enter Tryz.func235, Tryz.ntmps235
 go_wp2_with fail
 refine hs.out.mono ?_
 rintro e w' ⟨v, rfl, h1, h2⟩
 replace h1 := mK h1
 replace h2 := mK h2
 go_wp2_with fail
 go_ret
 exact ⟨v, rfl, h1.out, h2.out⟩
theorem val_mod2 {x : Nat} {l : List Nat} : val (x :: l) % 2 = x % 2 := by
 simp only [val]
 omega
theorem reven_c (a : Option Addr) (c : Nat) (l : List Nat) (w : World) (hne : l ≠ []) (okl : OkL l) (hl : l.length ≤ 2147483648) (h : Row w a (limV l)) :
  Calls Tryz.prog 234 #[.slice a l.length c] w fun e w' => e = .returned (.bool (decide (val l % 2 = 0))) ∧ w = w' := by
 cases l with
 | nil => exact absurd rfl hne
 | cons x l =>
  obtain ⟨b, off, ha, hc⟩ := h
  have hA := ha (limV_ne (show 0 < (x :: l).length by simp))
  have hcell := row_at hc (show 0 < (x :: l).length by simp)
  have hx := (okL_cons.1 okl).1
  simp only [List.getD_cons_zero, Nat.add_zero] at hcell
  subst hA
  rw [val_mod2]
  have hb : (((x : Int) % 2) == 0) = decide (x % 2 = 0) := by
   rw [Bool.eq_iff_iff]
   simp
   omega
  clear ha hc okl hne
  simp only [List.length_cons] at hl ⊢
  go_enter Tryz.func234, Tryz.ntmps234
  go_wp2_with fail
  go_ret
  exact ⟨rfl, rfl⟩
theorem cmp_le {X R : Nat} : (((X : Int) - R).sign ≤ 0) ↔ X ≤ R := by
 rcases Nat.lt_trichotomy X R with h | h | h
 ·rw [sgn_lt h]; omega
 ·rw [sgn_eq h]; omega
 ·rw [sgn_gt h]; omega
theorem cmp_bounds {X R : Nat} : -1 ≤ ((X : Int) - R).sign ∧ ((X : Int) - R).sign ≤ 1 := by
 rcases Nat.lt_trichotomy X R with h | h | h
 ·rw [sgn_lt h]; omega
 ·rw [sgn_eq h]; omega
 ·rw [sgn_gt h]; omega
theorem nl_small_mul {D m : Nat} (hm : m < 4294967296) : (lim (D * m)).length ≤ (lim D).length + 1 := by
 have := lim_mul D m
 have := lim_one_le hm
 omega
set_option maxHeartbeats 3200000 in
theorem rfitting_c (a a' : Option Addr) (c c' : Nat) (R D : Nat) (w : World) (hl : (lim R).length ≤ 1073741824) (hm : (lim D).length ≤ 1073741824) (hD : 0 < D) (hR : R < D * 4294967296)
  (h : Row w a (limV (lim R))) (h' : Row w a' (limV (lim D))) :
  Calls Tryz.prog 238 #[.slice a (lim R).length c, .slice a' (lim D).length c'] w fun e w' => e = .returned (.int .u32 ((R / D : Nat) : Int)) ∧ Ext w w' := by
 have hlt : R / D < 4294967296 := Nat.div_lt_of_lt_mul hR
 have HT := mK (fun W (e : Ext w W) (m : Nat) (hm2 : m < 4294967296) => rtimes_c a' c' (lim D) m W hm (lim_ok D) hm2 (h'.ext e))
 have HC := mK (fun W (e : Ext w W) (X : Nat) a2 c2 (hx : (lim X).length ≤ 4294967296) (r : Row W a2 (limV (lim X))) => rcmp_c a2 a c2 c X R W hx (by omega) r (h.ext e))
 have HS := mK (fun m (hm2 : m < 4294967296) => nl_small_mul (D := D) hm2)
 replace hR := mK hR
 clear h h'
 replace hD := mK hD
 replace hlt := mK hlt
 obtain ⟨nr, hnr⟩ : ∃ n, n = (lim R).length := ⟨_, rfl⟩
 obtain ⟨nd, hnd⟩ : ∃ n, n = (lim D).length := ⟨_, rfl⟩
 rw [← hnr] at hl HC ⊢
 rw [← hnd] at hm HT HS ⊢
 clear hnr hnd
 go_enter Tryz.func238, Tryz.ntmps238
 go_wp2_with fail
 go_loopw [5, 6, 7] (fun s i _ wr => ∃ lo hi : Nat, s = .int .u64 (lo : Nat) ∧ i = .int .u64 (hi : Nat) ∧ lo ≤ hi ∧ hi ≤ 4294967295 ∧ D * lo ≤ R ∧ R < D * (hi + 1) ∧ Ext w wr) (fun s i _ _ => (intOf i - intOf s).toNat)
 case atStart => exact ⟨0, 4294967295, rfl, rfl, by omega, by omega, by omega, hR.out, xR _⟩
 case round =>
  obtain ⟨lo, hi, rfl, rfl, h1, h2, h3, h4, he⟩ := hrel
  replace h3 := mK h3
  replace h4 := mK h4
  by_cases hlh : lo < hi
  ·obtain ⟨m, hm0⟩ : ∃ m, m = (lo + hi + 1) / 2 := ⟨_, rfl⟩
   have hm1 : ((lo : Int) + hi + 1) / 2 = (m : Int) := by omega
   have hm2 : lo < m ∧ m ≤ hi := by omega
   obtain ⟨hm3, hm4⟩ := hm2
   have hmm : (m : Int) % 4294967296 = m := by omega
   have ht := mK (HT.out wr he m (by omega))
   have hs := HS.out m (by omega)
   replace hm0 := mK hm0
   replace he := mK he
   go_wp2_with fail
   refine ht.out.mono ?_
   rintro e w1 ⟨v, rfl, hv, he1⟩
   rw [val_lim] at hv
   obtain ⟨aa, cc, rfl, hle, hrow⟩ := hv.r
   have hc := mK (HC.out w1 (he.out.trans he1) (D * m) aa cc (by omega) hrow)
   replace he := mK (he.out.trans he1)
   clear hv hrow he1 ht
   go_wp2_with fail
   refine hc.out.mono ?_
   rintro e w2 ⟨rfl, he2⟩
   replace he := mK (he.out.trans he2)
   clear he2 hc
   have hcl := cmp_le (X := D * m) (R := R)
   have hcb := cmp_bounds (X := D * m) (R := R)
   generalize (((D * m : Nat) : Int) - (R : Int)).sign = S at *
   replace hcl := mK hcl
   by_cases hS : S ≤ 0
   ·have h3' := mK (hcl.out.1 hS)
    go_wp2_with fail
    go_roundw
    case rel => exact ⟨m, hi, rfl, rfl, by omega, by omega, h3'.out, h4.out, he.out⟩
    case measure => simp [intOf] <;> omega
   ·have h4' : R < D * ((m - 1) + 1) := by
     have : ¬ D * m ≤ R := fun h => hS (hcl.out.2 h)
     rw [show m - 1 + 1 = m by omega]
     omega
    replace h4' := mK h4'
    go_wp2_with fail
    go_roundw
    case rel => exact ⟨lo, m - 1, rfl, by congr 1; omega, by omega, by omega, h3.out, h4'.out, he.out⟩
    case measure => simp [intOf] <;> omega
  ·obtain rfl : lo = hi := by omega
   have hq : R / D = lo := by
    have h3 := h3.out
    have h4 := h4.out
    rw [Nat.mul_comm] at h3 h4
    exact Nat.div_eq_of_lt_le h3 h4
   replace hq := mK hq
   replace he := mK he
   have hmm : (lo : Int) % 4294967296 = lo := by omega
   go_wp2_with fail
   go_ret
   exact ⟨ret1_eq (by rw [hq.out]), he.out⟩
theorem wpList_append_both {P : Program} {w : World} {ops : Array Oper} {rest : List Oper} {o : Oper} {a : Act} {Q : Exit → Act → World → Prop} (hgd : o.guard = none) (s x : Operand) (t : TypeId)
  (ho : o.op = .call { callee := .builtin .append, args := #[s, x], argTypes := #[t, t] })
  (base : Nat) (e : TypeId) (i : TypeInfo) (z : Value) (bytes : Nat) (ht : P.underlying t = some (.slice e)) (hi : P.info? e = some i) (hz : i.zero = some z)
  (hsize : i.size = 1) (hby : i.bytes = bytes) (hzs : z.cells.size = 1)
  (v : Value) (n : Nat) (xs : List Value) (hs : a.eval s = v) (hown : w.ownsRow base e 1 v n xs)
  (news : List Value) (hx : (a.eval x = .slice none 0 0 ∧ news = []) ∨ ∃ ad c, a.eval x = .slice (some ad) news.length c ∧ ∀ j u, news[j]? = some u → w.cell? (ad.add j) = some u) (h1 : ∀ u ∈ news, u.oneCell' = true)
  (h63 : n + news.length ≤ maxLen) (hbytes : (n + news.length) * bytes ≤ 140737488355328) (hbase : base ≤ w.heap.size)
  (h : ∀ v' w', w'.ownsRow base e 1 v' (n + news.length) (xs ++ news) → w.grownBy w' v.ownBlock → wpList P ops Q rest (a.put o.dst v') w') : wpList P ops Q (o :: rest) a w := by
 rcases hx with ⟨hx, rfl⟩ | ⟨ad, c, hx, hn⟩
 ·refine wpList_append_own_none hgd s x t ho base e i 1 ht hi v n xs hs hown hx (h v w ?_ (World.grownBy.refl _ _))
  simpa using hown
 ·exact wpList_append_own _ hgd s x t ho base e i z 1 bytes ht hi hz hsize hby hzs (by decide) v n xs hs hown ad news.length c news hx (by simp) hn h1 h63 hbytes hbase fun v' w' h2 h3 _ => h v' w' h2 h3
def RestR (w : World) (v : Value) (n : Nat) : Prop := (v = .slice none 0 0 ∧ n = 0) ∨ ∃ b off c, v = .slice (some ⟨b, off, none⟩) (lim n).length c ∧ (lim n).length ≤ c ∧ ∀ j, j < (limV (lim n)).length → w.cell? ⟨b, off + j, none⟩ = some ((limV (lim n)).getD j undef)
theorem RestR.ext {w w' : World} {v : Value} {n : Nat} (h : RestR w v n) (e : Ext w w') : RestR w' v n := by
 rcases h with h | ⟨b, off, c, h1, h2, h3⟩
 ·exact .inl h
 ·exact .inr ⟨b, off, c, h1, h2, fun j hj => e.cell (h3 j hj)⟩
theorem RestR.r {w : World} {v : Value} {n : Nat} (h : RestR w v n) : ∃ a c, v = .slice a (lim n).length c ∧ (lim n).length ≤ c ∧ Row w a (limV (lim n)) := by
 rcases h with ⟨rfl, rfl⟩ | ⟨b, off, c, h1, h2, h3⟩
 ·rw [lim_zero]
  exact ⟨none, 0, rfl, nR _, row_nil w⟩
 ·exact ⟨_, c, h1, h2, b, off, fun _ => rfl, h3⟩
theorem RestR.of {w : World} {base : Nat} {v : Value} {n : Nat} (h : MagO w base v (lim n)) : RestR w v n := by
 obtain ⟨a, c, h1, h2, b, off, h3, h4⟩ := h.r
 obtain ⟨h5, h6⟩ := h
 rcases h6 with ⟨rfl, h6⟩ | ⟨g, cap, cur, rfl, h7⟩
 ·refine .inl ⟨rfl, ?_⟩
  have := val_lim n
  rw [List.eq_nil_of_length_eq_zero h6] at this
  exact this.symm
 ·simp only [Value.slice.injEq] at h1
  obtain ⟨rfl, -, rfl⟩ := h1
  by_cases hne : limV (lim n) = []
  ·refine .inr ⟨g, 0, _, rfl, h2, fun j hj => ?_⟩
   rw [hne] at hj
   simp at hj
  ·have := h3 hne
   simp only [Option.some.injEq, Addr.mk.injEq] at this
   obtain ⟨rfl, rfl, -⟩ := this
   exact .inr ⟨_, _, _, rfl, h2, h4⟩
def AppX (w : World) (v : Value) (news : List Value) : Prop := (v = .slice none 0 0 ∧ news = []) ∨ ∃ ad c, v = .slice (some ad) news.length c ∧ ∀ j u, news[j]? = some u → w.cell? (ad.add j) = some u
theorem AppX.ext {w w' : World} {v : Value} {news : List Value} (h : AppX w v news) (e : Ext w w') : AppX w' v news := by
 rcases h with h | ⟨ad, c, h1, h2⟩
 ·exact .inl h
 ·exact .inr ⟨ad, c, h1, fun j u hu => e.cell (h2 j u hu)⟩
theorem RestR.app {w : World} {v : Value} {n : Nat} (h : RestR w v n) : AppX w v (limV (lim n)) := by
 rcases h with ⟨rfl, rfl⟩ | ⟨b, off, c, h1, h2, h3⟩
 ·exact .inl ⟨rfl, by rw [lim_zero]; rfl⟩
 ·exact .inr ⟨_, c, by rw [h1, limV_length], row_cells h3⟩
def DivJ (l : List Nat) (D : Nat) (q : List Nat) (k r : Nat) : Prop := q.length = l.length ∧ OkL q ∧ r < D ∧ (∀ j, j < k → q.getD j 0 = 0) ∧ val (l.drop k) = val (q.drop k) * D + r
theorem divJ_start (l : List Nat) {D : Nat} (hD : 0 < D) : DivJ l D (List.replicate l.length 0) l.length 0 :=
 ⟨by simp, (fun x hx => by rw [List.eq_of_mem_replicate hx]; omega), hD, (fun j hj => by simp [hj]), by simp [val]⟩
theorem divJ_step {l q : List Nat} {D k r : Nat} (h : DivJ l D q (k + 1) r) (hk : k < l.length) (okl : OkL l) :
  DivJ l D (q.set k ((l.getD k 0 + 4294967296 * r) / D)) k ((l.getD k 0 + 4294967296 * r) % D) := by
 obtain ⟨h1, h2, h3, h4, h5⟩ := h
 have hl := okL_get okl k
 refine ⟨by simpa using h1, okL_set h2 ?_, Nat.mod_lt _ (by omega), fun j hj => ?_, ?_⟩
 ·exact Nat.div_lt_of_lt_mul (by have := Nat.mul_le_mul_right 4294967296 (show r + 1 ≤ D from h3); omega)
 ·have := h4 j (by omega)
  rw [List.getD_eq_getElem?_getD] at this ⊢
  rw [List.getElem?_set_ne (by omega)]
  exact this
 ·rw [val_drop_succ l k hk, h5, val_drop_succ _ k (by simp; omega)]
  have e := Nat.div_add_mod (l.getD k 0 + 4294967296 * r) D
  have e2 : (q.set k ((l.getD k 0 + 4294967296 * r) / D)).getD k 0 = (l.getD k 0 + 4294967296 * r) / D := by simp [show k < q.length by omega]
  have e3 : (q.set k ((l.getD k 0 + 4294967296 * r) / D)).drop (k + 1) = q.drop (k + 1) := by rw [List.drop_set_of_lt (by omega)]
  rw [e2, e3]
  generalize (l.getD k 0 + 4294967296 * r) / D = x at *
  generalize (l.getD k 0 + 4294967296 * r) % D = y at *
  generalize val (q.drop (k + 1)) = v at *
  rw [Nat.add_mul, Nat.mul_add, Nat.mul_assoc 4294967296 v D, Nat.mul_comm x D]
  omega
theorem divJ_same {l q : List Nat} {D k r n : Nat} (h : DivJ l D q (k + 1) r) (hk : k < l.length) (hn : n = 0) : q.set k n = q := by
 subst hn
 have h0 := h.2.2.2.1 k (by omega)
 have h1 := h.1
 apply List.ext_getElem?
 intro j
 rw [List.getElem?_set]
 split
 ·rename_i e
  subst e
  rw [List.getD_eq_getElem?_getD] at h0
  rw [if_pos (by omega)]
  rw [List.getElem?_eq_getElem (by omega)] at h0 ⊢
  simp at h0
  rw [h0]
 ·rfl
theorem divJ_end {l q : List Nat} {D r : Nat} (h : DivJ l D q 0 r) : val q = val l / D ∧ r = val l % D := by
 obtain ⟨h1, h2, h3, h4, h5⟩ := h
 exact shortJ_end ⟨h1, h2, h3, h5⟩
set_option maxHeartbeats 1600000 in
theorem rdivide_one_k (a a' : Option Addr) (c c' : Nat) (A D : Nat) (w : World) (hl : (lim A).length ≤ 1073741824) (hD0 : 0 < D) (hD : D < 4294967296)
  (h : Row w a (limV (lim A))) (h' : Row w a' (limV (lim D))) :
  Calls Tryz.prog 217 #[.slice a (lim A).length c, .slice a' (lim D).length c'] w fun e w' => ∃ v1 v2, e = .returned (.tuple #[v1, v2]) ∧ RestR w' v1 (A / D) ∧ RestR w' v2 (A % D) ∧ Ext w w' ∧ NewV w.heap.size v1 := by
 rw [lim_one (by omega) hD] at h' ⊢
 obtain ⟨b, off, ha, hc⟩ := h'
 have hA := ha (limV_ne (show 0 < [D].length by simp))
 have hcell := row_at hc (show 0 < [D].length by simp)
 simp only [List.getD_cons_zero, Nat.add_zero] at hcell
 subst hA
 have hs := rshort_c a c (lim A) D w (by omega) (lim_ok A) hD0 hD h
 rw [val_lim] at hs
 replace hs := mK hs
 have hr32 : A % D < 4294967296 := Nat.lt_trans (Nat.mod_lt _ hD0) hD
 simp only [List.length_singleton]
 generalize (lim A).length = n at *
 clear ha hc h
 go_enter Tryz.func217, Tryz.ntmps217
 go_wp2_with fail
 refine hs.out.mono ?_
 rintro e w1 ⟨v, rfl, hv, he⟩
 have hr := row_one w1 140 (A % D)
 have okn : OkL [A % D] := fun x hx => by simp at hx; omega
 have htr := rtrim_c (some ⟨w1.heap.size, 0, none⟩) [A % D] 1 _ okn (by simp) (by simp) hr
 have hr2 := hr.lim okn
 have hle := lim_length_val okn
 rw [val_one] at htr hr2 hle
 simp only [List.length_singleton] at hle
 replace htr := mK htr
 replace hv := mK hv
 replace he := mK he
 replace hr2 := mK hr2
 obtain ⟨R, hR⟩ : ∃ R, R = A % D := ⟨_, rfl⟩
 simp only [List.length_singleton] at htr
 rw [← hR] at htr hr2 hle hr32 ⊢
 clear hr okn hs
 replace hR := mK hR
 go_wp2_with fail
 refine htr.out.mono ?_
 rintro e w' ⟨rfl, rfl⟩
 go_wp2_with fail
 go_ret2
 obtain ⟨b2, off2, h2, h3⟩ := hr2.out
 rw [← hR.out]
 refine ⟨_, _, rfl, (RestR.of hv.out).ext ((xR _).al _), ?_, he.out.al _, hv.out.newV⟩
 by_cases h0 : R = 0
 ·subst h0
  refine .inr ⟨w1.heap.size, 0, 1, rfl, hle, fun j hj => ?_⟩
  rw [lim_zero] at hj
  simp [limV] at hj
 ·have hne : limV (lim R) ≠ [] := by
   rw [lim_pos h0]; simp [limV]
  have := h2 hne
  simp only [Option.some.injEq, Addr.mk.injEq] at this
  obtain ⟨rfl, rfl, -⟩ := this
  exact .inr ⟨_, _, 1, rfl, hle, h3⟩
def AnyL (w : World) (v : Value) (b1 : Bool) (l1 : List Nat) (b2 : Bool) (l2 : List Nat) : Prop :=
 ∃ a1 c1 a2 c2, v = .agg #[.bool b1, .slice a1 l1.length c1, .bool b2, .slice a2 l2.length c2] ∧ l1.length ≤ 4294967296 ∧ l2.length ≤ 4294967296 ∧ AnyR w (.agg #[.bool b1, .slice a1 l1.length c1]) b1 l1 ∧ AnyR w (.agg #[.bool b2, .slice a2 l2.length c2]) b2 l2
def okF (b1 : Bool) (l1 : List Nat) (b2 : Bool) (l2 : List Nat) : Bool :=
 goodI b1 l1 && goodI b2 l2 && decide (0 < sg b2 (val l2)) && decide (Int.gcd (sg b1 (val l1)) (sg b2 (val l2)) = 1)
def ratF (b1 : Bool) (l1 : List Nat) (b2 : Bool) (l2 : List Nat) : Option Rat :=
 if okF b1 l1 b2 l2 then some (Rat.divInt (sg b1 (val l1)) (sg b2 (val l2))) else none
def AnyF (w : World) (v : Value) (o : Option Rat) : Prop := ∃ b1 l1 b2 l2, AnyL w v b1 l1 b2 l2 ∧ o = ratF b1 l1 b2 l2
theorem AnyF.ext {w w' : World} {v : Value} {o : Option Rat} (h : AnyF w v o) (e : Ext w w') : AnyF w' v o := by
 obtain ⟨b1, l1, b2, l2, ⟨a1, c1, a2, c2, h1, h2, h3, h4, h5⟩, h6⟩ := h
 exact ⟨b1, l1, b2, l2, ⟨a1, c1, a2, c2, h1, h2, h3, h4.ext e, h5.ext e⟩, h6⟩
theorem low_prime {n d : Int} (hd : 0 < d) (hg : Int.gcd n d = 1) : (Rat.divInt n d).num = n ∧ ((Rat.divInt n d).den : Int) = d := by
 rw [low_num, low_den n d (by omega), hg]
 simp
 omega
theorem AnyF.frac {w : World} {v : Value} {x : Rat} (h : AnyF w v (some x)) : FracR w v x ∧ nf x ≤ 2048 := by
 obtain ⟨b1, l1, b2, l2, ⟨a1, c1, a2, c2, rfl, h2, h3, h4, h5⟩, h6⟩ := h
 unfold ratF at h6
 split at h6
 ·rename_i ho
  unfold okF at ho
  simp only [Bool.and_eq_true, decide_eq_true_eq] at ho
  obtain ⟨⟨⟨o1, o2⟩, o3⟩, o4⟩ := ho
  simp only [Option.some.injEq] at h6
  obtain ⟨e1, e2⟩ := low_prime o3 o4
  rw [← h6] at e1 e2
  obtain ⟨i1, i2⟩ := any_int h4 o1
  obtain ⟨j1, j2⟩ := any_int h5 o2
  refine ⟨⟨_, _, _, _, _, _, _, _, rfl, by rw [e1]; exact i1, by rw [e2]; exact j1⟩, ?_⟩
  unfold nf
  rw [e1, e2]
  exact Nat.max_le.2 ⟨i2, j2⟩
 ·cases h6
theorem sg_abs (X : Int) : sg (decide (X < 0)) X.natAbs = X := by
 unfold sg
 split
 ·rename_i h
  simp at h
  omega
 ·rename_i h
  simp at h
  omega
theorem good_int_iff (X : Int) : goodI (decide (X < 0)) (lim X.natAbs) = decide (nl X ≤ 2048) := by
 by_cases h : nl X ≤ 2048
 ·rw [good_int h, decide_eq_true h]
 ·have : goodI (decide (X < 0)) (lim X.natAbs) = false := by
   unfold goodI nl at *
   simp [h]
  rw [this, decide_eq_false h]
theorem FracR.any {w : World} {v : Value} {x : Rat} (h : FracR w v x) (hn : nf x ≤ 4294967296) : AnyF w v (if nf x ≤ 2048 then some x else none) := by
 obtain ⟨b1, a1, n1, c1, b2, a2, n2, c2, rfl, h1, h2⟩ := h
 obtain ⟨s1, e1, x1, y1, rfl, k1, r1⟩ := h1
 obtain ⟨s2, e2, x2, y2, rfl, k2, r2⟩ := h2
 simp only [Value.agg.injEq, Array.mk.injEq, List.cons.injEq, and_true, Value.bool.injEq, Value.slice.injEq] at e1 e2
 obtain ⟨rfl, rfl, rfl, rfl⟩ := e1
 obtain ⟨rfl, rfl, rfl, rfl⟩ := e2
 have m1 : nl x.num ≤ nf x := Nat.le_max_left _ _
 have m2 : nl (x.den : Int) ≤ nf x := Nat.le_max_right _ _
 refine ⟨_, lim x.num.natAbs, _, lim (x.den : Int).natAbs, ⟨_, _, _, _, rfl, by unfold nl at *; omega, by unfold nl at *; omega, ⟨_, _, rfl, lim_ok _, k1, r1⟩, ⟨_, _, rfl, lim_ok _, k2, r2⟩⟩, ?_⟩
 unfold ratF okF
 rw [val_lim, val_lim, sg_abs, sg_abs, good_int_iff, good_int_iff]
 have hd : decide (0 < (x.den : Int)) = true := by simp; exact Nat.pos_of_ne_zero x.den_nz
 have hg : Int.gcd x.num x.den = 1 := x.reduced
 rw [hd, hg, Rat.num_divInt_den]
 have : (decide (nl x.num ≤ 2048) && decide (nl (x.den : Int) ≤ 2048) && true && decide (1 = 1)) = decide (nf x ≤ 2048) := by
  unfold nf
  by_cases u1 : nl x.num ≤ 2048 <;> by_cases u2 : nl (x.den : Int) ≤ 2048 <;> simp [u1, u2, Nat.max_le]
 rw [this]
 by_cases u : nf x ≤ 2048 <;> simp [u]
theorem row4_cells {w : World} {g T : Nat} {u1 u2 u3 u4 : Value} (h : w.heap[g]? = some (.cells #[u1, u2, u3, u4] T (0, 0))) : w.cell? ⟨g, 0, none⟩ = some u1 ∧ w.cell? ⟨g, 1, none⟩ = some u2 ∧ w.cell? ⟨g, 2, none⟩ = some u3 ∧ w.cell? ⟨g, 3, none⟩ = some u4 := by
 refine ⟨?_, ?_, ?_, ?_⟩ <;> simp [World.cell?, h]
set_option maxHeartbeats 3200000 in
theorem check_f (v : Value) (o : Option Rat) (w : World) (h : AnyF w v o) :
  Calls Tryz.prog 60 #[v] w fun e w' => e = .returned (.int .i64 (if o.isSome then 0 else 1)) ∧ Ext w w' := by
 obtain ⟨b1, l1, b2, l2, ⟨a1, c1, a2, c2, rfl, h2, h3, h4, h5⟩, rfl⟩ := h
 have k1 := mK (fun w h => check_c (.agg #[.bool b1, .slice a1 l1.length c1]) b1 l1 w h2 h)
 have k2 := mK (fun w h => check_c (.agg #[.bool b2, .slice a2 l2.length c2]) b2 l2 w h3 h)
 replace h4 := mK h4
 replace h5 := mK h5
 by_cases g1 : goodI b1 l1 = true
 ·rw [if_pos g1] at k1
  by_cases g2 : goodI b2 l2 = true
  ·rw [if_pos g2] at k2
   obtain ⟨i1, n1⟩ := any_int h4.out g1
   obtain ⟨i2, n2⟩ := any_int h5.out g2
   have hn1 : nl (sg b1 (val l1)) ≤ 1073741824 := nT n1 (by decide)
   have hn2 : nl (sg b2 (val l2)) ≤ 1073741824 := nT n2 (by decide)
   have hr : (ratF b1 l1 b2 l2).isSome = decide (0 < sg b2 (val l2) ∧ Int.gcd (sg b1 (val l1)) (sg b2 (val l2)) = 1) := by
    unfold ratF okF
    rw [g1, g2]
    by_cases u1 : 0 < sg b2 (val l2) <;> by_cases u2 : Int.gcd (sg b1 (val l1)) (sg b2 (val l2)) = 1 <;> simp [u1, u2]
   rw [hr]
   clear hr g1 g2 h2 h3 n1 n2
   generalize sg b1 (val l1) = X at *
   generalize sg b2 (val l2) = Y at *
   have hsg := mK (fun w h => sign_c (.agg #[.bool b2, .slice a2 l2.length c2]) Y w h hn2)
   have hcm := mK (fun w h h' => common_c (.agg #[.bool b1, .slice a1 l1.length c1]) (.agg #[.bool b2, .slice a2 l2.length c2]) X Y w hn1 hn2 h h')
   replace i1 := mK i1
   replace i2 := mK i2
   by_cases hy : 0 < Y
   ·have hs : Y.sign = 1 := Int.sign_eq_one_of_pos hy
    rw [hs] at hsg
    have hgl : nl (Int.gcd X Y : Nat) ≤ 1073741824 := by
     refine nT (lim_mono ?_) hn2
     rw [Int.natAbs_natCast]
     exact Nat.le_of_dvd (by omega) (by simpa using (Int.natAbs_dvd_natAbs.2 (Int.gcd_dvd_right X Y)))
    have hof := mK (fun w => of_c 1 w (by omega) (by omega))
    by_cases hg : Int.gcd X Y = 1
    ·rw [if_pos (decide_eq_true ⟨hy, hg⟩)]
     have hcp := mK (fun v1 v2 w h1 h2 => cmp_c v1 v2 (Int.gcd X Y : Nat) 1 w hgl nl_one h1 h2)
     rw [show (((Int.gcd X Y : Nat) : Int) - 1).sign = 0 by rw [hg]; rfl] at hcp
     clear hs hgl hn1 hn2
     generalize Int.gcd X Y = G at *
     replace hy := mK hy
     replace hg := mK hg
     go_enter Tryz.func60, Tryz.ntmps60
     go_wp2_with fail
     refine (k1.out _ (h4.out.ext ((xR w).al _))).mono ?_
     rintro e w1 ⟨rfl, hE1⟩
     have hb := row4_cells (hE1.blk (heap_alloc_new w _))
     have E1 := ((xR w).al _).trans hE1
     replace k2 := mK (k2.out w1 (h5.out.ext E1))
     replace hb := hb
     have hE1' := mK hE1
     replace E1 := mK E1
     clear hE1 k1
     go_wp2_with fail
     refine k2.out.mono ?_
     rintro e w2 ⟨rfl, hE2⟩
     have hE12 := hE1'.out.trans hE2
     replace hb := row4_cells (hE12.blk (heap_alloc_new w _))
     replace E1 := mK (E1.out.trans hE2)
     replace hE12 := mK hE12
     clear hE2 k2 hE1'
     go_wp2_with fail
     refine (hsg.out w2 (i2.out.ext E1.out)).mono ?_
     rintro e w3 ⟨rfl, hE3⟩
     replace hE12 := mK (hE12.out.trans hE3)
     replace hb := row4_cells (hE12.out.blk (heap_alloc_new w _))
     replace E1 := mK (E1.out.trans hE3)
     clear hE3
     go_wp2_with fail
     refine (hcm.out w3 (i1.out.ext E1.out) (i2.out.ext E1.out)).mono ?_
     rintro e w4 ⟨vg, rfl, hE4, hgv⟩
     replace E1 := mK (E1.out.trans hE4)
     replace hgv := mK hgv
     clear hE4 hb hE12
     go_wp2_with fail
     refine (hof.out w4).mono ?_
     rintro e w5 ⟨vo, rfl, hE5, hov⟩
     replace E1 := mK (E1.out.trans hE5)
     replace hgv := mK (hgv.out.r.ext hE5)
     replace hov := mK hov.r
     clear hE5
     go_wp2_with fail
     refine (hcp.out _ _ w5 hgv.out hov.out).mono ?_
     rintro e w6 ⟨rfl, hE6⟩
     replace E1 := mK (E1.out.trans hE6)
     clear hE6
     go_wp2_with fail
     go_ret
     exact ⟨rfl, E1.out⟩
    ·rw [if_neg (fun h => hg (of_decide_eq_true h).2)]
     obtain ⟨S, hS⟩ : ∃ S, S = (((Int.gcd X Y : Nat) : Int) - 1).sign := ⟨_, rfl⟩
     have hS0 : (S == 0) = false := by
      rw [hS, beq_eq_false_iff_ne]
      intro h
      have := Int.sign_eq_zero_iff_zero.1 h
      omega
     have hcp := mK (fun v1 v2 w h1 h2 => cmp_c v1 v2 (Int.gcd X Y : Nat) 1 w hgl nl_one h1 h2)
     rw [← hS] at hcp
     replace hS := mK hS
     clear hs hgl hn1 hn2
     generalize Int.gcd X Y = G at *
     replace hy := mK hy
     replace hg := mK hg
     go_enter Tryz.func60, Tryz.ntmps60
     go_wp2_with fail
     refine (k1.out _ (h4.out.ext ((xR w).al _))).mono ?_
     rintro e w1 ⟨rfl, hE1⟩
     have hb := row4_cells (hE1.blk (heap_alloc_new w _))
     have E1 := ((xR w).al _).trans hE1
     replace k2 := mK (k2.out w1 (h5.out.ext E1))
     replace hb := hb
     have hE1' := mK hE1
     replace E1 := mK E1
     clear hE1 k1
     go_wp2_with fail
     refine k2.out.mono ?_
     rintro e w2 ⟨rfl, hE2⟩
     have hE12 := hE1'.out.trans hE2
     replace hb := row4_cells (hE12.blk (heap_alloc_new w _))
     replace E1 := mK (E1.out.trans hE2)
     replace hE12 := mK hE12
     clear hE2 k2 hE1'
     go_wp2_with fail
     refine (hsg.out w2 (i2.out.ext E1.out)).mono ?_
     rintro e w3 ⟨rfl, hE3⟩
     replace hE12 := mK (hE12.out.trans hE3)
     replace hb := row4_cells (hE12.out.blk (heap_alloc_new w _))
     replace E1 := mK (E1.out.trans hE3)
     clear hE3
     go_wp2_with fail
     refine (hcm.out w3 (i1.out.ext E1.out) (i2.out.ext E1.out)).mono ?_
     rintro e w4 ⟨vg, rfl, hE4, hgv⟩
     replace E1 := mK (E1.out.trans hE4)
     replace hgv := mK hgv
     clear hE4 hb hE12
     go_wp2_with fail
     refine (hof.out w4).mono ?_
     rintro e w5 ⟨vo, rfl, hE5, hov⟩
     replace E1 := mK (E1.out.trans hE5)
     replace hgv := mK (hgv.out.r.ext hE5)
     replace hov := mK hov.r
     clear hE5
     go_wp2_with fail
     refine (hcp.out _ _ w5 hgv.out hov.out).mono ?_
     rintro e w6 ⟨rfl, hE6⟩
     replace E1 := mK (E1.out.trans hE6)
     clear hE6
     go_wp2_with fail
     go_ret
     exact ⟨rfl, E1.out⟩
   ·rw [if_neg (fun h => hy (of_decide_eq_true h).1)]
    have hs : Y.sign ≤ 0 := by
     rcases Int.lt_trichotomy Y 0 with h | h | h
     ·rw [Int.sign_eq_neg_one_of_neg h]; decide
     ·rw [h]; decide
     ·exact absurd h hy
    generalize Y.sign = S at *
    replace hy := mK hy
    go_enter Tryz.func60, Tryz.ntmps60
    go_wp2_with fail
    refine (k1.out _ (h4.out.ext ((xR w).al _))).mono ?_
    rintro e w1 ⟨rfl, hE1⟩
    have hb := row4_cells (hE1.blk (heap_alloc_new w _))
    have E1 := ((xR w).al _).trans hE1
    replace k2 := mK (k2.out w1 (h5.out.ext E1))
    replace hb := hb
    have hE1' := mK hE1
    replace E1 := mK E1
    clear hE1 k1
    go_wp2_with fail
    refine k2.out.mono ?_
    rintro e w2 ⟨rfl, hE2⟩
    have hE12 := hE1'.out.trans hE2
    replace hb := row4_cells (hE12.blk (heap_alloc_new w _))
    replace E1 := mK (E1.out.trans hE2)
    replace hE12 := mK hE12
    clear hE2 k2 hE1'
    go_wp2_with fail
    refine (hsg.out w2 (i2.out.ext E1.out)).mono ?_
    rintro e w3 ⟨rfl, hE3⟩
    replace E1 := mK (E1.out.trans hE3)
    clear hE3
    go_wp2_with fail
    go_ret
    exact ⟨rfl, E1.out⟩
  ·rw [if_neg g2] at k2
   have ho : ratF b1 l1 b2 l2 = none := by unfold ratF okF; simp [g2]
   rw [ho]
   clear ho g1 g2 h2 h3
   simp only [Option.isSome_none]
   rw [if_neg (by decide)]
   go_enter Tryz.func60, Tryz.ntmps60
   go_wp2_with fail
   refine (k1.out _ (h4.out.ext ((xR w).al _))).mono ?_
   rintro e w1 ⟨rfl, hE1⟩
   have hb := row4_cells (hE1.blk (heap_alloc_new w _))
   have E1 := ((xR w).al _).trans hE1
   replace k2 := mK (k2.out w1 (h5.out.ext E1))
   replace hb := hb
   have hE1' := mK hE1
   replace E1 := mK E1
   clear hE1 k1
   go_wp2_with fail
   refine k2.out.mono ?_
   rintro e w2 ⟨rfl, hE2⟩
   have hE12 := hE1'.out.trans hE2
   replace hb := row4_cells (hE12.blk (heap_alloc_new w _))
   replace E1 := mK (E1.out.trans hE2)
   replace hE12 := mK hE12
   clear hE2 k2 hE1'
   go_wp2_with fail
   go_ret
   exact ⟨rfl, E1.out⟩
 ·rw [if_neg g1] at k1
  have ho : ratF b1 l1 b2 l2 = none := by unfold ratF okF; simp [g1]
  rw [ho]
  clear ho g1 h2 h3
  simp only [Option.isSome_none]
  rw [if_neg (by decide)]
  go_enter Tryz.func60, Tryz.ntmps60
  go_wp2_with fail
  refine (k1.out _ (h4.out.ext ((xR w).al _))).mono ?_
  rintro e w1 ⟨rfl, hE1⟩
  replace hE1 := mK (((xR w).al _).trans hE1)
  go_wp2_with fail
  go_ret
  exact ⟨rfl, hE1.out⟩
def LF (w : World) (g : Nat) (os : List (Option Rat)) : Prop :=
 ∀ k, k < os.length → ∃ b1 a1 n1 c1 b2 a2 n2 c2, w.cell? ⟨g, k * 4, none⟩ = some (.bool b1) ∧ w.cell? ⟨g, k * 4 + 1, none⟩ = some (.slice a1 n1 c1) ∧ w.cell? ⟨g, k * 4 + 2, none⟩ = some (.bool b2) ∧ w.cell? ⟨g, k * 4 + 3, none⟩ = some (.slice a2 n2 c2) ∧
  AnyF w (.agg #[.bool b1, .slice a1 n1 c1, .bool b2, .slice a2 n2 c2]) (os.getD k none)
theorem LF.ext {w w' : World} {g : Nat} {os : List (Option Rat)} (h : LF w g os) (e : Ext w w') : LF w' g os := by
 intro k hk
 obtain ⟨b1, a1, n1, c1, b2, a2, n2, c2, h1, h2, h3, h4, h5⟩ := h k hk
 exact ⟨b1, a1, n1, c1, b2, a2, n2, c2, e.cell h1, e.cell h2, e.cell h3, e.cell h4, h5.ext e⟩
set_option maxHeartbeats 1600000 in
theorem checks_f (g cap : Nat) (os : List (Option Rat)) (w : World) (hn : os.length ≤ 4294967296) (h : LF w g os) :
  Calls Tryz.prog 183 #[.slice (some ⟨g, 0, none⟩) os.length cap] w fun e w' => e = .returned (.bool (os.all Option.isSome)) ∧ Ext w w' := by
 replace h := mK h
 obtain ⟨n, hnn⟩ : ∃ n, n = os.length := ⟨_, rfl⟩
 rw [← hnn]
 obtain ⟨r, hr⟩ : ∃ r, r = os.all Option.isSome := ⟨_, rfl⟩
 rw [← hr]
 have hn2 : n ≤ 4294967296 := by omega
 replace hnn := mK hnn
 replace hr := mK hr
 clear hn
 obtain ⟨wo, hwo⟩ : ∃ wo : World, wo = w := ⟨_, rfl⟩
 go_enter Tryz.func183, Tryz.ntmps183
 go_wp2_with fail
 go_loopw [7] (fun i wr => ∃ k, k ≤ n ∧ i = .int .i64 (k : Nat) ∧ Ext wo wr ∧ ∀ j, j < k → (os.getD j none).isSome = true) (fun i _ => n - (intOf i).toNat)
 case atStart => exact ⟨0, Nat.zero_le _, rfl, hwo ▸ xR _, fun j hj => absurd hj (by omega)⟩
 case round =>
  obtain ⟨k, hk, rfl, hE, hj⟩ := hrel
  by_cases hlt : k < n
  ·obtain ⟨b1, a1, n1, c1, b2, a2, n2, c2, h1, h2, h3, h4, h5⟩ := (h.out.ext (hwo ▸ hE)) k (by rw [← hnn.out]; exact hlt)
   have hck := mK (fun w h => check_f (.agg #[.bool b1, .slice a1 n1 c1, .bool b2, .slice a2 n2 c2]) (os.getD k none) w h)
   obtain ⟨o, ho⟩ : ∃ o, o = os.getD k none := ⟨_, rfl⟩
   rw [← ho] at hck h5
   replace h5 := mK h5
   replace hE := mK hE
   replace hj := mK hj
   replace ho := mK ho
   cases o with
   | none =>
    have hf : r = false := by
     rw [hr.out, Bool.eq_false_iff]
     intro e
     rw [List.all_eq_true] at e
     have hkl : k < os.length := by rw [← hnn.out]; exact hlt
     have := e _ (List.getElem_mem hkl)
     have h2 := ho.out
     rw [List.getD_eq_getElem?_getD, List.getElem?_eq_getElem hkl] at h2
     simp at h2
     rw [← h2] at this
     cases this
    subst hf
    simp only [Option.isSome_none] at hck
    go_wp2_with fail
    refine (hck.out _ (h5.out.ext ((xR wr).al _))).mono ?_
    rintro e w2 ⟨rfl, hE2⟩
    replace hE := mK (hE.out.trans (((xR wr).al _).trans hE2))
    clear hE2 h1 h2 h3 h4
    go_wp2_with fail
    go_ret
    exact ⟨rfl, hwo ▸ hE.out⟩
   | some x =>
    simp only [Option.isSome_some] at hck
    go_wp2_with fail
    refine (hck.out _ (h5.out.ext ((xR wr).al _))).mono ?_
    rintro e w2 ⟨rfl, hE2⟩
    replace hE := mK (hE.out.trans (((xR wr).al _).trans hE2))
    clear hE2 h1 h2 h3 h4
    go_wp2_with fail
    go_roundw
    case rel =>
     refine ⟨k + 1, by omega, by go_num, hE.out, fun j hjk => ?_⟩
     rcases Nat.lt_or_ge j k with h | h
     ·exact hj.out j h
     ·obtain rfl : j = k := by omega
      rw [← ho.out]
      rfl
    case measure => simp [intOf] <;> omega
  ·obtain rfl : n = k := by omega
   have hf : r = true := by
    rw [hr.out, List.all_eq_true]
    intro x hx
    obtain ⟨j, hjl, rfl⟩ := List.getElem_of_mem hx
    have := hj j (by rw [hnn.out]; exact hjl)
    rwa [List.getD_eq_getElem?_getD, List.getElem?_eq_getElem hjl] at this
   subst hf
   replace hE := mK hE
   replace hj := mK hj
   go_wp2_with fail
   go_ret
   exact ⟨rfl, hwo ▸ hE.out⟩
def LR (w : World) (g : Nat) (os : List Rat) : Prop :=
 ∀ k, k < os.length → ∃ b1 a1 n1 c1 b2 a2 n2 c2, w.cell? ⟨g, k * 4, none⟩ = some (.bool b1) ∧ w.cell? ⟨g, k * 4 + 1, none⟩ = some (.slice a1 n1 c1) ∧ w.cell? ⟨g, k * 4 + 2, none⟩ = some (.bool b2) ∧ w.cell? ⟨g, k * 4 + 3, none⟩ = some (.slice a2 n2 c2) ∧
  FracR w (.agg #[.bool b1, .slice a1 n1 c1, .bool b2, .slice a2 n2 c2]) (os.getD k 0)
theorem LR.ext {w w' : World} {g : Nat} {os : List Rat} (h : LR w g os) (e : Ext w w') : LR w' g os := by
 intro k hk
 obtain ⟨b1, a1, n1, c1, b2, a2, n2, c2, h1, h2, h3, h4, h5⟩ := h k hk
 exact ⟨b1, a1, n1, c1, b2, a2, n2, c2, e.cell h1, e.cell h2, e.cell h3, e.cell h4, h5.ext e⟩
theorem frac_lens {w : World} {b1 b2 : Bool} {a1 a2 : Option Addr} {n1 c1 n2 c2 : Nat} {x : Rat} (h : FracR w (.agg #[.bool b1, .slice a1 n1 c1, .bool b2, .slice a2 n2 c2]) x) : n1 = nl x.num ∧ n2 = nl (x.den : Int) := by
 obtain ⟨s1, e1, _, _, rfl, _, _⟩ := h.num
 obtain ⟨s2, e2, _, _, rfl, _, _⟩ := h.den
 simp only [Value.agg.injEq, Array.mk.injEq, List.cons.injEq, and_true, Value.slice.injEq] at e1 e2
 exact ⟨e1.2.2.1, e2.2.2.1⟩
set_option maxHeartbeats 1600000 in
theorem longs_f (g cap : Nat) (os : List Rat) (w : World) (hn : os.length ≤ 4294967296) (hb : ∀ x ∈ os, nf x ≤ 4294967296) (h : LR w g os) :
  Calls Tryz.prog 182 #[.slice (some ⟨g, 0, none⟩) os.length cap] w fun e w' => e = .returned (.bool (os.any fun x => decide (2048 < nf x))) ∧ Ext w w' := by
 replace h := mK h
 replace hb := mK hb
 obtain ⟨n, hnn⟩ : ∃ n, n = os.length := ⟨_, rfl⟩
 rw [← hnn]
 obtain ⟨r, hr⟩ : ∃ r, r = os.any fun x => decide (2048 < nf x) := ⟨_, rfl⟩
 rw [← hr]
 have hn2 : n ≤ 4294967296 := by omega
 replace hnn := mK hnn
 replace hr := mK hr
 clear hn
 obtain ⟨wo, hwo⟩ : ∃ wo : World, wo = w := ⟨_, rfl⟩
 go_enter Tryz.func182, Tryz.ntmps182
 go_wp2_with fail
 go_loopw [7] (fun i wr => ∃ k, k ≤ n ∧ i = .int .i64 (k : Nat) ∧ Ext wo wr ∧ ∀ j, j < k → nf (os.getD j 0) ≤ 2048) (fun i _ => n - (intOf i).toNat)
 case atStart => exact ⟨0, Nat.zero_le _, rfl, hwo ▸ xR _, fun j hj => absurd hj (by omega)⟩
 case round =>
  obtain ⟨k, hk, rfl, hE, hj⟩ := hrel
  by_cases hlt : k < n
  ·have hkl : k < os.length := by rw [← hnn.out]; exact hlt
   obtain ⟨b1, a1, n1, c1, b2, a2, n2, c2, h1, h2, h3, h4, h5⟩ := (h.out.ext (hwo ▸ hE)) k hkl
   obtain ⟨l1, l2⟩ := frac_lens h5
   have hmem : os.getD k 0 ∈ os := by
    rw [List.getD_eq_getElem?_getD, List.getElem?_eq_getElem hkl]
    exact List.getElem_mem hkl
   have hbk := hb.out _ hmem
   have hfx : nf (os.getD k 0) = max n1 n2 := by rw [l1, l2]; rfl
   have hm1 : n1 ≤ 4294967296 := by omega
   have hm2 : n2 ≤ 4294967296 := by omega
   have lg1 := mK (fun gg w h0 h1 => long_c gg b1 a1 n1 c1 1 w hm1 h0 h1)
   have lg2 := mK (fun gg w h0 h1 => long_c gg b2 a2 n2 c2 1 w hm2 h0 h1)
   have hrt : 2048 < nf (os.getD k 0) → r = true := by
    intro h
    rw [hr.out, List.any_eq_true]
    exact ⟨_, hmem, decide_eq_true h⟩
   replace hE := mK hE
   replace hj := mK hj
   replace hrt := mK hrt
   clear l1 l2 hbk h5
   replace hfx := mK hfx
   replace hkl := mK hkl
   replace hmem := mK hmem
   by_cases g1 : 2048 < n1
   ·rw [decide_eq_true g1] at lg1
    have hr1 : r = true := hrt.out (by rw [hfx.out]; omega)
    subst hr1
    go_wp2_with fail
    refine (lg1.out _ _ (by go_simp) (by go_simp)).mono ?_
    rintro e w2 ⟨rfl, hE2⟩
    replace hE := mK (hE.out.trans ((((xR wr).al _).al _).trans hE2))
    clear hE2 h1 h2 h3 h4
    go_wp2_with fail
    go_ret
    exact ⟨rfl, hwo ▸ hE.out⟩
   ·rw [decide_eq_false g1] at lg1
    go_wp2_with fail
    refine (lg1.out _ _ (by go_simp) (by go_simp)).mono ?_
    rintro e w2 ⟨rfl, hE2⟩
    have hb4 := row4_cells (hE2.blk ((heap_alloc_old _ _ (by simp)).trans (heap_alloc_new wr _)))
    replace hE := mK (hE.out.trans ((((xR wr).al _).al _).trans hE2))
    clear hE2 h1 h2 h3 h4
    by_cases g2 : 2048 < n2
    ·rw [decide_eq_true g2] at lg2
     have hr1 : r = true := hrt.out (by rw [hfx.out]; omega)
     subst hr1
     go_wp2_with fail
     refine (lg2.out _ _ (by go_simp) (by go_simp)).mono ?_
     rintro e w3 ⟨rfl, hE2⟩
     replace hE := mK (hE.out.trans (((xR w2).al _).trans hE2))
     clear hE2 hb4
     go_wp2_with fail
     go_ret
     exact ⟨rfl, hwo ▸ hE.out⟩
    ·rw [decide_eq_false g2] at lg2
     go_wp2_with fail
     refine (lg2.out _ _ (by go_simp) (by go_simp)).mono ?_
     rintro e w3 ⟨rfl, hE2⟩
     replace hE := mK (hE.out.trans (((xR w2).al _).trans hE2))
     clear hE2 hb4
     go_wp2_with fail
     go_roundw
     case rel =>
      refine ⟨k + 1, by omega, by go_num, hE.out, fun j hjk => ?_⟩
      rcases Nat.lt_or_ge j k with h | h
      ·exact hj.out j h
      ·obtain rfl : j = k := by omega
       rw [hfx.out]
       omega
     case measure => simp [intOf] <;> omega
  ·obtain rfl : n = k := by omega
   have hf : r = false := by
    rw [hr.out, List.any_eq_false]
    intro x hx
    obtain ⟨j, hjl, rfl⟩ := List.getElem_of_mem hx
    have := hj j (by rw [hnn.out]; exact hjl)
    rw [List.getD_eq_getElem?_getD, List.getElem?_eq_getElem hjl] at this
    simpa using this
   subst hf
   replace hE := mK hE
   replace hj := mK hj
   go_wp2_with fail
   go_ret
   exact ⟨rfl, hwo ▸ hE.out⟩
theorem answer_f (g cap : Nat) (os : List Rat) (w : World) (hn : os.length ≤ 4294967296) (hb : ∀ x ∈ os, nf x ≤ 4294967296) (h : LR w g os) :
  Calls Tryz.prog 127 #[.slice (some ⟨g, 0, none⟩) os.length cap] w fun e w' => e = .returned (.int .i64 (if (os.any fun x => decide (2048 < nf x)) = true then 4 else 0)) ∧ Ext w w' := by
 have hl := mK (longs_f g cap os w hn hb h)
 clear h hb hn
 generalize (os.any fun x => decide (2048 < nf x)) = r at *
 generalize os.length = n at *
 cases r
 ·rw [if_neg (by decide)]
  go_enter Tryz.func127, Tryz.ntmps127
  go_wp2_with fail
  refine hl.out.mono ?_
  rintro e w' ⟨rfl, hE⟩
  go_wp2_with fail
  go_ret
  exact ⟨rfl, hE⟩
 ·rw [if_pos rfl]
  go_enter Tryz.func127, Tryz.ntmps127
  go_wp2_with fail
  refine hl.out.mono ?_
  rintro e w' ⟨rfl, hE⟩
  go_wp2_with fail
  go_ret
  exact ⟨rfl, hE⟩
theorem results_row_tmp {P : Program} {fn : Func} {p q : Tmp} {ty : TypeId} (h : fn.results = #[.cell p ty, .tmp q]) (tmps : Array Value) (w : World) (g : Nat) (t : TypeId) (cs : Array Value) (u : Value) (d : TypeDesc)
  (hp : tmps.getD p undef = .pointer (some ⟨g, 0, none⟩)) (hq : tmps.getD q undef = u) (hg : w.heap[g]? = some (.cells cs t (0, 0)))
  (hu : P.underlying ty = some d) (hd : (match d with | .struct _ | .array _ _ => true | _ => false) = true) (hi : (P.info? ty).map (·.size) = some cs.size) :
  (results fn tmps).run P w = .ok (.tuple #[.agg cs, u]) w := by
 have hp' : tmps[p]?.getD undef = .pointer (some ⟨g, 0, none⟩) := by simpa using hp
 have hq' : tmps[q]?.getD undef = u := by simpa using hq
 simp [results, h, hp', hq', asAddr, run_loadVar_row w g t ty cs (0, 0) d hg hu hd hi]
theorem lr_one {w : World} {g : Nat} {b1 b2 : Bool} {a1 a2 : Option Addr} {n1 c1 n2 c2 : Nat} {x : Rat} {T : Nat} (hg : w.heap[g]? = some (.cells #[.bool b1, .slice a1 n1 c1, .bool b2, .slice a2 n2 c2] T (0, 0)))
  (h : FracR w (.agg #[.bool b1, .slice a1 n1 c1, .bool b2, .slice a2 n2 c2]) x) : LR w g [x] := by
 intro k hk
 obtain rfl : k = 0 := by simpa using hk
 have := row4_cells hg
 exact ⟨_, _, _, _, _, _, _, _, this.1, this.2.1, this.2.2.1, this.2.2.2, h⟩
def capE (x : Rat) : Int := if nf x ≤ 2048 then 0 else 4
def flatV : Value → Bool
 | .int _ _ => false
 | _ => true
theorem Row.flat {w : World} {a : Option Addr} {l : List Nat} {g T : Nat} {fr : Nat × Nat} {old : Array Value} (h : Row w a (limV l)) (hg : w.heap[g]? = some (.cells old T fr)) (ho : old.all flatV = true) (cs : Array Value) : Row (w.setRow g cs) a (limV l) := by
 obtain ⟨b, off, h1, h2⟩ := h
 refine ⟨b, off, h1, fun j hj => ?_⟩
 have hc := h2 j hj
 have hne : b ≠ g := by
  rintro rfl
  rw [limV_getD _ _ (by rw [limV_length] at hj; exact hj)] at hc
  have hc2 : old[off + j]? = some (.int .u32 ((l.getD j 0 : Nat) : Int)) := by
   simp only [World.cell?, hg] at hc
   simpa using hc
  obtain ⟨hlt, he⟩ := Array.getElem?_eq_some_iff.1 hc2
  have := Array.all_eq_true.1 ho _ hlt
  rw [he] at this
  cases this
 have : ((w.setRow g cs).heap[b]?) = w.heap[b]? := setRow_other _ _ _ _ hne
 simp only [World.cell?, this] at hc ⊢
 exact hc
theorem IntR.flat {w : World} {v : Value} {x : Int} {g T : Nat} {fr : Nat × Nat} {old : Array Value} (h : IntR w v x) (hg : w.heap[g]? = some (.cells old T fr)) (ho : old.all flatV = true) (cs : Array Value) : IntR (w.setRow g cs) v x := by
 obtain ⟨s, h1, a, c, h2, h3, r⟩ := h
 exact ⟨s, h1, a, c, h2, h3, r.flat hg ho cs⟩
theorem FracR.flat {w : World} {v : Value} {q : Rat} {g T : Nat} {fr : Nat × Nat} {old : Array Value} (h : FracR w v q) (hg : w.heap[g]? = some (.cells old T fr)) (ho : old.all flatV = true) (cs : Array Value) : FracR (w.setRow g cs) v q := by
 obtain ⟨b1, a1, n1, c1, b2, a2, n2, c2, h1, h2, h3⟩ := h
 exact ⟨b1, a1, n1, c1, b2, a2, n2, c2, h1, h2.flat hg ho cs, h3.flat hg ho cs⟩
theorem lf_two {w : World} {g : Nat} {b1 b2 b3 b4 : Bool} {a1 a2 a3 a4 : Option Addr} {n1 c1 n2 c2 n3 c3 n4 c4 : Nat} {o1 o2 : Option Rat} {T : Nat}
  (hg : w.heap[g]? = some (.cells #[.bool b1, .slice a1 n1 c1, .bool b2, .slice a2 n2 c2, .bool b3, .slice a3 n3 c3, .bool b4, .slice a4 n4 c4] T (0, 0)))
  (h : AnyF w (.agg #[.bool b1, .slice a1 n1 c1, .bool b2, .slice a2 n2 c2]) o1) (h' : AnyF w (.agg #[.bool b3, .slice a3 n3 c3, .bool b4, .slice a4 n4 c4]) o2) : LF w g [o1, o2] := by
 intro k hk
 have hk2 : k = 0 ∨ k = 1 := by simp at hk; omega
 rcases hk2 with rfl | rfl
 ·exact ⟨_, _, _, _, _, _, _, _, by simp [World.cell?, hg], by simp [World.cell?, hg], by simp [World.cell?, hg], by simp [World.cell?, hg], h⟩
 ·exact ⟨_, _, _, _, _, _, _, _, by simp [World.cell?, hg], by simp [World.cell?, hg], by simp [World.cell?, hg], by simp [World.cell?, hg], h'⟩
theorem nf_div (X Y : Int) (hY : Y ≠ 0) : nf (Rat.divInt X Y) ≤ max (nl X) (nl Y) := by
 unfold nf
 rw [low_num, low_den X Y hY, if_neg hY]
 have h1 := tdiv_nl X (Int.gcd X Y)
 have h2 := tdiv_nl Y (Int.gcd X Y)
 split <;> (try rw [nl_neg, nl_neg]) <;> omega
theorem nl_i64' {n : Int} (h0 : -9223372036854775808 ≤ n) (h1 : n < 9223372036854775808) : nl n ≤ 2048 := by
 unfold nl
 exact nT (lim_length_le (k := 2) (by omega)) (by omega)
theorem eq_of_getD {l m : List Nat} (hl : l.length = m.length) (h : ∀ j, j < l.length → l.getD j 0 = m.getD j 0) : l = m := by
 refine List.ext_getElem hl fun j h1 h2 => ?_
 have := h j h1
 simpa [List.getD_eq_getElem?_getD, h1, h2] using this
set_option maxHeartbeats 3200000 in
theorem sameInt_c (v1 v2 : Value) (b1 b2 : Bool) (l1 l2 : List Nat) (w : World) (hl1 : l1.length ≤ 4294967296) (_hl2 : l2.length ≤ 4294967296) (h1 : AnyR w v1 b1 l1) (h2 : AnyR w v2 b2 l2) :
  Calls Tryz.prog 148 #[v1, v2] w fun e w' => e = .returned (.bool (decide (b1 = b2 ∧ l1 = l2))) ∧ Ext w w' := by
 obtain ⟨a1, c1, rfl, ok1, _, r1⟩ := h1
 obtain ⟨a2, c2, rfl, ok2, _, r2⟩ := h2
 by_cases hb : b1 = b2
 ·by_cases hlen : l1.length = l2.length
  ·subst hb
   obtain ⟨r, hr⟩ : ∃ r, r = decide (b1 = b1 ∧ l1 = l2) := ⟨_, rfl⟩
   rw [← hr]
   obtain ⟨g1, o1, ha1, hc1⟩ := r1
   obtain ⟨g2, o2, ha2, hc2⟩ := r2
   obtain ⟨n, hn⟩ : ∃ n, n = l1.length := ⟨_, rfl⟩
   have hn2 : n = l2.length := by omega
   have hnb : n ≤ 4294967296 := by omega
   rw [← hn, ← hn2]
   obtain ⟨wb, hwb⟩ : ∃ wb, wb = (w.alloc (.cells #[.bool b1, .slice a1 n c1] 50)).alloc (.cells #[.bool b1, .slice a2 n c2] 50) := ⟨_, rfl⟩
   have hE : Ext w wb := by rw [hwb]; exact ((xR w).al _).al _
   have z0 : wb.heap[w.heap.size]? = some (.cells #[.bool b1, .slice a1 n c1] 50 (0, 0)) := by rw [hwb]; exact (heap_alloc_old _ _ (by simp)).trans (heap_alloc_new _ _)
   have z1 : wb.heap[w.heap.size + 1]? = some (.cells #[.bool b1, .slice a2 n c2] 50 (0, 0)) := by rw [hwb]; exact heap_at _ _ _ (by simp)
   have y0 := row2_cells z0
   have y1 := row2_cells z1
   replace hwb := mK hwb
   replace hr := mK hr
   replace hn := mK hn
   replace hn2 := mK hn2
   replace ha1 := mK ha1
   replace ha2 := mK ha2
   replace hc1 := mK hc1
   replace hc2 := mK hc2
   replace hE := mK hE
   clear hlen z0 z1
   go_enter Tryz.func148, Tryz.ntmps148
   go_wp2_with fail
   rw [← hwb.out]
   obtain ⟨wo, hwo⟩ : ∃ wo : World, wo = wb := ⟨_, rfl⟩
   go_loopw [5] (fun i wr => ∃ k, k ≤ n ∧ i = .int .i64 (k : Nat) ∧ Ext wo wr ∧ ∀ j, j < k → l1.getD j 0 = l2.getD j 0) (fun i _ => n - (intOf i).toNat)
   case atStart => exact ⟨0, Nat.zero_le _, rfl, hwo ▸ xR _, fun j hj => absurd hj (by omega)⟩
   case round =>
    obtain ⟨k, hk, rfl, hX, hj⟩ := hrel
    have x0 := (hwo ▸ hX : Ext wb wr).cell y0.2
    have x1 := (hwo ▸ hX : Ext wb wr).cell y1.2
    have hEw : Ext w wr := hE.out.trans (hwo ▸ hX)
    clear y0 y1
    by_cases hlt : k < n
    ·have u1 : k < l1.length := by rw [← hn.out]; exact hlt
     have u2 : k < l2.length := by rw [← hn2.out]; exact hlt
     have e1 : wr.cell? ⟨g1, o1 + k, none⟩ = some (.int .u32 (l1.getD k 0 : Nat)) := by
      have := hEw.cell (hc1.out k (by rw [limV_length]; exact u1))
      rwa [limV_getD _ _ u1] at this
     have e2 : wr.cell? ⟨g2, o2 + k, none⟩ = some (.int .u32 (l2.getD k 0 : Nat)) := by
      have := hEw.cell (hc2.out k (by rw [limV_length]; exact u2))
      rwa [limV_getD _ _ u2] at this
     have q1 := ha1.out (limV_ne u1)
     have q2 := ha2.out (limV_ne u2)
     subst q1
     subst q2
     have hne : l1.getD k 0 ≠ l2.getD k 0 → r = false := by
      intro h
      rw [hr.out]
      refine decide_eq_false (fun e => h (by rw [e.2]))
     have hs : ∀ j, j < k + 1 → l1.getD k 0 = l2.getD k 0 → l1.getD j 0 = l2.getD j 0 := by
      intro j h e
      rcases Nat.lt_or_ge j k with h1 | h1
      ·exact hj j h1
      ·obtain rfl : j = k := by omega
       exact e
     generalize l1.getD k 0 = x at *
     generalize l2.getD k 0 = y at *
     replace hs := mK hs
     replace hne := mK hne
     replace hEw := mK hEw
     replace hX := mK hX
     clear hj u1 u2 hc1 hc2 ha1 ha2
     by_cases hxy : x = y
     ·subst hxy
      go_wp2_with fail
      go_quiet (fail)
      go_wp2_with fail
      go_roundw
      case rel => exact ⟨k + 1, by omega, by go_num, hX.out.drN _, fun j h => hs.out j h (by trivial)⟩
      case measure => simp [intOf] <;> omega
     ·have hb1 : ((x : Int) == (y : Int)) = false := by rw [beq_eq_false_iff_ne]; omega
      obtain rfl := hne.out hxy
      replace hxy := mK hxy
      go_wp2_with fail
      go_quiet (fail)
      go_wp2_with fail
      go_ret
      exact ⟨rfl, hEw.out.drN _⟩
    ·obtain rfl : n = k := by omega
     have hrt : r = true := by
      rw [hr.out]
      exact decide_eq_true ⟨by trivial, eq_of_getD (by rw [← hn.out, ← hn2.out]) (fun j h => hj j (by rw [hn.out]; exact h))⟩
     subst hrt
     replace hEw := mK hEw
     clear hj hX
     go_wp2_with fail
     go_ret
     exact ⟨rfl, hEw.out⟩
  ·have hf : decide (b1 = b2 ∧ l1 = l2) = false := decide_eq_false (fun h => hlen (by rw [h.2]))
   rw [hf]
   have hl : ((l1.length : Int) == (l2.length : Int)) = false := by rw [beq_eq_false_iff_ne]; omega
   subst hb
   clear hf r1 r2
   generalize l1.length = n1 at *
   generalize l2.length = n2 at *
   replace hlen := mK hlen
   go_enter Tryz.func148, Tryz.ntmps148
   go_wp2_with fail
   go_ret
   exact ⟨rfl, ((xR _).al _).al _⟩
 ·have hf : decide (b1 = b2 ∧ l1 = l2) = false := decide_eq_false (fun h => hb h.1)
  rw [hf]
  have hbb : (b1 == b2) = false := by rw [beq_eq_false_iff_ne]; exact hb
  clear hf r1 r2
  generalize l1.length = n1 at *
  generalize l2.length = n2 at *
  replace hb := mK hb
  go_enter Tryz.func148, Tryz.ntmps148
  go_wp2_with fail
  go_ret
  exact ⟨rfl, ((xR _).al _).al _⟩
end Go.Proofs.YtjelnmokcpoofaaGreatDoor
