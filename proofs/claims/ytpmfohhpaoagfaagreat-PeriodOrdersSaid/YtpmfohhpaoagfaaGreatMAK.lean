/-
  polestarref01: add, sub. polestarref01: mul, times. polestarref01: short, half, even. polestarref01: fitting. polestarref01: divide. polestarref01: divide by more than one limb. polestarref01: Sign, Check, Of, Bits, Cmp, Below, Turned. polestarref01: Cmp, Below, Turned.
-/
import Derived.Test.YtpmfohhpaoagfaaGreatMAJ
import Derived.Test.YtpmfohhpaoagfaaGreatMAB
import Derived.Test.YtpmfohhpaoagfaaGreatMAD
import Derived.Laws.AppendOwnNone
import Derived.Test.YtpmfohhpaoagfaaGreatMAF
namespace Go.Proofs.YtpmfohhpaoagfaaGreat
open Go Go.RowKit Go.Proofs
theorem getD_out {l : List Nat} {k : Nat} (h : ¬ k < l.length) : l.getD k 0 = 0 := by
  simp [List.getD_eq_getElem?_getD, List.getElem?_eq_none (show l.length ≤ k by omega)]
theorem val_take_any (l : List Nat) (k : Nat) : val (l.take (k + 1)) = val (l.take k) + 4294967296 ^ k * l.getD k 0 := by
  by_cases h : k < l.length
  · exact val_take_succ l k h
  · rw [getD_out h, List.take_of_length_le (by omega), List.take_of_length_le (by omega)]; simp
theorem val_snoc (q : List Nat) (x : Nat) : val (q ++ [x]) = val q + 4294967296 ^ q.length * x := by
  rw [val_append]; simp [val]
/-- What is kept while adding, limb behind limb. -/
def AddI (l m q : List Nat) (k c : Nat) : Prop := q.length = k ∧ OkL q ∧ c ≤ 1 ∧ val q + 4294967296 ^ k * c = val (l.take k) + val (m.take k) ∧ k ≤ max l.length m.length + 1 ∧ (k ≤ max l.length m.length ∨ c = 0)
theorem addI_start (l m : List Nat) : AddI l m [] 0 0 := ⟨rfl, (fun x h => by cases h), by omega, by simp [val], by omega, by omega⟩
theorem addI_step {l m q : List Nat} {k c : Nat} (h : AddI l m q k c) (hl : OkL l) (hm : OkL m) (hg : k < l.length ∨ k < m.length ∨ 0 < c) :
    AddI l m (q ++ [(c + l.getD k 0 + m.getD k 0) % 4294967296]) (k + 1) ((c + l.getD k 0 + m.getD k 0) / 4294967296) := by
  obtain ⟨h1, h2, h3, h4, h5, h6⟩ := h
  have hx := okL_get hl k
  have hy := okL_get hm k
  refine ⟨by simp [h1], okL_append.2 ⟨h2, fun x hx => by simp at hx; omega⟩, by omega, ?_, by omega, ?_⟩
  · rw [val_snoc, h1, val_take_any l k, val_take_any m k, Nat.pow_succ]
    have e : c + l.getD k 0 + m.getD k 0 = (c + l.getD k 0 + m.getD k 0) % 4294967296 + 4294967296 * ((c + l.getD k 0 + m.getD k 0) / 4294967296) := (Nat.mod_add_div _ _).symm
    generalize (c + l.getD k 0 + m.getD k 0) % 4294967296 = r at *
    generalize (c + l.getD k 0 + m.getD k 0) / 4294967296 = s at *
    generalize 4294967296 ^ k = p at *
    have e2 : p * (c + l.getD k 0 + m.getD k 0) = p * (r + 4294967296 * s) := by rw [e]
    simp only [Nat.mul_add] at e2
    rw [← Nat.mul_assoc] at e2
    omega
  · by_cases hk : k < max l.length m.length
    · exact .inl (by omega)
    · right
      rw [getD_out (show ¬ k < l.length by omega), getD_out (show ¬ k < m.length by omega)]
      omega
theorem addI_end {l m q : List Nat} {k c : Nat} (h : AddI l m q k c) (h1 : ¬ k < l.length) (h2 : ¬ k < m.length) (h3 : c = 0) : OkL q ∧ q.length ≤ max l.length m.length + 1 ∧ val q = val l + val m := by
  obtain ⟨g1, g2, g3, g4, g5, g6⟩ := h
  subst h3
  rw [List.take_of_length_le (by omega), List.take_of_length_le (by omega)] at g4
  exact ⟨g2, by omega, by omega⟩
theorem magO_snoc {w : World} {base : Nat} {v : Value} {q : List Nat} {d : Int} {x : Nat} (h : w.ownsRow base 85 1 v (q.length + 1) (limV q ++ [.int .u32 d])) (hd : d = (x : Int)) : MagO w base v (q ++ [x]) := by
  unfold MagO limV at *
  rw [hd] at h
  simpa using h
theorem cells_new {w : World} {T : Nat} {u : Value} : ∀ j x, [u][j]? = some x → (w.alloc (.cells #[u] T)).cell? ((⟨w.heap.size, 0, none⟩ : Addr).add j) = some x := by
  intro j x hx
  cases j with
  | zero =>
    simp at hx
    subst hx
    have : (⟨w.heap.size, 0, none⟩ : Addr).add 0 = ⟨w.heap.size, 0, none⟩ := by simp [Addr.add]
    rw [this]
    unfold World.cell?
    rw [heap_alloc_new]
    rfl
  | succ j => simp at hx
theorem one_u32 {d : Int} : ∀ u ∈ [Value.int .u32 d], u.oneCell' = true := by
  intro u hu
  simp at hu
  subst hu
  rfl
theorem Ext.app {w wr w1 : World} {o : Obj} {E sz n : Nat} {v : Value} {xs : List Value} (e : Ext w wr) (h : wr.ownsRow w.heap.size E sz v n xs) (hg : (wr.alloc o).grownBy w1 v.ownBlock) : Ext w w1 :=
  (e.al o).gr hg fun k hk => (World.ownsRow.lt h k hk).1
set_option maxRecDepth 100000 in
set_option maxHeartbeats 3200000 in
theorem radd_c (a a' : Option Addr) (c c' : Nat) (l m : List Nat) (w : World) (hl : l.length ≤ 2147483648) (hm : m.length ≤ 2147483648) (okl : OkL l) (okm : OkL m)
    (h : Row w a (limV l)) (h' : Row w a' (limV m)) :
    Calls Tryz.prog 121 #[.slice a l.length c, .slice a' m.length c'] w fun e w' => ∃ v q, e = .returned v ∧ MagO w' w.heap.size v q ∧ OkL q ∧ q.length ≤ max l.length m.length + 1 ∧ val q = val l + val m ∧ Ext w w' := by
  obtain ⟨b, off, ha, hc⟩ := h
  obtain ⟨b', off', ha', hc'⟩ := h'
  replace ha := mkHid ha
  replace hc := mkHid hc
  replace ha' := mkHid ha'
  replace hc' := mkHid hc'
  have hst := mkHid (addI_start l m)
  obtain ⟨i0, hi, hz0, hz1, hz2⟩ := info_parts u32_info
  go_enter Tryz.func121, Tryz.ntmps121
  go_wp2_with fail
  go_loopw [5, 6, 7, 8] (fun v s i _ wr => ∃ k cr q, i = .int .i64 (k : Nat) ∧ s = .int .u64 (cr : Nat) ∧ MagO wr w.heap.size v q ∧ AddI l m q k cr ∧ Ext w wr) (fun _ _ i _ _ => (max l.length m.length + 2) - (intOf i).toNat)
  case atStart => exact ⟨0, 0, [], rfl, rfl, magO_nil _ _, hst.out, Ext.refl _⟩
  case round =>
    obtain ⟨k, cr, q, rfl, rfl, ho, had, he⟩ := hrel
    have hk := had.2.2.2.2.1
    have hcr := had.2.2.1
    have hql : q.length ≤ 2147483650 := by have := had.1; omega
    have ho0 := mkHid ho
    by_cases hkl : k < l.length
    · have h1 := he.cell (row_at hc.out hkl)
      have hA := ha.out (limV_ne hkl)
      have hxl := okL_get okl k
      by_cases hkm : k < m.length
      · have h2 := he.cell (row_at hc'.out hkm)
        have hA' := ha'.out (limV_ne hkm)
        have hyl := okL_get okm k
        have hnext := mkHid (addI_step had okl okm (.inl hkl))
        rw [hA, hA']
        replace hA := mkHid hA
        replace hA' := mkHid hA'
        replace had := mkHid had
        generalize l.getD k 0 = x at *
        generalize m.getD k 0 = y at *
        go_wp2_with (at_builtin; refine wpList_append_own _ rfl (.tmp 48) (.tmp 52) 22 rfl w.heap.size 85 i0 (.int .u32 0) 1 4 u32_under hi hz0 hz1 hz2 rfl (by decide) _ q.length (limV q) rfl (World.ownsRow.alloc ho _) ⟨wr.heap.size, 0, none⟩ 1 1 [.int .u32 (((cr : Int) + x + y) % 4294967296)] rfl rfl cells_new one_u32 ?c3 ?c4 ?c5 ?_)
        case c3 => unfold maxLen; have := hql; omega
        case c4 => have := hql; omega
        case c5 => have := he.size; simp; omega
        intro v' w1 hown hgrow _
        replace ho := mkHid (magO_snoc hown (show _ = (((cr + x + y) % 4294967296 : Nat) : Int) by simp))
        replace he := mkHid (he.app ho0.out hgrow)
        clear hown hgrow
        go_wp2_with fail
        go_roundw
        case rel => exact ⟨k + 1, (cr + x + y) / 4294967296, _, by go_num, by simp, ho.out, hnext.out, he.out⟩
        case measure => simp [intOf] <;> omega
      · have hnext := addI_step had okl okm (.inl hkl)
        rw [getD_out hkm, Nat.add_zero] at hnext
        replace hnext := mkHid hnext
        rw [hA]
        replace hA := mkHid hA
        replace had := mkHid had
        generalize l.getD k 0 = x at *
        go_wp2_with (at_builtin; refine wpList_append_own _ rfl (.tmp 48) (.tmp 52) 22 rfl w.heap.size 85 i0 (.int .u32 0) 1 4 u32_under hi hz0 hz1 hz2 rfl (by decide) _ q.length (limV q) rfl (World.ownsRow.alloc ho _) ⟨wr.heap.size, 0, none⟩ 1 1 [.int .u32 (((cr : Int) + x) % 4294967296)] rfl rfl cells_new one_u32 ?c3 ?c4 ?c5 ?_)
        case c3 => unfold maxLen; have := hql; omega
        case c4 => have := hql; omega
        case c5 => have := he.size; simp; omega
        intro v' w1 hown hgrow _
        replace ho := mkHid (magO_snoc hown (show _ = (((cr + x) % 4294967296 : Nat) : Int) by simp))
        replace he := mkHid (he.app ho0.out hgrow)
        clear hown hgrow
        go_wp2_with fail
        go_roundw
        case rel => exact ⟨k + 1, (cr + x) / 4294967296, _, by go_num, by simp, ho.out, hnext.out, he.out⟩
        case measure => simp [intOf] <;> omega
    · by_cases hkm : k < m.length
      · have h2 := he.cell (row_at hc'.out hkm)
        have hA' := ha'.out (limV_ne hkm)
        have hyl := okL_get okm k
        have hnext := addI_step had okl okm (.inr (.inl hkm))
        rw [getD_out hkl, Nat.add_zero] at hnext
        replace hnext := mkHid hnext
        rw [hA']
        replace hA' := mkHid hA'
        replace had := mkHid had
        generalize m.getD k 0 = y at *
        go_wp2_with (at_builtin; refine wpList_append_own _ rfl (.tmp 48) (.tmp 52) 22 rfl w.heap.size 85 i0 (.int .u32 0) 1 4 u32_under hi hz0 hz1 hz2 rfl (by decide) _ q.length (limV q) rfl (World.ownsRow.alloc ho _) ⟨wr.heap.size, 0, none⟩ 1 1 [.int .u32 (((cr : Int) + y) % 4294967296)] rfl rfl cells_new one_u32 ?c3 ?c4 ?c5 ?_)
        case c3 => unfold maxLen; have := hql; omega
        case c4 => have := hql; omega
        case c5 => have := he.size; simp; omega
        intro v' w1 hown hgrow _
        replace ho := mkHid (magO_snoc hown (show _ = (((cr + y) % 4294967296 : Nat) : Int) by simp))
        replace he := mkHid (he.app ho0.out hgrow)
        clear hown hgrow
        go_wp2_with fail
        go_roundw
        case rel => exact ⟨k + 1, (cr + y) / 4294967296, _, by go_num, by simp, ho.out, hnext.out, he.out⟩
        case measure => simp [intOf] <;> omega
      · by_cases h0 : cr = 0
        · have hend := mkHid (addI_end had hkl hkm h0)
          subst h0
          replace had := mkHid had
          replace ho := mkHid ho
          replace he := mkHid he
          go_wp2_with fail
          go_ret
          exact ⟨_, _, rfl, ho.out, hend.out.1, hend.out.2.1, hend.out.2.2, he.out⟩
        · have hnext := addI_step had okl okm (.inr (.inr (by omega)))
          rw [getD_out hkl, getD_out hkm, Nat.add_zero, Nat.add_zero] at hnext
          have hcp : 0 < cr := by omega
          have hki : k ≤ max l.length m.length := by have := had.2.2.2.2.2; omega
          replace hnext := mkHid hnext
          replace had := mkHid had
          replace h0 := mkHid h0
          go_wp2_with (at_builtin; refine wpList_append_own _ rfl (.tmp 48) (.tmp 52) 22 rfl w.heap.size 85 i0 (.int .u32 0) 1 4 u32_under hi hz0 hz1 hz2 rfl (by decide) _ q.length (limV q) rfl (World.ownsRow.alloc ho _) ⟨wr.heap.size, 0, none⟩ 1 1 [.int .u32 ((cr : Int) % 4294967296)] rfl rfl cells_new one_u32 ?c3 ?c4 ?c5 ?_)
          case c3 => unfold maxLen; have := hql; omega
          case c4 => have := hql; omega
          case c5 => have := he.size; simp; omega
          intro v' w1 hown hgrow _
          replace ho := mkHid (magO_snoc hown (show _ = ((cr % 4294967296 : Nat) : Int) by simp))
          replace he := mkHid (he.app ho0.out hgrow)
          clear hown hgrow
          go_wp2_with fail
          go_roundw
          case rel => exact ⟨k + 1, cr / 4294967296, _, by go_num, by simp, ho.out, hnext.out, he.out⟩
          case measure => simp [intOf] <;> omega
/-- What is kept while taking away, limb behind limb. -/
def SubI (l m q : List Nat) (k c : Nat) : Prop := q.length = k ∧ k ≤ l.length ∧ OkL q ∧ c ≤ 1 ∧ val q + val (m.take k) = val (l.take k) + 4294967296 ^ k * c
theorem subI_start (l m : List Nat) : SubI l m [] 0 0 := ⟨rfl, by omega, (fun x h => by cases h), by omega, by simp [val]⟩
theorem subI_step {l m q : List Nat} {k c d c' : Nat} (h : SubI l m q k c) (hk : k < l.length) (hd : d < 4294967296) (hc' : c' ≤ 1) (e : d + m.getD k 0 + c = l.getD k 0 + 4294967296 * c') :
    SubI l m (q ++ [d]) (k + 1) c' := by
  obtain ⟨h1, h2, h3, h4, h5⟩ := h
  refine ⟨by simp [h1], by omega, okL_append.2 ⟨h3, fun x hx => by simp at hx; omega⟩, hc', ?_⟩
  rw [val_snoc, h1, val_take_any l k, val_take_any m k, Nat.pow_succ]
  generalize 4294967296 ^ k = p at *
  have e2 : p * (d + m.getD k 0 + c) = p * (l.getD k 0 + 4294967296 * c') := by rw [e]
  simp only [Nat.mul_add] at e2
  rw [← Nat.mul_assoc] at e2
  omega
theorem subI_end {l m q : List Nat} {c : Nat} (h : SubI l m q l.length c) (hm : m.length ≤ l.length) (hv : val m ≤ val l) : OkL q ∧ q.length = l.length ∧ val q = val l - val m := by
  obtain ⟨h1, h2, h3, h4, h5⟩ := h
  refine ⟨h3, h1, ?_⟩
  rw [List.take_length, List.take_of_length_le hm] at h5
  have hq := val_lt h3
  rw [h1] at hq
  have : c = 0 ∨ c = 1 := by omega
  rcases this with rfl | rfl <;> simp at h5 <;> omega
set_option maxRecDepth 100000 in
set_option maxHeartbeats 3200000 in
theorem rsub_c (a a' : Option Addr) (c c' : Nat) (l m : List Nat) (w : World) (hl : l.length ≤ 2147483648) (hml : m.length ≤ l.length) (okl : OkL l) (okm : OkL m) (hv : val m ≤ val l)
    (h : Row w a (limV l)) (h' : Row w a' (limV m)) :
    Calls Tryz.prog 123 #[.slice a l.length c, .slice a' m.length c'] w fun e w' => ∃ v, e = .returned v ∧ MagO w' w.heap.size v (lim (val l - val m)) ∧ Ext w w' := by
  obtain ⟨b, off, ha, hc⟩ := h
  obtain ⟨b', off', ha', hc'⟩ := h'
  replace ha := mkHid ha
  replace hc := mkHid hc
  replace ha' := mkHid ha'
  replace hc' := mkHid hc'
  replace hv := mkHid hv
  have hst := mkHid (subI_start l m)
  obtain ⟨i0, hi, hz0, hz1, hz2⟩ := info_parts u32_info
  go_enter Tryz.func123, Tryz.ntmps123
  go_wp2_with fail
  go_loopw [5, 6, 7, 8, 9] (fun v s i _ _ wr => ∃ k cr q, i = .int .i64 (k : Nat) ∧ s = .int .u64 (cr : Nat) ∧ MagO wr w.heap.size v q ∧ SubI l m q k cr ∧ Ext w wr) (fun _ _ i _ _ _ => l.length - (intOf i).toNat)
  case atStart => exact ⟨0, 0, [], rfl, rfl, magO_nil _ _, hst.out, Ext.refl _⟩
  case round =>
    obtain ⟨k, cr, q, rfl, rfl, ho, had, he⟩ := hrel
    have hk := had.2.1
    have hcr := had.2.2.2.1
    have hql : q.length ≤ 2147483648 := by have := had.1; omega
    have ho0 := mkHid ho
    by_cases hkl : k < l.length
    · have h1 := he.cell (row_at hc.out hkl)
      have hA := ha.out (limV_ne hkl)
      have hxl := okL_get okl k
      have hyl := okL_get okm k
      obtain ⟨x, hxe⟩ : ∃ x, x = l.getD k 0 := ⟨_, rfl⟩
      obtain ⟨y, hye⟩ : ∃ y, y = m.getD k 0 := ⟨_, rfl⟩
      rw [hA]
      rw [← hxe] at h1 hxl
      rw [← hye] at hyl
      replace hxe := mkHid hxe
      replace hA := mkHid hA
      by_cases hkm : k < m.length
      · have h2 := he.cell (row_at hc'.out hkm)
        have hA' := ha'.out (limV_ne hkm)
        rw [← hye] at h2
        rw [hA']
        replace hA' := mkHid hA'
        replace hye := mkHid hye
        by_cases hlt : x < cr + y
        · have hlt2 : (x : Int) < ((cr : Int) + y) := by omega
          have hb1 : ((cr : Int) + y) ≤ x + 4294967296 := by omega
          have hnext := mkHid (subI_step (d := x + 4294967296 - (cr + y)) (c' := 1) had hkl (by omega) (by omega) (by rw [← hxe.out, ← hye.out]; omega))
          have hdd := mkHid (show (x : Int) + 4294967296 - (((cr : Int) + y)) = ((x + 4294967296 - (cr + y) : Nat) : Int) by omega)
          replace had := mkHid had
          replace hlt := mkHid hlt
          go_wp2_with (at_builtin; refine wpList_append_own _ rfl (.tmp 38) (.tmp 43) 22 rfl w.heap.size 85 i0 (.int .u32 0) 1 4 u32_under hi hz0 hz1 hz2 rfl (by decide) _ q.length (limV q) rfl (World.ownsRow.alloc ho _) ⟨wr.heap.size, 0, none⟩ 1 1 [.int .u32 ((x : Int) + 4294967296 - (((cr : Int) + y)))] rfl rfl cells_new one_u32 ?c3 ?c4 ?c5 ?_)
          case c3 => unfold maxLen; have := hql; omega
          case c4 => have := hql; omega
          case c5 => have := he.size; simp; omega
          intro v' w1 hown hgrow _
          replace ho := mkHid (magO_snoc hown (hdd.out))
          replace he := mkHid (he.app ho0.out hgrow)
          clear hown hgrow
          go_wp2_with fail
          go_roundw
          case rel => exact ⟨k + 1, 1, _, by go_num, by simp, ho.out, hnext.out, he.out⟩
          case measure => simp [intOf] <;> omega
        · have hlt2 : ¬ (x : Int) < ((cr : Int) + y) := by omega
          have hnext := mkHid (subI_step (d := x - (cr + y)) (c' := 0) had hkl (by omega) (by omega) (by rw [← hxe.out, ← hye.out]; omega))
          have hdd := mkHid (show (x : Int) - (((cr : Int) + y)) = ((x - (cr + y) : Nat) : Int) by omega)
          replace had := mkHid had
          replace hlt := mkHid hlt
          go_wp2_with (at_builtin; refine wpList_append_own _ rfl (.tmp 38) (.tmp 43) 22 rfl w.heap.size 85 i0 (.int .u32 0) 1 4 u32_under hi hz0 hz1 hz2 rfl (by decide) _ q.length (limV q) rfl (World.ownsRow.alloc ho _) ⟨wr.heap.size, 0, none⟩ 1 1 [.int .u32 ((x : Int) - (((cr : Int) + y)))] rfl rfl cells_new one_u32 ?c3 ?c4 ?c5 ?_)
          case c3 => unfold maxLen; have := hql; omega
          case c4 => have := hql; omega
          case c5 => have := he.size; simp; omega
          intro v' w1 hown hgrow _
          replace ho := mkHid (magO_snoc hown (hdd.out))
          replace he := mkHid (he.app ho0.out hgrow)
          clear hown hgrow
          go_wp2_with fail
          go_roundw
          case rel => exact ⟨k + 1, 0, _, by go_num, by simp, ho.out, hnext.out, he.out⟩
          case measure => simp [intOf] <;> omega
      · have hy0 : y = 0 := by rw [hye]; exact getD_out hkm
        replace hye := mkHid hye
        replace hy0 := mkHid hy0
        have := hy0.out
        subst this
        by_cases hlt : x < cr
        · have hlt2 : (x : Int) < (cr : Int) := by omega
          have hb1 : (cr : Int) ≤ x + 4294967296 := by omega
          have hnext := mkHid (subI_step (d := x + 4294967296 - (cr)) (c' := 1) had hkl (by omega) (by omega) (by rw [← hxe.out, ← hye.out]; omega))
          have hdd := mkHid (show (x : Int) + 4294967296 - ((cr : Int)) = ((x + 4294967296 - (cr) : Nat) : Int) by omega)
          replace had := mkHid had
          replace hlt := mkHid hlt
          go_wp2_with (at_builtin; refine wpList_append_own _ rfl (.tmp 38) (.tmp 43) 22 rfl w.heap.size 85 i0 (.int .u32 0) 1 4 u32_under hi hz0 hz1 hz2 rfl (by decide) _ q.length (limV q) rfl (World.ownsRow.alloc ho _) ⟨wr.heap.size, 0, none⟩ 1 1 [.int .u32 ((x : Int) + 4294967296 - ((cr : Int)))] rfl rfl cells_new one_u32 ?c3 ?c4 ?c5 ?_)
          case c3 => unfold maxLen; have := hql; omega
          case c4 => have := hql; omega
          case c5 => have := he.size; simp; omega
          intro v' w1 hown hgrow _
          replace ho := mkHid (magO_snoc hown (hdd.out))
          replace he := mkHid (he.app ho0.out hgrow)
          clear hown hgrow
          go_wp2_with fail
          go_roundw
          case rel => exact ⟨k + 1, 1, _, by go_num, by simp, ho.out, hnext.out, he.out⟩
          case measure => simp [intOf] <;> omega
        · have hlt2 : ¬ (x : Int) < (cr : Int) := by omega
          have hnext := mkHid (subI_step (d := x - (cr)) (c' := 0) had hkl (by omega) (by omega) (by rw [← hxe.out, ← hye.out]; omega))
          have hdd := mkHid (show (x : Int) - ((cr : Int)) = ((x - (cr) : Nat) : Int) by omega)
          replace had := mkHid had
          replace hlt := mkHid hlt
          go_wp2_with (at_builtin; refine wpList_append_own _ rfl (.tmp 38) (.tmp 43) 22 rfl w.heap.size 85 i0 (.int .u32 0) 1 4 u32_under hi hz0 hz1 hz2 rfl (by decide) _ q.length (limV q) rfl (World.ownsRow.alloc ho _) ⟨wr.heap.size, 0, none⟩ 1 1 [.int .u32 ((x : Int) - ((cr : Int)))] rfl rfl cells_new one_u32 ?c3 ?c4 ?c5 ?_)
          case c3 => unfold maxLen; have := hql; omega
          case c4 => have := hql; omega
          case c5 => have := he.size; simp; omega
          intro v' w1 hown hgrow _
          replace ho := mkHid (magO_snoc hown (hdd.out))
          replace he := mkHid (he.app ho0.out hgrow)
          clear hown hgrow
          go_wp2_with fail
          go_roundw
          case rel => exact ⟨k + 1, 0, _, by go_num, by simp, ho.out, hnext.out, he.out⟩
          case measure => simp [intOf] <;> omega
    · obtain rfl : k = l.length := by omega
      have hend := subI_end had hml hv.out
      obtain ⟨aa, cc, rfl, hle, hrow⟩ := ho.r
      have hres := ho.lim hend.1
      have hcall := fun w' (e : Row w' aa (limV q)) => rtrim_c aa q cc w' hend.1 (by omega) hle e
      rw [hend.2.2] at hres hcall
      rw [hend.2.1] at hcall ⊢
      replace hcall := mkHid hcall
      replace hres := mkHid hres
      replace hrow := mkHid hrow
      replace had := mkHid had
      replace hend := mkHid hend
      replace he := mkHid he
      clear ho ho0
      go_wp2_with fail
      refine (hcall.out _ hrow.out).mono ?_
      rintro e w' ⟨rfl, rfl⟩
      go_wp2_with fail
      go_ret
      exact ⟨_, rfl, hres.out, he.out⟩
end Go.Proofs.YtpmfohhpaoagfaaGreat
namespace Go.Proofs.YtpmfohhpaoagfaaGreat
open Go Go.RowKit Go.Proofs
/-- A block that holds these limbs. -/
def Blk (w : World) (g : Nat) (q : List Nat) : Prop := w.heap[g]? = some (.cells (limV q).toArray 85 (0, 0))
theorem Blk.cell {w : World} {g : Nat} {q : List Nat} (h : Blk w g q) {k : Nat} (hk : k < q.length) : w.cell? ⟨g, k, none⟩ = some (.int .u32 ((q.getD k 0 : Nat) : Int)) := by
  unfold Blk at h
  simp [World.cell?, h, limV, hk]
theorem Blk.frozen {w : World} {g : Nat} {q : List Nat} (h : Blk w g q) (k : Nat) : w.frozen? ⟨g, k, none⟩ = false := by
  unfold Blk at h
  simp [World.frozen?, h]
theorem Blk.set {w : World} {g : Nat} {q : List Nat} (h : Blk w g q) (k v : Nat) : Blk (w.setCell ⟨g, k, none⟩ (.int .u32 (v : Int))) g (q.set k v) := by
  unfold Blk at *
  have := limV_arr_set q k v
  unfold World.setCell
  show (w.heap.modify g _)[g]? = _
  rw [Array.getElem?_modify, if_pos rfl, h, ← this]
  rfl
theorem Blk.dr {w : World} {g : Nat} {q : List Nat} (h : Blk w g q) (n : Nat) : Blk (w.drewN n) g q := h
theorem Blk.ext {w w' : World} {g : Nat} {q : List Nat} (h : Blk w g q) (e : Ext w w') : Blk w' g q := e.blk h
theorem blk_new (w : World) (q : List Nat) : Blk (w.alloc (.cells (limV q).toArray 85)) w.heap.size q := heap_alloc_new w _
theorem Blk.own {w : World} {g : Nat} {q : List Nat} (h : Blk w g q) (hl : q.length ≤ 4294967296) : MagO w g (.slice (some ⟨g, 0, none⟩) q.length q.length) q := by
  refine ⟨by simp [limV], .inr ⟨g, q.length, _, rfl, Nat.le_refl _, h, Nat.le_refl _, by unfold maxLen; omega, by simp [limV], ?_⟩⟩
  rw [Nat.mul_one, List.take_of_length_le (by simp [limV])]
set_option maxRecDepth 100000 in
set_option maxHeartbeats 3200000 in
theorem rmul_c (a a' : Option Addr) (c c' : Nat) (l m : List Nat) (w : World) (hl : l.length ≤ 1073741824) (hm : m.length ≤ 1073741824) (okl : OkL l) (okm : OkL m)
    (h : Row w a (limV l)) (h' : Row w a' (limV m)) :
    Calls Tryz.prog 109 #[.slice a l.length c, .slice a' m.length c'] w fun e w' => ∃ v, e = .returned v ∧ MagO w' w.heap.size v (lim (val l * val m)) ∧ Ext w w' := by
  obtain ⟨b, off, ha, hc⟩ := h
  obtain ⟨b', off', ha', hc'⟩ := h'
  replace ha := mkHid ha
  replace hc := mkHid hc
  replace ha' := mkHid ha'
  replace hc' := mkHid hc'
  have hmk := fun w => make32 (l.length + m.length) w (by omega)
  rw [show (((l.length + m.length : Nat)) : Int) = (l.length : Int) + m.length by omega] at hmk
  have hst := mkHid (mulO_start l m)
  go_enter Tryz.func109, Tryz.ntmps109
  go_wp2_with fail
  go_loopw [6, 7, 8, 9] (fun i _ _ _ wr => ∃ k q, k ≤ l.length ∧ i = .int .i64 (k : Nat) ∧ Blk wr w.heap.size q ∧ MulO l m q k ∧ Ext w wr) (fun i _ _ _ _ => l.length - (intOf i).toNat)
  case atStart => exact ⟨0, _, Nat.zero_le _, rfl, blk_new _ _, hst.out, (Ext.refl w).al _⟩
  case round =>
    obtain ⟨k, q, hk, rfl, hB, hmo, he⟩ := hrel
    obtain ⟨wo, rfl⟩ : ∃ wo : World, wo = wr := ⟨_, rfl⟩
    replace hmo := mkHid hmo
    replace hB := mkHid hB
    replace he := mkHid he
    by_cases hkl : k < l.length
    · have hA := ha.out (limV_ne hkl)
      rw [hA]
      replace hA := mkHid hA
      have hu := okL_get okl k
      obtain ⟨u, hu'⟩ : ∃ u, u = l.getD k 0 := ⟨_, rfl⟩
      rw [← hu'] at hu
      have hi0 := mkHid (mulI_start hmo.out)
      replace hu' := mkHid hu'
      have hkl' := mkHid hkl
      go_wp2_with fail
      go_loopw [7, 8, 9] (fun s i _ wr => ∃ kk cr q, kk ≤ m.length ∧ i = .int .i64 (kk : Nat) ∧ s = .int .u64 (cr : Nat) ∧ Blk wr w.heap.size q ∧ MulI l m q k kk cr ∧ Ext w wr) (fun _ i _ _ => m.length - (intOf i).toNat)
      case atStart => exact ⟨0, 0, q, Nat.zero_le _, rfl, rfl, hB.out, hi0.out, he.out⟩
      case round =>
        obtain ⟨kk, cr, q, hkk, rfl, rfl, hB, hmi, he⟩ := hrel
        have hq1 := hmi.1
        have hcr := hmi.2.2.1
        by_cases hkk2 : kk < m.length
        · have h1 := he.cell (row_at hc.out hkl'.out)
          have h2 := he.cell (row_at hc'.out hkk2)
          rw [← hu'.out] at h1
          have hA' := ha'.out (limV_ne hkk2)
          have hv := okL_get okm kk
          have hold := hB.cell (k := k + kk) (by omega)
          have hfr := hB.frozen (k + kk)
          have ho := okL_get hmi.2.1 (k + kk)
          have hnext := mulI_step hmi hkl'.out hkk2 okl okm
          rw [← hu'.out] at hnext
          have hb := mul_bounds hu hv ho hcr
          obtain ⟨R, hR⟩ : ∃ R, R = (cr + (u * m.getD kk 0 + q.getD (k + kk) 0)) := ⟨_, rfl⟩
          rw [← hR] at hnext
          have hset := hB.set (k + kk) (R % 4294967296)
          have hes := he.st (p := ⟨w.heap.size, k + kk, none⟩) (Nat.le_refl _) (.int .u32 ((R % 4294967296 : Nat) : Int))
          have hRD : ((R % 4294967296 : Nat) : Int) = ((u : Int) * (m.getD kk 0 : Nat) + (q.getD (k + kk) 0 : Nat) + cr) % 4294967296 := by
            rw [hR]; simp only [Int.natCast_emod, Int.natCast_add, Int.natCast_mul]; congr 1; omega
          have hRQ : ((R / 4294967296 : Nat) : Int) = ((u : Int) * (m.getD kk 0 : Nat) + (q.getD (k + kk) 0 : Nat) + cr) / 4294967296 := by
            rw [hR]; simp only [Int.natCast_ediv, Int.natCast_add, Int.natCast_mul]; congr 1; omega
          rw [hRD] at hset hes
          replace hRD := mkHid hRD
          replace hRQ := mkHid hRQ
          rw [hA']
          replace hA' := mkHid hA'
          replace hnext := mkHid hnext
          replace hmi := mkHid hmi
          replace hset := mkHid hset
          replace hes := mkHid hes
          replace he := mkHid he
          replace hB := mkHid hB
          generalize m.getD kk 0 = v at *
          generalize q.getD (k + kk) 0 = o at *
          replace hR := mkHid hR
          go_wp2_with fail
          go_quiet (fail)
          go_wp2_with fail
          go_roundw
          case rel => exact ⟨kk + 1, R / 4294967296, _, by omega, by go_num, by rw [hRQ.out], hset.out, hnext.out, hes.out.drN _⟩
          case measure => simp [intOf] <;> omega
        · obtain rfl : kk = m.length := by omega
          have hend := mkHid (mulI_end hmi hkl'.out)
          have hold := hB.cell (k := k + m.length) (by omega)
          have hfr := hB.frozen (k + m.length)
          have hset := mkHid (hB.set (k + m.length) cr)
          have hes := mkHid (he.st (p := ⟨w.heap.size, k + m.length, none⟩) (Nat.le_refl _) (.int .u32 (cr : Int)))
          replace hmi := mkHid hmi
          replace he := mkHid he
          replace hB := mkHid hB
          go_wp2_with fail
          go_roundw
          case rel => exact ⟨k + 1, _, by omega, by go_num, hset.out, hend.out, hes.out⟩
          case measure => simp [intOf] <;> omega
    · obtain rfl : k = l.length := by omega
      obtain ⟨x1, x2, x3⟩ := hmo.out
      rw [List.take_length, List.take_of_length_le (by omega)] at x3
      have hown := hB.out.own (by omega)
      obtain ⟨aa, cc, he0, hle, hrow⟩ := hown.r
      simp only [Value.slice.injEq] at he0
      obtain ⟨rfl, -, rfl⟩ := he0
      have hres := hown.lim x2
      have hcall := fun w' (e : Row w' (some ⟨w.heap.size, 0, none⟩) (limV q)) => rtrim_c (some ⟨w.heap.size, 0, none⟩) q q.length w' x2 (by omega) hle e
      rw [x3] at hres hcall
      rw [x1] at hcall hres
      replace hcall := mkHid hcall
      replace hres := mkHid hres
      replace hrow := mkHid hrow
      replace x1 := mkHid x1
      replace x3 := mkHid x3
      clear hown
      go_wp2_with fail
      refine (hcall.out _ hrow.out).mono ?_
      rintro e w' ⟨rfl, rfl⟩
      go_wp2_with fail
      go_ret
      exact ⟨_, rfl, hres.out, he.out⟩
theorem row_one (w : World) (T : Nat) (n : Nat) : Row (w.alloc (.cells #[.int .u32 (n : Int)] T)) (some ⟨w.heap.size, 0, none⟩) (limV [n]) := by
  refine ⟨w.heap.size, 0, fun _ => rfl, fun j hj => ?_⟩
  have : j = 0 := by simp [limV] at hj; omega
  subst this
  unfold World.cell?
  simp only [Nat.zero_add, heap_alloc_new]
  rfl
theorem val_one (n : Nat) : val [n] = n := by simp [val]
set_option maxRecDepth 100000 in
set_option maxHeartbeats 1600000 in
theorem rtimes_c (a : Option Addr) (c : Nat) (l : List Nat) (n : Nat) (w : World) (hl : l.length ≤ 1073741824) (okl : OkL l) (hn : n < 4294967296) (h : Row w a (limV l)) :
    Calls Tryz.prog 134 #[.slice a l.length c, .int .u32 n] w fun e w' => ∃ v, e = .returned v ∧ MagO w' w.heap.size v (lim (val l * n)) ∧ Ext w w' := by
  have okn : OkL [n] := fun x hx => by simp at hx; omega
  have hr := row_one w 85 n
  have htr := rtrim_c (some ⟨w.heap.size, 0, none⟩) [n] 1 _ okn (by simp) (by simp) hr
  have hle := lim_length_val okn
  rw [val_one] at htr hle
  simp only [List.length_singleton] at hle
  have hr2 := hr.lim okn
  rw [val_one] at hr2
  have hml := rmul_c a (some ⟨w.heap.size, 0, none⟩) c 1 l (lim n) _ hl (by omega) okl (lim_ok n) (h.ext ((Ext.refl w).al _)) hr2
  rw [val_lim] at hml
  replace htr := mkHid htr
  replace hml := mkHid hml
  clear hr hr2 okn
  go_enter Tryz.func134, Tryz.ntmps134
  go_wp2_with fail
  refine htr.out.mono ?_
  rintro e w' ⟨rfl, rfl⟩
  go_wp2_with fail
  refine hml.out.mono ?_
  rintro e w' ⟨v, rfl, h1, h2⟩
  replace h1 := mkHid (h1.mono (show w.heap.size ≤ _ by simp))
  replace h2 := mkHid (((Ext.refl w).al _).trans h2)
  go_wp2_with fail
  go_ret
  exact ⟨v, rfl, h1.out, h2.out⟩
end Go.Proofs.YtpmfohhpaoagfaaGreat
namespace Go.Proofs.YtpmfohhpaoagfaaGreat
open Go Go.RowKit Go.Proofs
/-- What is kept while dividing by one limb into new limbs. -/
def ShortJ (l : List Nat) (d : Nat) (q : List Nat) (k r : Nat) : Prop := q.length = l.length ∧ OkL q ∧ r < d ∧ val (l.drop k) = val (q.drop k) * d + r
theorem shortJ_start (l : List Nat) {d : Nat} (hd : 0 < d) : ShortJ l d (List.replicate l.length 0) l.length 0 :=
  ⟨by simp, (fun x hx => by rw [List.eq_of_mem_replicate hx]; omega), hd, by simp [val]⟩
theorem shortJ_step {l q : List Nat} {d k r : Nat} (h : ShortJ l d q (k + 1) r) (hk : k < l.length) (okl : OkL l) (hd : d < 4294967296) :
    ShortJ l d (q.set k ((r * 4294967296 + l.getD k 0) / d)) k ((r * 4294967296 + l.getD k 0) % d) := by
  obtain ⟨h1, h2, h3, h5⟩ := h
  have hl := okL_get okl k
  refine ⟨by simpa using h1, okL_set h2 ?_, Nat.mod_lt _ (by omega), ?_⟩
  · exact Nat.div_lt_of_lt_mul (by have := Nat.mul_le_mul_right 4294967296 (show r + 1 ≤ d from h3); omega)
  · rw [val_drop_succ l k hk, h5, val_drop_succ _ k (by simp; omega)]
    have e := Nat.div_add_mod (r * 4294967296 + l.getD k 0) d
    have e2 : (q.set k ((r * 4294967296 + l.getD k 0) / d)).getD k 0 = (r * 4294967296 + l.getD k 0) / d := by simp [show k < q.length by omega]
    have e3 : (q.set k ((r * 4294967296 + l.getD k 0) / d)).drop (k + 1) = q.drop (k + 1) := by rw [List.drop_set_of_lt (by omega)]
    rw [e2, e3]
    generalize (r * 4294967296 + l.getD k 0) / d = x at *
    generalize (r * 4294967296 + l.getD k 0) % d = y at *
    generalize val (q.drop (k + 1)) = v at *
    rw [Nat.add_mul, Nat.mul_add, Nat.mul_assoc 4294967296 v d, Nat.mul_comm x d]
    omega
theorem shortJ_end {l q : List Nat} {d r : Nat} (h : ShortJ l d q 0 r) : val q = val l / d ∧ r = val l % d := by
  obtain ⟨h1, h2, h3, h5⟩ := h
  simp only [List.drop_zero] at h5
  have hd : 0 < d := by omega
  constructor
  · rw [h5, Nat.add_comm, Nat.add_mul_div_right _ _ hd, Nat.div_eq_of_lt h3, Nat.zero_add]
  · rw [h5, Nat.add_comm, Nat.add_mul_mod_self_right, Nat.mod_eq_of_lt h3]
set_option maxRecDepth 100000 in
set_option maxHeartbeats 3200000 in
theorem rshort_c (a : Option Addr) (c : Nat) (l : List Nat) (d : Nat) (w : World) (hl : l.length ≤ 2147483648) (okl : OkL l) (hd : 0 < d) (hd2 : d < 4294967296) (h : Row w a (limV l)) :
    Calls Tryz.prog 133 #[.slice a l.length c, .int .u32 d] w fun e w' => ∃ v, e = .returned (.tuple #[v, .int .u32 ((val l % d : Nat) : Int)]) ∧ MagO w' w.heap.size v (lim (val l / d)) ∧ Ext w w' := by
  obtain ⟨b, off, ha, hc⟩ := h
  replace ha := mkHid ha
  replace hc := mkHid hc
  have hmk := fun w => make32 l.length w (by omega)
  have hst := mkHid (shortJ_start l hd)
  have hdz : ((d : Int) == 0) = false := by rw [beq_eq_false_iff_ne]; omega
  obtain ⟨D, hD⟩ : ∃ D : Int, D = (d : Int) := ⟨_, rfl⟩
  go_enter Tryz.func133, Tryz.ntmps133
  go_wp2_with fail
  go_loopw [7, 8, 9] (fun s i _ wr => ∃ k r q, k ≤ l.length ∧ i = .int .i64 ((k : Int) - 1) ∧ s = .int .u64 (r : Nat) ∧ Blk wr w.heap.size q ∧ ShortJ l d q k r ∧ Ext w wr) (fun _ i _ _ => (intOf i + 1).toNat)
  case atStart => exact ⟨l.length, 0, _, Nat.le_refl _, rfl, rfl, blk_new _ _, hst.out, (Ext.refl w).al _⟩
  case round =>
    obtain ⟨k, r, q, hk, rfl, rfl, hB, hsh, he⟩ := hrel
    cases k with
    | zero =>
      obtain ⟨e1, e2⟩ := shortJ_end hsh
      have hown := hB.own (by have := hsh.1; omega)
      obtain ⟨aa, cc, he0, hle, hrow⟩ := hown.r
      simp only [Value.slice.injEq] at he0
      obtain ⟨rfl, -, rfl⟩ := he0
      have hres := hown.lim hsh.2.1
      have hcall := fun w' (e : Row w' (some ⟨w.heap.size, 0, none⟩) (limV q)) => rtrim_c (some ⟨w.heap.size, 0, none⟩) q q.length w' hsh.2.1 (by have := hsh.1; omega) hle e
      rw [e1] at hres hcall
      rw [hsh.1] at hcall hres
      have hr2 := hsh.2.2.1

      replace hcall := mkHid hcall
      replace hres := mkHid hres
      replace hrow := mkHid hrow
      replace hsh := mkHid hsh
      replace he := mkHid he
      replace e1 := mkHid e1
      replace e2 := mkHid e2
      clear hown hB
      go_wp2_with fail
      refine (hcall.out _ hrow.out).mono ?_
      rintro e w' ⟨rfl, rfl⟩
      go_wp2_with fail
      go_ret2
      exact ⟨.slice (some ⟨w.heap.size, 0, none⟩) (lim (val l / d)).length l.length, by rw [← e2.out]; rfl, hres.out, he.out⟩
    | succ k =>
      rw [show (((k + 1 : Nat)) : Int) - 1 = (k : Int) by omega]
      have h1 := he.cell (row_at hc.out (show k < l.length by omega))
      have hA := ha.out (limV_ne (show k < l.length by omega))
      rw [hA]
      have hx := okL_get okl k
      have hq1 := hsh.1
      have hr := hsh.2.2.1
      have hfr := hB.frozen k
      have hold := hB.cell (k := k) (by omega)
      have hnext := shortJ_step hsh (by omega) okl hd2
      obtain ⟨x, hxe⟩ : ∃ x, x = l.getD k 0 := ⟨_, rfl⟩
      rw [← hxe] at h1 hx hnext
      have hb : (r : Int) * 4294967296 + x ≤ 18446744073709551615 := by omega
      have hb0 : (r : Int) * 4294967296 ≤ 18446744073709551615 := by omega
      have hQ : (r * 4294967296 + x) / d < 4294967296 := Nat.div_lt_of_lt_mul (by have := Nat.mul_le_mul_right 4294967296 (show r + 1 ≤ d from hr); omega)
      have hset := hB.set k ((r * 4294967296 + x) / d)
      have hes := he.st (p := ⟨w.heap.size, k, none⟩) (Nat.le_refl _) (.int .u32 (((r * 4294967296 + x) / d : Nat) : Int))
      have hQD : (((r * 4294967296 + x) / d : Nat) : Int) = ((r : Int) * 4294967296 + x) / d % 4294967296 := by
        have e : ((r : Int) * 4294967296 + x) / d = (((r * 4294967296 + x) / d : Nat) : Int) := by simp
        rw [e]
        generalize (r * 4294967296 + x) / d = Qn at hQ
        omega
      have hRD : (((r * 4294967296 + x) % d : Nat) : Int) = ((r : Int) * 4294967296 + x) % d := by simp
      rw [hQD] at hset hes
      clear hQ
      replace hQD := mkHid hQD
      replace hRD := mkHid hRD
      replace hA := mkHid hA
      replace hnext := mkHid hnext
      replace hsh := mkHid hsh
      replace hset := mkHid hset
      replace hes := mkHid hes
      replace he := mkHid he
      replace hB := mkHid hB
      replace hxe := mkHid hxe
      go_wp2_with fail
      go_roundw
      case rel => exact ⟨k, _, _, by omega, rfl, by rw [← hRD.out], hset.out, hnext.out, hes.out⟩
      case measure => simp [intOf] <;> omega
theorem rhalf_c (a : Option Addr) (c : Nat) (l : List Nat) (w : World) (hl : l.length ≤ 2147483648) (okl : OkL l) (h : Row w a (limV l)) :
    Calls Tryz.prog 128 #[.slice a l.length c] w fun e w' => ∃ v, e = .returned v ∧ MagO w' w.heap.size v (lim (val l / 2)) ∧ Ext w w' := by
  have hs := mkHid (rshort_c a c l 2 w hl okl (by omega) (by omega) h)
  go_enter Tryz.func128, Tryz.ntmps128
  go_wp2_with fail
  refine hs.out.mono ?_
  rintro e w' ⟨v, rfl, h1, h2⟩
  replace h1 := mkHid h1
  replace h2 := mkHid h2
  go_wp2_with fail
  go_ret
  exact ⟨v, rfl, h1.out, h2.out⟩
theorem val_mod2 {x : Nat} {l : List Nat} : val (x :: l) % 2 = x % 2 := by
  simp only [val]
  omega
theorem reven_c (a : Option Addr) (c : Nat) (l : List Nat) (w : World) (hne : l ≠ []) (okl : OkL l) (hl : l.length ≤ 2147483648) (h : Row w a (limV l)) :
    Calls Tryz.prog 127 #[.slice a l.length c] w fun e w' => e = .returned (.bool (decide (val l % 2 = 0))) ∧ w = w' := by
  cases l with
  | nil => exact absurd rfl hne
  | cons x l =>
    obtain ⟨b, off, ha, hc⟩ := h
    have hA := ha (limV_ne (show 0 < (x :: l).length by simp))
    have hcell := row_at hc (show 0 < (x :: l).length by simp)
    have hx := (okL_cons.1 okl).1
    simp only [List.getD_cons_zero, Nat.add_zero] at hcell
    subst hA
    rw [val_mod2]
    have hb : (((x : Int) % 2) == 0) = decide (x % 2 = 0) := by
      rw [Bool.eq_iff_iff]
      simp
      omega
    clear ha hc okl hne
    simp only [List.length_cons] at hl ⊢
    go_enter Tryz.func127, Tryz.ntmps127
    go_wp2_with fail
    go_ret
    exact ⟨rfl, rfl⟩
end Go.Proofs.YtpmfohhpaoagfaaGreat
namespace Go.Proofs.YtpmfohhpaoagfaaGreat
open Go Go.RowKit Go.Proofs
theorem cmp_le {X R : Nat} : (((X : Int) - R).sign ≤ 0) ↔ X ≤ R := by
  rcases Nat.lt_trichotomy X R with h | h | h
  · rw [sgn_lt h]; omega
  · rw [sgn_eq h]; omega
  · rw [sgn_gt h]; omega
theorem cmp_bounds {X R : Nat} : -1 ≤ ((X : Int) - R).sign ∧ ((X : Int) - R).sign ≤ 1 := by
  rcases Nat.lt_trichotomy X R with h | h | h
  · rw [sgn_lt h]; omega
  · rw [sgn_eq h]; omega
  · rw [sgn_gt h]; omega
theorem nl_small_mul {D m : Nat} (hm : m < 4294967296) : (lim (D * m)).length ≤ (lim D).length + 1 := by
  have := lim_mul D m
  have := lim_one_le hm
  omega
set_option maxRecDepth 100000 in
set_option maxHeartbeats 3200000 in
theorem rfitting_c (a a' : Option Addr) (c c' : Nat) (R D : Nat) (w : World) (hl : (lim R).length ≤ 1073741824) (hm : (lim D).length ≤ 1073741824) (hD : 0 < D) (hR : R < D * 4294967296)
    (h : Row w a (limV (lim R))) (h' : Row w a' (limV (lim D))) :
    Calls Tryz.prog 135 #[.slice a (lim R).length c, .slice a' (lim D).length c'] w fun e w' => e = .returned (.int .u32 ((R / D : Nat) : Int)) ∧ Ext w w' := by
  have hlt : R / D < 4294967296 := Nat.div_lt_of_lt_mul hR
  have HT := mkHid (fun W (e : Ext w W) (m : Nat) (hm2 : m < 4294967296) => rtimes_c a' c' (lim D) m W hm (lim_ok D) hm2 (h'.ext e))
  have HC := mkHid (fun W (e : Ext w W) (X : Nat) a2 c2 (hx : (lim X).length ≤ 4294967296) (r : Row W a2 (limV (lim X))) => rcmp_c a2 a c2 c X R W hx (by omega) r (h.ext e))
  have HS := mkHid (fun m (hm2 : m < 4294967296) => nl_small_mul (D := D) hm2)
  replace hR := mkHid hR
  clear h h'
  replace hD := mkHid hD
  replace hlt := mkHid hlt
  obtain ⟨nr, hnr⟩ : ∃ n, n = (lim R).length := ⟨_, rfl⟩
  obtain ⟨nd, hnd⟩ : ∃ n, n = (lim D).length := ⟨_, rfl⟩
  rw [← hnr] at hl HC ⊢
  rw [← hnd] at hm HT HS ⊢
  clear hnr hnd
  go_enter Tryz.func135, Tryz.ntmps135
  go_wp2_with fail
  go_loopw [5, 6, 7] (fun s i _ wr => ∃ lo hi : Nat, s = .int .u64 (lo : Nat) ∧ i = .int .u64 (hi : Nat) ∧ lo ≤ hi ∧ hi ≤ 4294967295 ∧ D * lo ≤ R ∧ R < D * (hi + 1) ∧ Ext w wr) (fun s i _ _ => (intOf i - intOf s).toNat)
  case atStart => exact ⟨0, 4294967295, rfl, rfl, by omega, by omega, by omega, hR.out, Ext.refl _⟩
  case round =>
    obtain ⟨lo, hi, rfl, rfl, h1, h2, h3, h4, he⟩ := hrel
    replace h3 := mkHid h3
    replace h4 := mkHid h4
    by_cases hlh : lo < hi
    · obtain ⟨m, hm0⟩ : ∃ m, m = (lo + hi + 1) / 2 := ⟨_, rfl⟩
      have hm1 : ((lo : Int) + hi + 1) / 2 = (m : Int) := by omega
      have hm2 : lo < m ∧ m ≤ hi := by omega
      obtain ⟨hm3, hm4⟩ := hm2
      have hmm : (m : Int) % 4294967296 = m := by omega
      have ht := mkHid (HT.out wr he m (by omega))
      have hs := HS.out m (by omega)
      replace hm0 := mkHid hm0
      replace he := mkHid he
      go_wp2_with fail
      refine ht.out.mono ?_
      rintro e w1 ⟨v, rfl, hv, he1⟩
      rw [val_lim] at hv
      obtain ⟨aa, cc, rfl, hle, hrow⟩ := hv.r
      have hc := mkHid (HC.out w1 (he.out.trans he1) (D * m) aa cc (by omega) hrow)
      replace he := mkHid (he.out.trans he1)
      clear hv hrow he1 ht
      go_wp2_with fail
      refine hc.out.mono ?_
      rintro e w2 ⟨rfl, he2⟩
      replace he := mkHid (he.out.trans he2)
      clear he2 hc
      have hcl := cmp_le (X := D * m) (R := R)
      have hcb := cmp_bounds (X := D * m) (R := R)
      generalize (((D * m : Nat) : Int) - (R : Int)).sign = S at *
      replace hcl := mkHid hcl
      by_cases hS : S ≤ 0
      · have h3' := mkHid (hcl.out.1 hS)
        go_wp2_with fail
        go_roundw
        case rel => exact ⟨m, hi, rfl, rfl, by omega, by omega, h3'.out, h4.out, he.out⟩
        case measure => simp [intOf] <;> omega
      · have h4' : R < D * ((m - 1) + 1) := by
          have : ¬ D * m ≤ R := fun h => hS (hcl.out.2 h)
          rw [show m - 1 + 1 = m by omega]
          omega
        replace h4' := mkHid h4'
        go_wp2_with fail
        go_roundw
        case rel => exact ⟨lo, m - 1, rfl, by congr 1; omega, by omega, by omega, h3.out, h4'.out, he.out⟩
        case measure => simp [intOf] <;> omega
    · obtain rfl : lo = hi := by omega
      have hq : R / D = lo := by
        have h3 := h3.out
        have h4 := h4.out
        rw [Nat.mul_comm] at h3 h4
        exact Nat.div_eq_of_lt_le h3 h4
      replace hq := mkHid hq
      replace he := mkHid he
      have hmm : (lo : Int) % 4294967296 = lo := by omega
      go_wp2_with fail
      go_ret
      exact ⟨ret1_eq (by rw [hq.out]), he.out⟩
end Go.Proofs.YtpmfohhpaoagfaaGreat
namespace Go.Proofs.YtpmfohhpaoagfaaGreat
open Go Go.RowKit Go.Proofs
/-- append of one's own with a slice that reads so, nil included (one cell each). -/
theorem wpList_append_both {P : Program} {w : World} {ops : Array Oper} {rest : List Oper} {o : Oper} {a : Act} {Q : Exit → Act → World → Prop} (hgd : o.guard = none) (s x : Operand) (t : TypeId)
    (ho : o.op = .call { callee := .builtin .append, args := #[s, x], argTypes := #[t, t] })
    (base : Nat) (e : TypeId) (i : TypeInfo) (z : Value) (bytes : Nat) (ht : P.underlying t = some (.slice e)) (hi : P.info? e = some i) (hz : i.zero = some z)
    (hsize : i.size = 1) (hby : i.bytes = bytes) (hzs : z.cells.size = 1)
    (v : Value) (n : Nat) (xs : List Value) (hs : a.eval s = v) (hown : w.ownsRow base e 1 v n xs)
    (news : List Value) (hx : (a.eval x = .slice none 0 0 ∧ news = []) ∨ ∃ ad c, a.eval x = .slice (some ad) news.length c ∧ ∀ j u, news[j]? = some u → w.cell? (ad.add j) = some u) (h1 : ∀ u ∈ news, u.oneCell' = true)
    (h63 : n + news.length ≤ maxLen) (hbytes : (n + news.length) * bytes ≤ 140737488355328) (hbase : base ≤ w.heap.size)
    (h : ∀ v' w', w'.ownsRow base e 1 v' (n + news.length) (xs ++ news) → w.grownBy w' v.ownBlock → wpList P ops Q rest (a.put o.dst v') w') : wpList P ops Q (o :: rest) a w := by
  rcases hx with ⟨hx, rfl⟩ | ⟨ad, c, hx, hn⟩
  · refine wpList_append_own_none hgd s x t ho base e i 1 ht hi v n xs hs hown hx (h v w ?_ (World.grownBy.refl _ _))
    simpa using hown
  · exact wpList_append_own _ hgd s x t ho base e i z 1 bytes ht hi hz hsize hby hzs (by decide) v n xs hs hown ad news.length c news hx (by simp) hn h1 h63 hbytes hbase fun v' w' h2 h3 _ => h v' w' h2 h3
/-- Limbs that read so, in a value that is nil or has a place. -/
def RestR (w : World) (v : Value) (n : Nat) : Prop := (v = .slice none 0 0 ∧ n = 0) ∨ ∃ b off c, v = .slice (some ⟨b, off, none⟩) (lim n).length c ∧ (lim n).length ≤ c ∧ ∀ j, j < (limV (lim n)).length → w.cell? ⟨b, off + j, none⟩ = some ((limV (lim n)).getD j undef)
theorem RestR.ext {w w' : World} {v : Value} {n : Nat} (h : RestR w v n) (e : Ext w w') : RestR w' v n := by
  rcases h with h | ⟨b, off, c, h1, h2, h3⟩
  · exact .inl h
  · exact .inr ⟨b, off, c, h1, h2, fun j hj => e.cell (h3 j hj)⟩
theorem RestR.r {w : World} {v : Value} {n : Nat} (h : RestR w v n) : ∃ a c, v = .slice a (lim n).length c ∧ (lim n).length ≤ c ∧ Row w a (limV (lim n)) := by
  rcases h with ⟨rfl, rfl⟩ | ⟨b, off, c, h1, h2, h3⟩
  · rw [lim_zero]
    exact ⟨none, 0, rfl, Nat.le_refl _, row_nil w⟩
  · exact ⟨_, c, h1, h2, b, off, fun _ => rfl, h3⟩
theorem RestR.of {w : World} {base : Nat} {v : Value} {n : Nat} (h : MagO w base v (lim n)) : RestR w v n := by
  obtain ⟨a, c, h1, h2, b, off, h3, h4⟩ := h.r
  obtain ⟨h5, h6⟩ := h
  rcases h6 with ⟨rfl, h6⟩ | ⟨g, cap, cur, rfl, h7⟩
  · refine .inl ⟨rfl, ?_⟩
    have := val_lim n
    rw [List.eq_nil_of_length_eq_zero h6] at this
    exact this.symm
  · simp only [Value.slice.injEq] at h1
    obtain ⟨rfl, -, rfl⟩ := h1
    by_cases hne : limV (lim n) = []
    · refine .inr ⟨g, 0, _, rfl, h2, fun j hj => ?_⟩
      rw [hne] at hj
      simp at hj
    · have := h3 hne
      simp only [Option.some.injEq, Addr.mk.injEq] at this
      obtain ⟨rfl, rfl, -⟩ := this
      exact .inr ⟨_, _, _, rfl, h2, h4⟩
/-- What append asks of a slice that is put behind: nil, or its cells. -/
def AppX (w : World) (v : Value) (news : List Value) : Prop := (v = .slice none 0 0 ∧ news = []) ∨ ∃ ad c, v = .slice (some ad) news.length c ∧ ∀ j u, news[j]? = some u → w.cell? (ad.add j) = some u
theorem AppX.ext {w w' : World} {v : Value} {news : List Value} (h : AppX w v news) (e : Ext w w') : AppX w' v news := by
  rcases h with h | ⟨ad, c, h1, h2⟩
  · exact .inl h
  · exact .inr ⟨ad, c, h1, fun j u hu => e.cell (h2 j u hu)⟩
theorem RestR.app {w : World} {v : Value} {n : Nat} (h : RestR w v n) : AppX w v (limV (lim n)) := by
  rcases h with ⟨rfl, rfl⟩ | ⟨b, off, c, h1, h2, h3⟩
  · exact .inl ⟨rfl, by rw [lim_zero]; rfl⟩
  · exact .inr ⟨_, c, by rw [h1, limV_length], row_cells h3⟩
/-- What is kept while dividing limb by limb. -/
def DivJ (l : List Nat) (D : Nat) (q : List Nat) (k r : Nat) : Prop := q.length = l.length ∧ OkL q ∧ r < D ∧ (∀ j, j < k → q.getD j 0 = 0) ∧ val (l.drop k) = val (q.drop k) * D + r
theorem divJ_start (l : List Nat) {D : Nat} (hD : 0 < D) : DivJ l D (List.replicate l.length 0) l.length 0 :=
  ⟨by simp, (fun x hx => by rw [List.eq_of_mem_replicate hx]; omega), hD, (fun j hj => by simp [hj]), by simp [val]⟩
theorem divJ_step {l q : List Nat} {D k r : Nat} (h : DivJ l D q (k + 1) r) (hk : k < l.length) (okl : OkL l) :
    DivJ l D (q.set k ((l.getD k 0 + 4294967296 * r) / D)) k ((l.getD k 0 + 4294967296 * r) % D) := by
  obtain ⟨h1, h2, h3, h4, h5⟩ := h
  have hl := okL_get okl k
  refine ⟨by simpa using h1, okL_set h2 ?_, Nat.mod_lt _ (by omega), fun j hj => ?_, ?_⟩
  · exact Nat.div_lt_of_lt_mul (by have := Nat.mul_le_mul_right 4294967296 (show r + 1 ≤ D from h3); omega)
  · have := h4 j (by omega)
    rw [List.getD_eq_getElem?_getD] at this ⊢
    rw [List.getElem?_set_ne (by omega)]
    exact this
  · rw [val_drop_succ l k hk, h5, val_drop_succ _ k (by simp; omega)]
    have e := Nat.div_add_mod (l.getD k 0 + 4294967296 * r) D
    have e2 : (q.set k ((l.getD k 0 + 4294967296 * r) / D)).getD k 0 = (l.getD k 0 + 4294967296 * r) / D := by simp [show k < q.length by omega]
    have e3 : (q.set k ((l.getD k 0 + 4294967296 * r) / D)).drop (k + 1) = q.drop (k + 1) := by rw [List.drop_set_of_lt (by omega)]
    rw [e2, e3]
    generalize (l.getD k 0 + 4294967296 * r) / D = x at *
    generalize (l.getD k 0 + 4294967296 * r) % D = y at *
    generalize val (q.drop (k + 1)) = v at *
    rw [Nat.add_mul, Nat.mul_add, Nat.mul_assoc 4294967296 v D, Nat.mul_comm x D]
    omega
theorem divJ_same {l q : List Nat} {D k r n : Nat} (h : DivJ l D q (k + 1) r) (hk : k < l.length) (hn : n = 0) : q.set k n = q := by
  subst hn
  have h0 := h.2.2.2.1 k (by omega)
  have h1 := h.1
  apply List.ext_getElem?
  intro j
  rw [List.getElem?_set]
  split
  · rename_i e
    subst e
    rw [List.getD_eq_getElem?_getD] at h0
    rw [if_pos (by omega)]
    rw [List.getElem?_eq_getElem (by omega)] at h0 ⊢
    simp at h0
    rw [h0]
  · rfl
theorem divJ_end {l q : List Nat} {D r : Nat} (h : DivJ l D q 0 r) : val q = val l / D ∧ r = val l % D := by
  obtain ⟨h1, h2, h3, h4, h5⟩ := h
  exact shortJ_end ⟨h1, h2, h3, h5⟩
set_option maxRecDepth 100000 in
set_option maxHeartbeats 1600000 in
theorem rdivide_one (a a' : Option Addr) (c c' : Nat) (A D : Nat) (w : World) (hl : (lim A).length ≤ 1073741824) (hD0 : 0 < D) (hD : D < 4294967296)
    (h : Row w a (limV (lim A))) (h' : Row w a' (limV (lim D))) :
    Calls Tryz.prog 130 #[.slice a (lim A).length c, .slice a' (lim D).length c'] w fun e w' => ∃ v1 v2, e = .returned (.tuple #[v1, v2]) ∧ RestR w' v1 (A / D) ∧ RestR w' v2 (A % D) ∧ Ext w w' := by
  rw [lim_one (by omega) hD] at h' ⊢
  obtain ⟨b, off, ha, hc⟩ := h'
  have hA := ha (limV_ne (show 0 < [D].length by simp))
  have hcell := row_at hc (show 0 < [D].length by simp)
  simp only [List.getD_cons_zero, Nat.add_zero] at hcell
  subst hA
  have hs := rshort_c a c (lim A) D w (by omega) (lim_ok A) hD0 hD h
  rw [val_lim] at hs
  replace hs := mkHid hs
  have hr32 : A % D < 4294967296 := Nat.lt_trans (Nat.mod_lt _ hD0) hD
  simp only [List.length_singleton]
  generalize (lim A).length = n at *
  clear ha hc h
  go_enter Tryz.func130, Tryz.ntmps130
  go_wp2_with fail
  refine hs.out.mono ?_
  rintro e w1 ⟨v, rfl, hv, he⟩
  have hr := row_one w1 85 (A % D)
  have okn : OkL [A % D] := fun x hx => by simp at hx; omega
  have htr := rtrim_c (some ⟨w1.heap.size, 0, none⟩) [A % D] 1 _ okn (by simp) (by simp) hr
  have hr2 := hr.lim okn
  have hle := lim_length_val okn
  rw [val_one] at htr hr2 hle
  simp only [List.length_singleton] at hle
  replace htr := mkHid htr
  replace hv := mkHid hv
  replace he := mkHid he
  replace hr2 := mkHid hr2
  obtain ⟨R, hR⟩ : ∃ R, R = A % D := ⟨_, rfl⟩
  simp only [List.length_singleton] at htr
  rw [← hR] at htr hr2 hle hr32 ⊢
  clear hr okn hs
  replace hR := mkHid hR
  go_wp2_with fail
  refine htr.out.mono ?_
  rintro e w' ⟨rfl, rfl⟩
  go_wp2_with fail
  go_ret2
  obtain ⟨b2, off2, h2, h3⟩ := hr2.out
  rw [← hR.out]
  refine ⟨_, _, rfl, (RestR.of hv.out).ext ((Ext.refl _).al _), ?_, he.out.al _⟩
  by_cases h0 : R = 0
  · subst h0
    refine .inr ⟨w1.heap.size, 0, 1, rfl, hle, fun j hj => ?_⟩
    rw [lim_zero] at hj
    simp [limV] at hj
  · have hne : limV (lim R) ≠ [] := by
      rw [lim_pos h0]; simp [limV]
    have := h2 hne
    simp only [Option.some.injEq, Addr.mk.injEq] at this
    obtain ⟨rfl, rfl, -⟩ := this
    exact .inr ⟨_, _, 1, rfl, hle, h3⟩
end Go.Proofs.YtpmfohhpaoagfaaGreat
namespace Go.Proofs.YtpmfohhpaoagfaaGreat
open Go Go.RowKit Go.Proofs
theorem cmp_lt {X R : Nat} : (((X : Int) - R).sign < 0) ↔ X < R := by
  rcases Nat.lt_trichotomy X R with h | h | h
  · rw [sgn_lt h]; omega
  · rw [sgn_eq h]; omega
  · rw [sgn_gt h]; omega
theorem own_some {w : World} {base E n : Nat} {v : Value} {xs : List Value} (h : w.ownsRow base E 1 v n xs) (hn : n ≠ 0) : ∃ g c, v = .slice (some ⟨g, 0, none⟩) n c ∧ base ≤ g ∧ n ≤ c ∧ ∀ j, j < xs.length → w.cell? ⟨g, 0 + j, none⟩ = some (xs.getD j undef) := by
  obtain ⟨h1, h2⟩ := h
  rcases h2 with ⟨rfl, h3⟩ | ⟨g, cap, cur, rfl, a2, a3, a4, a5, a6, a7⟩
  · exact absurd h3 hn
  · refine ⟨g, cap, rfl, a2, a4, fun j hj => ?_⟩
    have hj2 : j < cur.size := by omega
    have e : xs.getD j undef = cur[j] := by
      subst a7
      simp [List.getD_eq_getElem?_getD, show j < n by omega, hj2]
    rw [e]
    simp [World.cell?, a3, hj2]
theorem restR_of_row {w : World} {g o c N : Nat} (h : Row w (some ⟨g, o, none⟩) (limV (lim N))) (hc : (lim N).length ≤ c) : RestR w (.slice (some ⟨g, o, none⟩) (lim N).length c) N := by
  obtain ⟨b, off, h1, h2⟩ := h
  by_cases h0 : limV (lim N) = []
  · refine .inr ⟨g, o, c, rfl, hc, fun j hj => ?_⟩
    rw [h0] at hj
    simp at hj
  · have := h1 h0
    simp only [Option.some.injEq, Addr.mk.injEq] at this
    obtain ⟨rfl, rfl, -⟩ := this
    exact .inr ⟨_, _, c, rfl, hc, h2⟩
theorem cell_set_other {w : World} {p q : Addr} {v : Value} (h : p.block ≠ q.block) : (w.setCell p v).cell? q = w.cell? q := by
  unfold World.setCell World.cell?
  simp only [Array.getElem?_modify, if_neg h]
theorem Row.set_other {w : World} {g o : Nat} {xs : List Value} (h : Row w (some ⟨g, o, none⟩) xs) {p : Addr} (v : Value) (hp : p.block ≠ g) : Row (w.setCell p v) (some ⟨g, o, none⟩) xs := by
  obtain ⟨b, off, h1, h2⟩ := h
  by_cases h0 : xs = []
  · subst h0
    exact ⟨b, off, fun h => absurd rfl h, fun j hj => by simp at hj⟩
  · have := h1 h0
    simp only [Option.some.injEq, Addr.mk.injEq] at this
    obtain ⟨rfl, rfl, -⟩ := this
    exact ⟨_, _, fun _ => rfl, fun j hj => by rw [cell_set_other hp]; exact h2 j hj⟩
theorem limV_cons (x : Nat) (l : List Nat) : limV (x :: l) = [.int .u32 (x : Int)] ++ limV l := rfl
set_option maxRecDepth 100000 in
set_option maxHeartbeats 3200000 in
theorem rdivide_many (a a' : Option Addr) (c c' : Nat) (A D : Nat) (w : World) (hl : (lim A).length ≤ 536870912) (hm : (lim D).length ≤ 536870912) (hD : 4294967296 ≤ D)
    (h : Row w a (limV (lim A))) (h' : Row w a' (limV (lim D))) :
    Calls Tryz.prog 130 #[.slice a (lim A).length c, .slice a' (lim D).length c'] w fun e w' => ∃ v1 v2, e = .returned (.tuple #[v1, v2]) ∧ RestR w' v1 (A / D) ∧ RestR w' v2 (A % D) ∧ Ext w w' := by
  have h1 : ((((lim D).length : Nat) : Int) == 1) = false := by
    rw [beq_eq_false_iff_ne]
    intro e
    have := lt_pow_lim D
    rw [show (lim D).length = 1 by omega] at this
    omega
  have h' := mkHid h'
  obtain ⟨b, off, ha, hc⟩ := h
  replace ha := mkHid ha
  replace hc := mkHid hc
  have okl := lim_ok A
  have hvl := mkHid (val_lim A)
  obtain ⟨l, hle⟩ : ∃ l, l = lim A := ⟨_, rfl⟩
  rw [← hle] at hl ha hc okl hvl ⊢
  clear hle
  have hmk := fun w => make32 l.length w (by omega)
  have hst := mkHid (divJ_start l (show 0 < D by omega))
  obtain ⟨nd, hnd⟩ : ∃ n, n = (lim D).length := ⟨_, rfl⟩
  replace hnd := mkHid hnd
  have hD := mkHid hD
  rw [← hnd.out] at hm h1 ⊢
  obtain ⟨i0, hi, hz0, hz1, hz2⟩ := info_parts u32_info
  go_enter Tryz.func130, Tryz.ntmps130
  go_wp2_with fail
  go_loopw [9, 10, 11, 12] (fun s i _ _ wr => ∃ k r q, k ≤ l.length ∧ i = .int .i64 ((k : Int) - 1) ∧ RestR wr s r ∧ Blk wr w.heap.size q ∧ DivJ l D q k r ∧ Ext w wr) (fun _ i _ _ _ => (intOf i + 1).toNat)
  case atStart => exact ⟨l.length, 0, _, Nat.le_refl _, rfl, .inl ⟨rfl, rfl⟩, blk_new _ _, hst.out, (Ext.refl w).al _⟩
  case round =>
    obtain ⟨k, r, q, hk, rfl, hrest, hB, hj, he⟩ := hrel
    obtain ⟨wo, rfl⟩ : ∃ wo : World, wo = wr := ⟨_, rfl⟩
    cases k with
    | zero =>
      obtain ⟨e1, e2⟩ := divJ_end hj
      rw [hvl.out] at e1 e2
      have hown := hB.own (by have := hj.1; omega)
      have hRR := RestR.of (hown.lim hj.2.1)
      obtain ⟨aa, cc, he0, hle, hrow⟩ := hown.r
      simp only [Value.slice.injEq] at he0
      obtain ⟨rfl, -, rfl⟩ := he0
      have hcall := fun w' (e : Row w' (some ⟨w.heap.size, 0, none⟩) (limV q)) => rtrim_c (some ⟨w.heap.size, 0, none⟩) q q.length w' hj.2.1 (by have := hj.1; omega) hle e
      rw [e1] at hRR hcall
      rw [hj.1] at hcall hRR
      rw [e2] at hrest
      replace hcall := mkHid hcall
      replace hRR := mkHid hRR
      replace hrow := mkHid hrow
      replace hj := mkHid hj
      replace he := mkHid he
      replace hrest := mkHid hrest
      replace e1 := mkHid e1
      replace e2 := mkHid e2
      clear hown hB
      go_wp2_with fail
      refine (hcall.out _ hrow.out).mono ?_
      rintro e w' ⟨rfl, rfl⟩
      go_wp2_with fail
      go_ret2
      exact ⟨_, _, rfl, hRR.out, hrest.out, he.out⟩
    | succ k =>
      rw [show (((k + 1 : Nat)) : Int) - 1 = (k : Int) by omega]
      have hcl := he.cell (row_at hc.out (show k < l.length by omega))
      have hA := ha.out (limV_ne (show k < l.length by omega))
      rw [hA]
      have hx := okL_get okl k
      have hq1 := hj.1
      have hnext := divJ_step hj (by omega) okl
      have hsame := fun n hn => divJ_same (n := n) hj (by omega) hn
      have hrD := hj.2.2.1
      obtain ⟨x, hxe⟩ : ∃ x, x = l.getD k 0 := ⟨_, rfl⟩
      rw [← hxe] at hcl hx hnext
      have happ := hrest.app
      have hrl : (lim r).length ≤ 536870912 := by have := lim_mono (Nat.le_of_lt hrD); have := hnd.out; omega
      replace hA := mkHid hA
      replace hnext := mkHid hnext
      replace hsame := mkHid hsame
      replace hj := mkHid hj
      replace hrD := mkHid hrD
      replace he := mkHid he
      replace hB := mkHid hB
      replace hxe := mkHid hxe
      replace happ := mkHid happ
      replace hrest := mkHid hrest
      go_wp2_with (at_builtin; refine wpList_append_own _ rfl (.tmp 38) (.tmp 43) 22 rfl wo.heap.size 85 i0 (.int .u32 0) 1 4 u32_under hi hz0 hz1 hz2 rfl (by decide) _ 0 [] rfl (World.ownsRow_nil _ _ _ _) ⟨wo.heap.size, 0, none⟩ 1 1 [.int .u32 (x : Int)] rfl rfl cells_new one_u32 ?c3 ?c4 ?c5 ?_)
      case c3 => decide
      case c4 => decide
      case c5 => simp
      intro v1 w1 hown hgrow _
      have he1 : Ext wo w1 := ((Ext.refl _).al _).gr hgrow (fun k hk => by simp [Value.ownBlock] at hk)
      replace happ := mkHid (happ.out.ext he1)
      replace hown : w1.ownsRow wo.heap.size 85 1 v1 1 [.int .u32 (x : Int)] := hown
      replace hown := mkHid hown
      replace he1 := mkHid he1
      clear hgrow
      have hrl2 : (limV (lim r)).length = (lim r).length := limV_length _
      go_wp2_with (at_builtin; refine wpList_append_both rfl (.tmp 45) (.tmp 46) 22 rfl wo.heap.size 85 i0 (.int .u32 0) 4 u32_under hi hz0 hz1 hz2 rfl _ 1 [.int .u32 (x : Int)] rfl hown.out (limV (lim r)) happ.out (limV_one _) ?d3 ?d4 ?d5 ?_)
      case d3 => unfold maxLen; omega
      case d4 => omega
      case d5 => exact he1.out.size
      intro v2 w2 hown2 hgrow2
      have he2 : Ext wo w2 := he1.out.gr hgrow2 (fun k hk => (World.ownsRow.lt hown.out k hk).1)
      replace hrl2 := mkHid hrl2
      obtain ⟨g, c2, rfl, hg, hgc, hcells⟩ := own_some hown2 (by omega)
      obtain ⟨nx, hnx⟩ : ∃ nx, nx = 1 + (lim r).length := ⟨_, rfl⟩
      rw [← hnx] at hgc ⊢
      have hrow2 : Row w2 (some ⟨g, 0, none⟩) (limV (x :: lim r)) := ⟨g, 0, fun _ => rfl, by rw [limV_cons]; exact hcells⟩
      have okx : OkL (x :: lim r) := okL_cons.2 ⟨hx, lim_ok r⟩
      have hvx : val (x :: lim r) = x + 4294967296 * r := by simp only [val, val_lim]
      have hlx : (x :: lim r).length = nx := by rw [hnx, List.length_cons]; omega
      have htr := rtrim_c (some ⟨g, 0, none⟩) (x :: lim r) c2 w2 okx (by rw [hlx]; omega) (by rw [hlx]; omega) hrow2
      have hrow3 := hrow2.lim okx
      rw [hvx] at htr hrow3
      rw [hlx] at htr
      have hln := lim_length_val okx
      rw [hvx, hlx] at hln
      have hB2 := hB.out.ext he2
      obtain ⟨N, hN⟩ : ∃ N, N = x + 4294967296 * r := ⟨_, rfl⟩
      rw [← hN] at htr hrow3 hln hnext
      have hND : N < D * 4294967296 := by
        have := Nat.mul_le_mul_right 4294967296 (show r + 1 ≤ D from hrD.out)
        omega
      replace hN := mkHid hN
      have hnx1 : nx ≤ 536870913 := by omega
      replace hnx := mkHid hnx
      replace htr := mkHid htr
      have hcmp := mkHid (fun W (e : Ext w2 W) => rcmp_c (some ⟨g, 0, none⟩) a' c2 c' N D W (by omega) (by have := hnd.out; omega) (hrow3.ext e) (h'.out.ext (he.out.trans (he2.trans e))))
      have hfit := mkHid (fun W (e : Ext w2 W) => rfitting_c (some ⟨g, 0, none⟩) a' c2 c' N D W (by omega) (by have := hnd.out; omega) (by have := hD.out; omega) hND (hrow3.ext e) (h'.out.ext (he.out.trans (he2.trans e))))
      rw [← hnd.out] at hcmp hfit
      replace hrow3 := mkHid hrow3
      replace hB2 := mkHid hB2
      replace he2 := mkHid he2
      replace hND := mkHid hND
      clear hown hown2 hgrow2 hrow2 hcells okx hvx hlx he1 happ
      go_wp2_with fail
      refine htr.out.mono ?_
      rintro e w' ⟨rfl, rfl⟩
      go_wp2_with fail
      refine (hcmp.out w2 (Ext.refl _)).mono ?_
      rintro e w3 ⟨rfl, he3⟩
      have hcl2 := cmp_lt (X := N) (R := D)
      have hcb := cmp_bounds (X := N) (R := D)
      generalize ((N : Int) - (D : Int)).sign = S at *
      replace hcl2 := mkHid hcl2
      have he23 := mkHid (he2.out.trans he3)
      have hB3 := mkHid (hB2.out.ext he3)
      by_cases hS : S < 0
      · have hlt := hcl2.out.1 hS
        have e0 : N / D = 0 := Nat.div_eq_of_lt hlt
        have e1 : N % D = N := Nat.mod_eq_of_lt hlt
        rw [e0, e1] at hnext
        have hs := hsame.out 0 rfl
        have hn2 := hnext.out
        rw [hs] at hn2
        replace hn2 := mkHid hn2
        have hRN : RestR w3 (.slice (some ⟨g, 0, none⟩) (lim N).length c2) N := restR_of_row (hrow3.out.ext he3) (by omega)
        replace hRN := mkHid hRN
        replace he3 := mkHid he3
        replace hlt := mkHid hlt
        clear e0 e1 hs
        go_wp2_with fail
        go_roundw
        case rel => exact ⟨k, _, _, by omega, rfl, hRN.out, hB3.out, hn2.out, he.out.trans he23.out⟩
        case measure => simp [intOf] <;> omega
      · have hge : D ≤ N := by have := hcl2.out; omega
        have hQ32 : N / D < 4294967296 := Nat.div_lt_of_lt_mul hND.out
        have hsub := Nat.div_mul_le_self N D
        have hfr := hB3.out.frozen k
        have hold := hB3.out.cell (k := k) (by omega)
        replace hfit := mkHid (hfit.out w3 he3)
        replace hcl2 := mkHid hcl2
        replace hge := mkHid hge
        go_wp2_with fail
        refine hfit.out.mono ?_
        rintro e w4 ⟨rfl, he4⟩
        obtain ⟨Q, hQ⟩ : ∃ Q, Q = N / D := ⟨_, rfl⟩
        have hmod : N % D = N - D * Q := by rw [hQ]; exact Nat.mod_eq_sub_mul_div ..
        rw [← hQ] at hnext hQ32 hsub ⊢
        rw [hmod] at hnext
        rw [Nat.mul_comm] at hsub
        have hB4 := hB3.out.ext he4
        have hfr := hB4.frozen k
        have hold := hB4.cell (k := k) (by omega)
        have hB5 := hB4.set k Q
        have he5 := (he.out.trans (he23.out.trans he4)).st (p := ⟨w.heap.size, k, none⟩) (Nat.le_refl _) (.int .u32 ((Q : Nat) : Int))
        have hwg : w.heap.size ≠ g := by have := (Array.getElem?_eq_some_iff.1 hB.out).1; omega
        have hrow5 := (hrow3.out.ext (he3.trans he4)).set_other (p := ⟨w.heap.size, k, none⟩) (.int .u32 ((Q : Nat) : Int)) hwg
        have htm := rtimes_c a' c' (lim D) Q _ (by have := hnd.out; omega) (lim_ok D) hQ32 (h'.out.ext he5)
        rw [val_lim, ← hnd.out] at htm
        replace htm := mkHid htm
        replace hQ := mkHid hQ
        replace hmod := mkHid hmod
        replace hB5 := mkHid hB5
        replace he5 := mkHid he5
        replace hrow5 := mkHid hrow5
        replace hsub := mkHid hsub
        clear hB4 he4 hfit hcmp
        go_wp2_with fail
        refine htm.out.mono ?_
        rintro e w6 ⟨v6, rfl, hv6, he6⟩
        obtain ⟨a6, c6, rfl, hle6, hrow6⟩ := hv6.r
        have hsb := rsub_c (some ⟨g, 0, none⟩) a6 c2 c6 (lim N) (lim (D * Q)) w6 (by omega) (lim_mono hsub.out) (lim_ok _) (lim_ok _) (by rw [val_lim, val_lim]; exact hsub.out) (hrow5.out.ext he6) hrow6
        rw [val_lim, val_lim] at hsb
        replace hsb := mkHid hsb
        replace hB5 := mkHid (hB5.out.ext he6)
        replace he5 := mkHid (he5.out.trans he6)
        clear hv6 hrow6 he6 htm hrow5
        go_wp2_with fail
        refine hsb.out.mono ?_
        rintro e w7 ⟨v7, rfl, hv7, he7⟩
        have hR7 := mkHid (RestR.of hv7)
        replace hB5 := mkHid (hB5.out.ext he7)
        replace he5 := mkHid (he5.out.trans he7)
        clear hv7 he7 hsb
        go_wp2_with fail
        go_roundw
        case rel => exact ⟨k, _, _, by omega, rfl, hR7.out, hB5.out, hnext.out, he5.out⟩
        case measure => simp [intOf] <;> omega
/-- Limbs by limbs. -/
theorem rdivide_c (a a' : Option Addr) (c c' : Nat) (A D : Nat) (w : World) (hl : (lim A).length ≤ 536870912) (hm : (lim D).length ≤ 536870912) (hD : 0 < D)
    (h : Row w a (limV (lim A))) (h' : Row w a' (limV (lim D))) :
    Calls Tryz.prog 130 #[.slice a (lim A).length c, .slice a' (lim D).length c'] w fun e w' => ∃ v1 v2, e = .returned (.tuple #[v1, v2]) ∧ RestR w' v1 (A / D) ∧ RestR w' v2 (A % D) ∧ Ext w w' := by
  by_cases h1 : D < 4294967296
  · exact rdivide_one a a' c c' A D w (by omega) hD h1 h h'
  · exact rdivide_many a a' c c' A D w hl hm (by omega) h h'
end Go.Proofs.YtpmfohhpaoagfaaGreat
namespace Go.Proofs.YtpmfohhpaoagfaaGreat
open Go Go.RowKit Go.Proofs
set_option maxHeartbeats 1600000 in
theorem rsign_c (v : Value) (X : Int) (w : World) (h : IntR w v X) (hX : nl X ≤ 1073741824) :
    Calls Tryz.prog 90 #[v] w fun e w' => e = .returned (.int .i64 (X.sign)) ∧ Ext w w' := by
  obtain ⟨s, rfl, a, c, rfl, _, r⟩ := h
  clear r
  by_cases h0 : X = 0
  · subst h0
    have hl : (lim (Int.natAbs 0)).length = 0 := by simp [lim_zero]
    rw [hl]
    go_enter Tryz.func90, Tryz.ntmps90
    go_wp2_with fail
    go_ret
    exact ⟨rfl, (Ext.refl _).al _⟩
  · have hl : (((lim X.natAbs).length : Int) == 0) = false := by
      have : X.natAbs ≠ 0 := by omega
      rw [lim_pos this]
      simp
      omega
    replace h0 := mkHid h0
    by_cases hn : X < 0
    · have hs : X.sign = -1 := Int.sign_eq_neg_one_of_neg hn
      have hd : decide (X < 0) = true := by simpa using hn
      rw [hs, hd]
      replace hn := mkHid hn
      clear hs hd
      go_enter Tryz.func90, Tryz.ntmps90
      go_wp2_with fail
      go_ret
      exact ⟨rfl, (Ext.refl _).al _⟩
    · have hs : X.sign = 1 := Int.sign_eq_one_of_pos (by have := h0.out; omega)
      have hd : decide (X < 0) = false := by simpa using hn
      rw [hs, hd]
      replace hn := mkHid hn
      clear hs hd
      go_enter Tryz.func90, Tryz.ntmps90
      go_wp2_with fail
      go_ret
      exact ⟨rfl, (Ext.refl _).al _⟩
set_option maxHeartbeats 1600000 in
theorem rcheck_c (v : Value) (b : Bool) (l : List Nat) (w : World) (hl : l.length ≤ 4294967296) (h : AnyR w v b l) :
    Calls Tryz.prog 93 #[v] w fun e w' => e = .returned (.int .i64 (if goodI b l then 0 else 1)) ∧ Ext w w' := by
  obtain ⟨a, c, rfl, okl, _, r⟩ := h
  by_cases h1 : 2048 < l.length
  · have hg : goodI b l = false := by unfold goodI; simp; omega
    rw [hg]
    clear hg r
    go_enter Tryz.func93, Tryz.ntmps93
    go_wp2_with fail
    go_ret
    exact ⟨rfl, (Ext.refl _).al _⟩
  · by_cases h2 : l = []
    · subst h2
      clear r h1 hl
      cases b
      · have hg : goodI false [] = true := rfl
        rw [hg]
        clear hg
        go_enter Tryz.func93, Tryz.ntmps93
        go_wp2_with fail
        go_ret
        exact ⟨rfl, (Ext.refl _).al _⟩
      · have hg : goodI true [] = false := rfl
        rw [hg]
        clear hg
        go_enter Tryz.func93, Tryz.ntmps93
        go_wp2_with fail
        go_ret
        exact ⟨rfl, (Ext.refl _).al _⟩
    · obtain ⟨g, off, ha, hc⟩ := r
      have h0 : 0 < l.length := by cases l with | nil => exact absurd rfl h2 | cons x y => simp
      have hcell : w.cell? ⟨g, off + (l.length - 1), none⟩ = some (.int .u32 (l.getD (l.length - 1) 0 : Nat)) := by
        rw [hc _ (by rw [limV_length]; omega), limV_getD _ _ (by omega)]
      have hgl := okL_get okl (l.length - 1)
      have hi : ((l.length : Int) - 1) = ((l.length - 1 : Nat) : Int) := by omega
      obtain rfl := ha (by intro e; have := congrArg List.length e; rw [limV_length] at this; simp at this; exact h2 this)
      have hlt : (w.heap.size = g) = False := by
        have := lt_of_cell hcell
        simp at this
        exact eq_false (by omega)
      have hgd : goodI b l = decide (l.getD (l.length - 1) 0 ≠ 0) := by
        have h3 : l.getLastD 0 = l.getD (l.length - 1) 0 := by
          rw [List.getLastD_eq_getLast?, List.getLast?_eq_getElem?, List.getD_eq_getElem?_getD]
        unfold goodI
        rw [h3]
        simp [h2]
        omega
      rw [hgd]
      clear hgd hc
      generalize l.getD (l.length - 1) 0 = x at *
      have hcell2 : (w.alloc (.cells #[.bool b, .slice (some ⟨g, off, none⟩) l.length c] 24)).cell? ⟨g, off + (l.length - 1), none⟩ = some (.int .u32 (x : Nat)) := ((Ext.refl w).al _).cell hcell
      clear hcell ha hlt
      by_cases hx : x = 0
      · subst hx
        go_enter Tryz.func93, Tryz.ntmps93
        go_wp2_with fail
        go_ret
        exact ⟨rfl, (Ext.refl _).al _⟩
      · have hx2 : ((x : Int) == 0) = false := by rw [beq_eq_false_iff_ne]; omega
        rw [if_pos (show decide (x ≠ 0) = true by simpa using hx)]
        go_enter Tryz.func93, Tryz.ntmps93
        go_wp2_with fail
        go_ret
        exact ⟨rfl, (Ext.refl _).al _⟩
/-- Limbs that read so, noughts at the end allowed, of a number. -/
def RawR (w : World) (v : Value) (n : Nat) : Prop := ∃ r, MagR w v r ∧ OkL r ∧ r.length ≤ 4294967296 ∧ val r = n
theorem RawR.ext {w w' : World} {v : Value} {n : Nat} (h : RawR w v n) (e : Ext w w') : RawR w' v n := by
  obtain ⟨r, h1, h2⟩ := h
  exact ⟨r, h1.ext e, h2⟩
theorem RawO.rr {w : World} {base : Nat} {v : Value} {n : Nat} (h : RawO w base v n) : RawR w v n := by
  obtain ⟨r, h1, h2⟩ := h
  exact ⟨r, h1.r, h2⟩
theorem RawR.lims {w : World} {v : Value} {n : Nat} (h : MagR w v (lim n)) (hl : (lim n).length ≤ 4294967296) : RawR w v n := ⟨_, h, lim_ok _, hl, val_lim _⟩
theorem rsigned_raw (neg : Bool) (s : Value) (n : Nat) (w : World) (h : RawR w s n) :
    Calls Tryz.prog 108 #[.bool neg, s] w fun e w' => ∃ v, e = .returned v ∧ IntR w' v (sg neg n) ∧ Ext w w' := by
  obtain ⟨r, h1, h2, h3, rfl⟩ := h
  exact rsigned_c neg s r w h2 h3 h1
theorem st_rawR {ss : List FSpec} (n : Nat) (h : StableAll Ext ss) : StableAll Ext (.pred (fun W v => RawR W v n) :: ss) := ⟨fun _ _ _ e h => RawR.ext h e, h⟩
set_option maxHeartbeats 1600000 in
theorem rof_c (n : Int) (w : World) (h0 : -9223372036854775808 ≤ n) (h1 : n < 9223372036854775808) :
    Calls Tryz.prog 96 #[.int .i64 n] w fun e w' => ∃ v, e = .returned v ∧ IntR w' v n ∧ Ext w w' := by
  by_cases hn : n < 0
  · have hz : sg true n.natAbs = n := by simp [sg]; omega
    replace hz := mkHid hz
    go_enter Tryz.func96, Tryz.ntmps96
    go_wp2_with fail
    have e : IntKind.u64.wrap (-IntKind.u64.wrap n) = ((n.natAbs : Nat) : Int) := by rw [IntKind.wrap_u64, IntKind.wrap_u64]; omega
    refine (rsigned_raw true _ n.natAbs _ (raw_two _ _ (by omega) _ _ (by rw [e, Int.tmod_eq_emod_of_nonneg (by omega)]; omega) (by rw [e, Int.tdiv_eq_ediv_of_nonneg (by omega), IntKind.wrap_u64]; omega) (w.heap.size + 1) (by simp)).rr).mono ?_
    rintro e w2 ⟨v, rfl, h7, he2⟩
    have hEW0 := (((Ext.refl w).al _).al _).trans he2
    have hBW := he2.blk ((heap_alloc_old _ _ (by simp)).trans (heap_alloc_new w _))
    rw [hz.out] at h7
    replace he2 := mkHid he2
    obtain ⟨nb, a2, n2, c2, rfl⟩ := h7.shape
    have hR := h7.flat hBW (by simp [flatV]) #[.bool nb, .slice a2 n2 c2]
    have hEW := hEW0.row (show w.heap.size ≤ w.heap.size by omega) #[.bool nb, .slice a2 n2 c2]
    replace hR := mkHid hR
    replace hEW := mkHid hEW
    clear h7 hEW0
    go_wp2_with (refine wpList_store_row rfl 24 (.tmp 2) (.tmp 19) rfl (w.heap.size) #[.bool nb, .slice a2 n2 c2] rfl rfl 24 _ hBW (by kernel_rfl) rfl (by kernel_rfl) ?_)
    exact bodyPost_ret (results_cell_row rfl _ _ (w.heap.size) 24 #[.bool nb, .slice a2 n2 c2] (0, 0) _ rfl (setRow_heap _ _ _ _ _ _ hBW) Tryz.underlying24 rfl (by kernel_rfl)) rfl ⟨_, rfl, hR.out, hEW.out⟩
  · have hz : sg false n.natAbs = n := by simp [sg]; omega
    replace hz := mkHid hz
    go_enter Tryz.func96, Tryz.ntmps96
    go_wp2_with fail
    refine (rsigned_raw false _ n.natAbs _ (raw_two _ _ (by omega) _ _ (by omega) (by omega) (w.heap.size + 1) (by simp)).rr).mono ?_
    rintro e w2 ⟨v, rfl, h7, he2⟩
    have hEW0 := (((Ext.refl w).al _).al _).trans he2
    have hBW := he2.blk ((heap_alloc_old _ _ (by simp)).trans (heap_alloc_new w _))
    rw [hz.out] at h7
    replace he2 := mkHid he2
    obtain ⟨nb, a2, n2, c2, rfl⟩ := h7.shape
    have hR := h7.flat hBW (by simp [flatV]) #[.bool nb, .slice a2 n2 c2]
    have hEW := hEW0.row (show w.heap.size ≤ w.heap.size by omega) #[.bool nb, .slice a2 n2 c2]
    replace hR := mkHid hR
    replace hEW := mkHid hEW
    clear h7 hEW0
    go_wp2_with (refine wpList_store_row rfl 24 (.tmp 2) (.tmp 19) rfl (w.heap.size) #[.bool nb, .slice a2 n2 c2] rfl rfl 24 _ hBW (by kernel_rfl) rfl (by kernel_rfl) ?_)
    exact bodyPost_ret (results_cell_row rfl _ _ (w.heap.size) 24 #[.bool nb, .slice a2 n2 c2] (0, 0) _ rfl (setRow_heap _ _ _ _ _ _ hBW) Tryz.underlying24 rfl (by kernel_rfl)) rfl ⟨_, rfl, hR.out, hEW.out⟩
/-- What Bits tells here: it is 1 just of 1 and -1. -/
def BitsRes (k : Int) (X : Int) : Prop := 0 ≤ k ∧ k ≤ 68719476736 ∧ (k = 1 → X.natAbs = 1)
set_option maxHeartbeats 1600000 in
theorem rbits_c (v : Value) (X : Int) (w : World) (h : IntR w v X) (hX : nl X ≤ 1073741824) :
    Calls Tryz.prog 112 #[v] w fun e w' => ∃ k, e = .returned (.int .i64 k) ∧ BitsRes k X ∧ Ext w w' := by
  obtain ⟨s, rfl, a, c, rfl, _, r⟩ := h
  by_cases h0 : X = 0
  · subst h0
    have hl : (lim (Int.natAbs 0)).length = 0 := by simp [lim_zero]
    rw [hl]
    clear r
    go_enter Tryz.func112, Tryz.ntmps112
    go_wp2_with fail
    go_ret
    exact ⟨0, rfl, ⟨by omega, by omega, by omega⟩, (Ext.refl _).al _⟩
  · have hn0 : X.natAbs ≠ 0 := by omega
    have hpos : 0 < (lim X.natAbs).length := by rw [lim_pos hn0]; simp
    have hl : (((lim X.natAbs).length : Int) == 0) = false := by rw [beq_eq_false_iff_ne]; omega
    obtain ⟨g, off, ha, hc⟩ := r
    have hcell := row_at hc (show (lim X.natAbs).length - 1 < (lim X.natAbs).length by omega)
    have htop := lim_top hn0
    have htl := okL_get (lim_ok X.natAbs) ((lim X.natAbs).length - 1)
    have hone : (lim X.natAbs).length = 1 → (lim X.natAbs).getD ((lim X.natAbs).length - 1) 0 = 1 → X.natAbs = 1 := by
      intro e1 e2
      have := val_lim X.natAbs
      generalize lim X.natAbs = l at *
      match l, e1 with
      | [y], _ =>
        simp [val] at this e2
        omega
    obtain rfl := ha (limV_ne hpos)
    have hlX : (lim X.natAbs).length ≤ 1073741824 := hX
    obtain ⟨d, hd⟩ : ∃ d, d = decide (X < 0) := ⟨_, rfl⟩
    rw [← hd]
    generalize (lim X.natAbs).getD ((lim X.natAbs).length - 1) 0 = t at *
    generalize (lim X.natAbs).length = n at *
    have hcell2 : (w.alloc (.cells #[.bool d, .slice (some ⟨g, off, none⟩) n c] 24)).cell? ⟨g, off + (n - 1), none⟩ = some (.int .u32 (t : Nat)) := ((Ext.refl w).al _).cell hcell
    have hlt : (w.heap.size = g) = False := by
      have := lt_of_cell hcell
      simp at this
      exact eq_false (by omega)
    have hi : ((n : Int) - 1) = ((n - 1 : Nat) : Int) := by omega
    replace hone := mkHid hone
    replace hd := mkHid hd
    clear h0 hcell ha hc hn0
    go_enter Tryz.func112, Tryz.ntmps112
    go_wp2_with fail
    go_loop [3, 4] (fun a b => ∃ (z : Int) (u : Nat), a = .int .i64 z ∧ b = .int .u32 (u : Nat) ∧ z + u ≤ 32 * ((n : Int) - 1) + t ∧ 32 * ((n : Int) - 1) ≤ z ∧ ((z = 32 * ((n : Int) - 1) ∧ u = t) ∨ (z = 32 * ((n : Int) - 1) + 1 ∧ u = t / 2) ∨ 32 * ((n : Int) - 1) + 2 ≤ z)) (fun _ b => (intOf b).toNat)
    case atStart => exact ⟨_, t, rfl, rfl, by omega, by omega, .inl ⟨by omega, rfl⟩⟩
    case round =>
      obtain ⟨z, u, rfl, rfl, h1, h2, h3⟩ := hrel
      have hz : z ≤ 68719476736 := by omega
      have hz0 : 0 ≤ z := by omega
      by_cases hu : 0 < u
      · have h4 : ((z + 1 = 32 * ((n : Int) - 1) ∧ u / 2 = t) ∨ (z + 1 = 32 * ((n : Int) - 1) + 1 ∧ u / 2 = t / 2) ∨ 32 * ((n : Int) - 1) + 2 ≤ z + 1) := by omega
        replace h3 := mkHid h3
        replace h4 := mkHid h4
        go_wp2_with fail
        go_round
        case rel => exact ⟨z + 1, u / 2, rfl, by simp, by omega, by omega, h4.out⟩
        case measure => simp [intOf] <;> omega
      · obtain rfl : u = 0 := by omega
        have hres : BitsRes z X := ⟨hz0, by omega, fun e => hone.out (by omega) (by omega)⟩
        replace hres := mkHid hres
        replace h3 := mkHid h3
        go_wp2_with fail
        go_ret
        exact ⟨z, rfl, hres.out, (Ext.refl _).al _⟩
end Go.Proofs.YtpmfohhpaoagfaaGreat
namespace Go.Proofs.YtpmfohhpaoagfaaGreat
open Go Go.RowKit Go.Proofs
theorem sign_cmp (X Y : Int) : (X.sign < Y.sign → (X - Y).sign = -1) ∧ (Y.sign < X.sign → (X - Y).sign = 1) ∧
    (X.sign = Y.sign → (X.sign < 0 → (X - Y).sign = -(((X.natAbs : Nat) : Int) - Y.natAbs).sign) ∧ (¬ X.sign < 0 → (X - Y).sign = (((X.natAbs : Nat) : Int) - Y.natAbs).sign)) := by
  have sp : ∀ z : Int, 0 < z → z.sign = 1 := fun z h => Int.sign_eq_one_of_pos h
  have sn : ∀ z : Int, z < 0 → z.sign = -1 := fun z h => Int.sign_eq_neg_one_of_neg h
  have s0 : ∀ z : Int, z = 0 → z.sign = 0 := fun z h => by rw [h]; rfl
  rcases Int.lt_trichotomy X 0 with h | h | h <;> rcases Int.lt_trichotomy Y 0 with h' | h' | h'
  · rw [sn X h, sn Y h']
    refine ⟨by omega, by omega, fun _ => ⟨fun _ => ?_, by omega⟩⟩
    rw [← Int.sign_neg]
    congr 1
    omega
  · rw [sn X h, s0 Y h', sn (X - Y) (by omega)]; omega
  · rw [sn X h, sp Y h', sn (X - Y) (by omega)]; omega
  · rw [s0 X h, sn Y h', sp (X - Y) (by omega)]; omega
  · subst h; subst h'; simp
  · rw [s0 X h, sp Y h', sn (X - Y) (by omega)]; omega
  · rw [sp X h, sn Y h', sp (X - Y) (by omega)]; omega
  · rw [sp X h, s0 Y h', sp (X - Y) (by omega)]; omega
  · rw [sp X h, sp Y h']
    refine ⟨by omega, by omega, fun _ => ⟨by omega, fun _ => ?_⟩⟩
    congr 1
    omega
theorem sign_rng (X : Int) : -1 ≤ X.sign ∧ X.sign ≤ 1 := by
  rcases Int.lt_trichotomy X 0 with h | h | h
  · rw [Int.sign_eq_neg_one_of_neg h]; omega
  · subst h; simp
  · rw [Int.sign_eq_one_of_pos h]; omega
set_option maxRecDepth 100000 in
set_option maxHeartbeats 3200000 in
theorem rcmpI_c (v1 v2 : Value) (X Y : Int) (w : World) (hX : nl X ≤ 1073741824) (hY : nl Y ≤ 1073741824) (h1 : IntR w v1 X) (h2 : IntR w v2 Y) :
    Calls Tryz.prog 115 #[v1, v2] w fun e w' => e = .returned (.int .i64 (X - Y).sign) ∧ Ext w w' := by
  have H1 := mkHid h1
  have H2 := mkHid h2
  obtain ⟨s1, rfl, a1, c1, rfl, _, r1⟩ := h1
  obtain ⟨s2, rfl, a2, c2, rfl, _, r2⟩ := h2
  replace r1 := mkHid r1
  replace r2 := mkHid r2
  obtain ⟨bx, hbx⟩ : ∃ b, b = decide (X < 0) := ⟨_, rfl⟩
  obtain ⟨bY, hbY⟩ : ∃ b, b = decide (Y < 0) := ⟨_, rfl⟩
  rw [← hbx] at H1 ⊢
  rw [← hbY] at H2 ⊢
  replace hbx := mkHid hbx
  replace hbY := mkHid hbY
  have hsc := sign_cmp X Y
  have rC := cmp_bounds (X := X.natAbs) (R := Y.natAbs)
  have rx := sign_rng X
  have ry := sign_rng Y
  have S1 := mkHid (fun W (e : Ext w W) => rsign_c _ X W (H1.out.ext e) hX)
  have S2 := mkHid (fun W (e : Ext w W) => rsign_c _ Y W (H2.out.ext e) hY)
  have SC := mkHid (fun W (e : Ext w W) => rcmp_c a1 a2 c1 c2 X.natAbs Y.natAbs W (by unfold nl at *; omega) (by unfold nl at *; omega) (r1.out.ext e) (r2.out.ext e))
  obtain ⟨R, hR⟩ : ∃ R, R = (X - Y).sign := ⟨_, rfl⟩
  rw [← hR] at hsc ⊢
  generalize (((X.natAbs : Nat) : Int) - Y.natAbs).sign = C at *
  generalize X.sign = sx at *
  generalize Y.sign = sy at *
  generalize (lim X.natAbs).length = n1 at *
  generalize (lim Y.natAbs).length = n2 at *
  replace hsc := mkHid hsc
  replace hR := mkHid hR
  go_enter Tryz.func115, Tryz.ntmps115
  go_wp2_with fail
  obtain ⟨wb, hwb⟩ : ∃ wb, wb = (w.alloc (.cells #[.bool bx, .slice a1 n1 c1] 24)).alloc (.cells #[.bool bY, .slice a2 n2 c2] 24) := ⟨_, rfl⟩
  have hE : Ext w wb := by rw [hwb]; exact ((Ext.refl w).al _).al _
  have h00 : ∀ W, Ext wb W → W.cell? ⟨w.heap.size, 0, none⟩ = some (.bool bx) := fun W e => e.cell (by rw [hwb]; go_simp)
  have h01 : ∀ W, Ext wb W → W.cell? ⟨w.heap.size, 1, none⟩ = some (.slice a1 n1 c1) := fun W e => e.cell (by rw [hwb]; go_simp)
  have h10 : ∀ W, Ext wb W → W.cell? ⟨w.heap.size + 1, 0, none⟩ = some (.bool bY) := fun W e => e.cell (by rw [hwb]; go_simp)
  have h11 : ∀ W, Ext wb W → W.cell? ⟨w.heap.size + 1, 1, none⟩ = some (.slice a2 n2 c2) := fun W e => e.cell (by rw [hwb]; go_simp)
  rw [← hwb]
  clear hwb
  replace h00 := mkHid h00
  replace h01 := mkHid h01
  replace h10 := mkHid h10
  replace h11 := mkHid h11
  replace hE := mkHid hE
  refine (S1.out _ hE.out).mono ?_
  rintro e w1 ⟨rfl, he1⟩
  have k10 := h10.out w1 he1
  have k11 := h11.out w1 he1
  replace he1 := mkHid he1
  clear S1
  go_wp2_with fail
  refine (S2.out _ (hE.out.trans he1.out)).mono ?_
  rintro e w2 ⟨rfl, he2⟩
  replace he2 := mkHid (he1.out.trans he2)
  clear S2 k10 k11 he1
  have k01 := h01.out w2 he2.out
  have k11 := h11.out w2 he2.out
  replace he1 := mkHid (hE.out.trans he2.out)
  clear h00 h01 h10 h11 he2
  by_cases hs : sx = sy
  · subst hs
    obtain ⟨q1, q2⟩ := hsc.out.2.2 rfl
    clear hsc
    replace q1 := mkHid q1
    replace q2 := mkHid q2
    go_wp2_with fail
    refine (SC.out _ he1.out).mono ?_
    rintro e w3 ⟨rfl, he3⟩
    replace he3 := mkHid (he1.out.trans he3)
    clear SC he1
    by_cases hn : sx < 0
    · have := q1.out hn
      subst this
      go_wp2_with fail
      go_ret
      exact ⟨rfl, he3.out⟩
    · have := q2.out (by omega)
      subst this
      go_wp2_with fail
      go_ret
      exact ⟨rfl, he3.out⟩
  · have hne : (sx != sy) = true := by simpa using hs
    by_cases hlt : sx < sy
    · have := hsc.out.1 hlt
      subst this
      clear hsc
      replace hs := mkHid hs
      go_wp2_with fail
      go_ret
      exact ⟨rfl, he1.out⟩
    · have := hsc.out.2.1 (by omega)
      subst this
      clear hsc
      replace hs := mkHid hs
      go_wp2_with fail
      go_ret
      exact ⟨rfl, he1.out⟩
set_option maxRecDepth 100000 in
set_option maxHeartbeats 1600000 in
theorem rbelow_c (v1 v2 : Value) (X Y : Int) (w : World) (hX : nl X ≤ 1073741824) (hY : nl Y ≤ 1073741824) (h1 : IntR w v1 X) (h2 : IntR w v2 Y) :
    Calls Tryz.prog 95 #[v1, v2] w fun e w' => e = .returned (.bool (decide (X < Y))) ∧ Ext w w' := by
  obtain ⟨bx, a1, n1, c1, rfl⟩ := h1.shape
  obtain ⟨bY, a2, n2, c2, rfl⟩ := h2.shape
  have S1 := mkHid (fun W (e : Ext w W) => rcmpI_c _ _ X Y W hX hY (h1.ext e) (h2.ext e))
  have rx := sign_rng (X - Y)
  have hd : decide (X < Y) = decide ((X - Y).sign < 0) := by
    rw [Bool.eq_iff_iff]
    simp only [decide_eq_true_eq, Int.sign_neg_iff]
    omega
  rw [hd]
  clear hd h1 h2
  generalize (X - Y).sign = C at *
  go_enter Tryz.func95, Tryz.ntmps95
  go_wp2_with fail
  refine (S1.out _ (((Ext.refl w).al _).al _)).mono ?_
  rintro e w1 ⟨rfl, he1⟩
  replace he1 := mkHid ((((Ext.refl w).al _).al _).trans he1)
  go_wp2_with fail
  go_ret
  exact ⟨rfl, he1.out⟩
theorem sg_neg_sg (X : Int) : sg (!decide (X < 0)) X.natAbs = -X := by
  unfold sg
  by_cases h : X < 0
  · simp [h]; omega
  · simp [h]; omega
set_option maxRecDepth 100000 in
set_option maxHeartbeats 1600000 in
theorem rturnedI_c (v : Value) (X : Int) (w : World) (hX : nl X ≤ 1073741824) (h1 : IntR w v X) :
    Calls Tryz.prog 107 #[v] w fun e w' => ∃ v, e = .returned v ∧ IntR w' v (-X) ∧ Ext w w' := by
  obtain ⟨s1, rfl, a1, c1, rfl, hc, r1⟩ := h1
  obtain ⟨bx, hbx⟩ : ∃ b, b = decide (X < 0) := ⟨_, rfl⟩
  have SG := mkHid (fun W (e : Ext w W) => rsigned_raw (!bx) _ X.natAbs W (RawR.lims ⟨a1, c1, rfl, hc, r1.ext e⟩ (by unfold nl at hX; omega)))
  rw [hbx, sg_neg_sg, ← hbx] at SG
  rw [← hbx]
  clear hbx r1 hc
  generalize (lim X.natAbs).length = n1 at *
  go_enter Tryz.func107, Tryz.ntmps107
  go_wp2_with fail
  refine (SG.out _ (((Ext.refl w).al _).al _)).mono ?_
  rintro e w2 ⟨v, rfl, h7, he2⟩
  have hEW0 := (((Ext.refl w).al _).al _).trans he2
  have hBW := he2.blk (heap_at _ _ (w.heap.size + 1) (by simp))
  replace he2 := mkHid he2
  obtain ⟨nb, a2, n2, c2, rfl⟩ := h7.shape
  have hR := h7.flat hBW (by simp [flatV]) #[.bool nb, .slice a2 n2 c2]
  have hEW := hEW0.row (show w.heap.size ≤ w.heap.size + 1 by omega) #[.bool nb, .slice a2 n2 c2]
  replace hR := mkHid hR
  replace hEW := mkHid hEW
  clear h7 hEW0
  go_wp2_with (refine wpList_store_row rfl 24 (.tmp 2) (.tmp 8) rfl (w.heap.size + 1) #[.bool nb, .slice a2 n2 c2] rfl rfl 24 _ hBW (by kernel_rfl) rfl (by kernel_rfl) ?_)
  exact bodyPost_ret (results_cell_row rfl _ _ (w.heap.size + 1) 24 #[.bool nb, .slice a2 n2 c2] (0, 0) _ rfl (setRow_heap _ _ _ _ _ _ hBW) Tryz.underlying24 rfl (by kernel_rfl)) rfl ⟨_, rfl, hR.out, hEW.out⟩
end Go.Proofs.YtpmfohhpaoagfaaGreat
