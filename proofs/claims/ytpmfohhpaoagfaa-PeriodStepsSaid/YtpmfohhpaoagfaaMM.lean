/-
  period: Chebyshev and Power for whatever comes in; the plain law of Chebyshev's numbers. Regions that draw their order, in which one operation that changes no memory may come late, behind operations of the tail: no program. Printed by tools/gen_late.py out of XPre. law14: lives.
-/
import Derived.Test.YtpmfohhpaoagfaaMJ
import Derived.Test.YtpmfohhpaoagfaaMA
import Derived.Test.YtpmfohhpaoagfaaML
import Derived.Test.YtpmfohhpaoagfaaMK
namespace Go.Proofs.Ytpmfohhpaoagfaa
open Go Go.RowKit Go.Proofs
def chE (n : Int) : Option Rat → Int
  | none => 1
  | some x => if n < 0 ∨ 4096 < n then countE n else chebE n.toNat x
def chU (n : Int) : Option Rat → Option Rat
  | none => none
  | some x => if n < 0 ∨ 4096 < n then none else chebOU n.toNat x
def chT (n : Int) : Option Rat → Option Rat
  | none => none
  | some x => if n < 0 ∨ 4096 < n then none else chebOT n.toNat x
theorem cheb_c (n : Int) (v : Value) (o : Option Rat) (w : World) (h : AnyF w v o) :
    Calls Try.prog 11 #[.int .i64 n, v] w fun e w' => ∃ u t, e = .returned (.tuple #[u, t, .int .i64 (chE n o)]) ∧ Ext w w' ∧ AnyF w' u (chU n o) ∧ AnyF w' t (chT n o) := by
  cases o with
  | none => exact cheb_none n v w h
  | some x =>
    unfold chE chU chT
    by_cases hn : n < 0 ∨ 4096 < n
    · simp only [if_pos hn]
      exact cheb_count n x v w h hn
    · simp only [if_neg hn]
      obtain ⟨m, rfl⟩ : ∃ m : Nat, n = m := ⟨n.toNat, by omega⟩
      exact cheb_fine m x v w h (by omega)
/-- What is known where Chebyshev refuses nothing. -/
theorem chE_ok {n : Int} {o : Option Rat} (h : chE n o = 0) : ∃ x, o = some x ∧ 0 ≤ n ∧ n ≤ 4096 ∧ chU n o = some (chebU n.toNat x) ∧ chT n o = some (chebT n.toNat x) := by
  cases o with
  | none => cases h
  | some x =>
    unfold chE at h
    by_cases hn : n < 0 ∨ 4096 < n
    · simp only [if_pos hn] at h
      unfold countE at h
      rcases hn with h1 | h1
      · rw [if_pos h1] at h; cases h
      · rw [if_neg (by omega), if_pos h1] at h; cases h
    · simp only [if_neg hn] at h
      unfold chebE at h
      refine ⟨x, rfl, by omega, by omega, ?_, ?_⟩
      · unfold chU chebOU
        simp only [if_neg hn]
        by_cases hf : nf (chebU n.toNat x) ≤ 2048 ∧ nf (chebT n.toNat x) ≤ 2048
        · rw [if_pos hf]
        · rw [if_neg hf] at h; cases h
      · unfold chT chebOT
        simp only [if_neg hn]
        by_cases hf : nf (chebU n.toNat x) ≤ 2048 ∧ nf (chebT n.toNat x) ≤ 2048
        · rw [if_pos hf]
        · rw [if_neg hf] at h; cases h
theorem opE_ok {f : Rat → Rat → Rat} {o1 o2 : Option Rat} (h : opE f o1 o2 = 0) : ∃ x y, o1 = some x ∧ o2 = some y ∧ opO f o1 o2 = some (f x y) := by
  cases o1 with
  | none => cases h
  | some x =>
    cases o2 with
    | none => cases h
    | some y =>
      refine ⟨x, y, rfl, rfl, ?_⟩
      unfold opE capE at h
      unfold opO capF
      by_cases hf : nf (f x y) ≤ 2048
      · simp only [if_pos hf]
      · simp only [if_neg hf] at h; cases h
def pwE (n : Int) (oa ob oc od : Option Rat) : Int := match oa, ob, oc, od with
  | some a, some b, some c, some d => if a * d - b * c = 1 then (if n < 0 ∨ 4096 < n then countE n else powE n.toNat a b c d) else 1
  | _, _, _, _ => 1
/-- The four places of a power. -/
def pwO (j : Nat) (n : Int) (oa ob oc od : Option Rat) : Option Rat := match oa, ob, oc, od with
  | some a, some b, some c, some d => if a * d - b * c = 1 then (if n < 0 ∨ 4096 < n then none else (match j with | 0 => powOA n.toNat a b c d | 1 => powOB n.toNat a b c d | 2 => powOC n.toNat a b c d | _ => powOD n.toNat a b c d)) else none
  | _, _, _, _ => none
theorem power_c (n : Int) (v : Value) (oa ob oc od : Option Rat) (w : World) (h : AnyM w v oa ob oc od) :
    Calls Try.prog 16 #[v, .int .i64 n] w fun e w' => ∃ p, e = .returned (.tuple #[p, .int .i64 (pwE n oa ob oc od)]) ∧ Ext w w' ∧
      AnyM w' p (pwO 0 n oa ob oc od) (pwO 1 n oa ob oc od) (pwO 2 n oa ob oc od) (pwO 3 n oa ob oc od) := by
  by_cases hk : okM oa ob oc od = true
  · obtain ⟨a, ha⟩ : ∃ a, oa = some a := by cases oa with | none => exact absurd hk (by simp [okM]) | some a => exact ⟨a, rfl⟩
    obtain ⟨b, hb⟩ : ∃ b, ob = some b := by subst ha; cases ob with | none => exact absurd hk (by simp [okM]) | some a => exact ⟨a, rfl⟩
    obtain ⟨c, hc⟩ : ∃ c, oc = some c := by subst ha hb; cases oc with | none => exact absurd hk (by simp [okM]) | some a => exact ⟨a, rfl⟩
    obtain ⟨d, hd⟩ : ∃ d, od = some d := by subst ha hb hc; cases od with | none => exact absurd hk (by simp [okM]) | some a => exact ⟨a, rfl⟩
    subst ha hb hc hd
    have hdet : a * d - b * c = 1 := by simpa [okM] using hk
    unfold pwE pwO
    simp only [if_pos hdet]
    by_cases hn : n < 0 ∨ 4096 < n
    · simp only [if_pos hn]
      exact power_count n v _ _ _ _ w h hk hn
    · simp only [if_neg hn]
      obtain ⟨m, rfl⟩ : ∃ m : Nat, n = m := ⟨n.toNat, by omega⟩
      exact power_fine m v a b c d w h hk (by omega)
  · have hk2 : okM oa ob oc od = false := by simpa using hk
    have h2 := power_none n v oa ob oc od w h hk2
    have e1 : pwE n oa ob oc od = 1 := by
      cases oa <;> cases ob <;> cases oc <;> cases od <;> first | rfl | skip
      rename_i a b c d
      show (if a * d - b * c = 1 then _ else (1 : Int)) = 1
      rw [if_neg (by simpa [okM] using hk)]
    have e2 : ∀ j, pwO j n oa ob oc od = none := by
      intro j
      cases oa <;> cases ob <;> cases oc <;> cases od <;> first | rfl | skip
      rename_i a b c d
      show (if a * d - b * c = 1 then _ else (none : Option Rat)) = none
      rw [if_neg (by simpa [okM] using hk)]
    rw [e1, e2, e2, e2, e2]
    exact h2
theorem cheb_inv (x : Rat) (k : Nat) : (itR (x + x) k (0, 1)).2 * (itR (x + x) k (0, 1)).2 - (x + x) * (itR (x + x) k (0, 1)).1 * (itR (x + x) k (0, 1)).2 + (itR (x + x) k (0, 1)).1 * (itR (x + x) k (0, 1)).1 = 1 ∧
    (itR (x + x) k (x, 1)).2 = (itR (x + x) k (0, 1)).2 - x * (itR (x + x) k (0, 1)).1 ∧
    (itR (x + x) k (x, 1)).1 = (itR (x + x) k (0, 1)).1 - 2 * x * x * (itR (x + x) k (0, 1)).1 + x * (itR (x + x) k (0, 1)).2 := by
  induction k with
  | zero => refine ⟨?_, ?_, ?_⟩ <;> simp only [itR] <;> grind
  | succ k ih =>
    obtain ⟨h1, h2, h3⟩ := ih
    simp only [itR]
    generalize (itR (x + x) k (0, 1)).1 = p at *
    generalize (itR (x + x) k (0, 1)).2 = q at *
    generalize (itR (x + x) k (x, 1)).1 = r at *
    generalize (itR (x + x) k (x, 1)).2 = s at *
    refine ⟨?_, ?_, ?_⟩ <;> grind
theorem cheb_pell (x : Rat) (k : Nat) : chebT (k + 1) x * chebT (k + 1) x - (x * x - 1) * (chebU k x * chebU k x) = 1 := by
  obtain ⟨h1, h2, h3⟩ := cheb_inv x (k + 1)
  unfold chebT chebU
  have e : (itR (x + x) (k + 1) (0, 1)).1 = (itR (x + x) k (0, 1)).2 := rfl
  rw [← e]
  generalize (itR (x + x) (k + 1) (0, 1)).1 = p at *
  generalize (itR (x + x) (k + 1) (0, 1)).2 = q at *
  rw [h2]
  grind
theorem chebT_zero (x : Rat) : chebT 0 x = 1 := rfl
theorem chebT_one (x : Rat) : chebT 1 x = x := by
  unfold chebT
  simp only [itR]
  grind
theorem chebT_step (x : Rat) (k : Nat) : chebT (k + 2) x = (x + x) * chebT (k + 1) x - chebT k x := rfl
theorem chebT_add (x : Rat) : ∀ n c, chebT (c + n + n) x + chebT c x = 2 * chebT n x * chebT (c + n) x ∧ chebT (c + (n + 1) + (n + 1)) x + chebT c x = 2 * chebT (n + 1) x * chebT (c + (n + 1)) x := by
  intro n
  induction n with
  | zero =>
    intro c
    refine ⟨?_, ?_⟩
    · rw [chebT_zero]; simp only [Nat.add_zero]; grind
    · have := chebT_step x c
      rw [show c + (0 + 1) + (0 + 1) = c + 2 by omega, show c + (0 + 1) = c + 1 by omega, show 0 + 1 = 1 by omega, chebT_one]
      grind
  | succ n ih =>
    intro c
    refine ⟨(ih c).2, ?_⟩
    have h1 := (ih (c + 1)).2
    have h2 := (ih (c + 2)).1
    rw [show c + 1 + (n + 1) + (n + 1) = c + n + n + 3 by omega, show c + 1 + (n + 1) = c + n + 2 by omega] at h1
    rw [show c + 2 + n + n = c + n + n + 2 by omega, show c + 2 + n = c + n + 2 by omega] at h2
    rw [show c + (n + 1 + 1) + (n + 1 + 1) = c + n + n + 4 by omega, show c + (n + 1 + 1) = c + n + 2 by omega, show n + 1 + 1 = n + 2 by omega]
    have s1 := chebT_step x (c + n + n + 2)
    have s2 := chebT_step x n
    have s3 := chebT_step x c
    rw [show c + n + n + 2 + 2 = c + n + n + 4 by omega, show c + n + n + 2 + 1 = c + n + n + 3 by omega] at s1
    generalize chebT (c + n + n + 4) x = t4 at *
    generalize chebT (c + n + n + 3) x = t3 at *
    generalize chebT (c + n + n + 2) x = t2 at *
    generalize chebT (c + n + 2) x = u at *
    generalize chebT (n + 2) x = v2 at *
    generalize chebT (n + 1) x = v1 at *
    generalize chebT n x = v0 at *
    generalize chebT (c + 2) x = d2 at *
    generalize chebT (c + 1) x = d1 at *
    generalize chebT c x = d0 at *
    subst s2
    grind
theorem chebT_mul (x : Rat) (n : Nat) : ∀ k, chebT k (chebT n x) = chebT (n * k) x ∧ chebT (k + 1) (chebT n x) = chebT (n * (k + 1)) x := by
  intro k
  induction k with
  | zero => exact ⟨by rw [Nat.mul_zero, chebT_zero, chebT_zero], by rw [chebT_one, Nat.zero_add, Nat.mul_one]⟩
  | succ k ih =>
    refine ⟨ih.2, ?_⟩
    rw [show k + 1 + 1 = k + 2 by omega, chebT_step, ih.1, ih.2]
    have h := (chebT_add x n (n * k)).1
    rw [show n * k + n + n = n * (k + 2) by grind, show n * k + n = n * (k + 1) by grind] at h
    grind
end Go.Proofs.Ytpmfohhpaoagfaa
namespace Go.Proofs.Ytpmfohhpaoagfaa.Late
open Go Go.RowKit Go.Proofs.Ytpmfohhpaoagfaa
def okOper (pre : List Nat) (l : List Oper) (n i : Nat) (o : Oper) : Bool :=
  (o.after.toList.all fun e => !Region.binds .any e || decide (e.on < i)) &&
  (if i < n then
    o.dst.isSome && (List.range l.length).all fun j => match l[j]? with
      | some oj => (match oj.dst with
        | some d => (!(o.looksAt l.toArray).contains d || (decide (j < i) && hasEdge o j)) && (j == i || o.dst != some d)
        | none => true)
      | none => true
  else (List.range i).all fun j => pre.contains j || ancB l 16 o j)
def okFree (pre : List Nat) (n size : Nat) (l : List Oper) : Bool :=
  Region.noSelect l.toArray && decide (n ≤ l.length) && (l.all fun o => match o.dst with | some d => decide (d < size) | none => true) &&
    (List.range l.length).all fun i => match l[i]? with | some o => okOper pre l n i o | none => true
section
variable {pre : List Nat} {P : Program} {l0 : List Oper} {R : World → World → Prop} {w0 : World} {Q : Exit → Act → World → Prop}
theorem tail_forced {n : Nat} (htail : ∀ i o, n ≤ i → l0[i]? = some o → ∀ j, j < i → j ∈ pre ∨ ancB l0 16 o j = true) :
    ∀ (k m : Nat) (listed : Array Bool) (a : Act) (W : World) (fuel : Nat), n ≤ m → m + k = l0.length → k ≤ fuel → listed.size = l0.length → (∀ j ∈ pre, listed.getD j false = true) →
      (∀ i o, listed.getD i false = true → l0[i]? = some o → ∀ e ∈ o.after, Region.binds .any e = true → listed.getD e.on false = true) →
      (∀ i, i < l0.length → (listed.getD i false = true ↔ i < m)) →
      (∀ i o, l0[i]? = some o → ∀ e ∈ o.after, Region.binds .any e = true → e.on < i) →
      wpList P l0.toArray Q (l0.drop m) a W → wpAny P .any l0.toArray Q fuel listed a W := by
  intro k
  induction k with
  | zero =>
    intro m listed a W fuel _ hmk _ hsz _ _ hlst _ h
    have hr : Region.ready .any l0.toArray listed = [] := by
      cases hr : Region.ready .any l0.toArray listed with
      | nil => rfl
      | cons i r =>
        have := (mem_ready (md := .any) (ops := l0.toArray) (listed := listed) (j := i)).1 (by rw [hr]; simp)
        have hlt := lt_of_unlisted this.1
        have h2 := (hlst i (by omega)).2 (by omega)
        have h3 := this.1
        simp [hlt] at h2 h3
        rw [h2] at h3
        cases h3
    rw [List.drop_eq_nil_of_le (show l0.length ≤ m by omega)] at h
    exact wpAny_done hr h fuel
  | succ k ih =>
    intro m listed a W fuel hnm hmk hfuel hsz hpre hcl hlst hed h
    obtain ⟨fuel, rfl⟩ : ∃ f, fuel = f + 1 := ⟨fuel - 1, by omega⟩
    have hml : m < l0.length := by omega
    have ho : l0[m]? = some l0[m] := List.getElem?_eq_getElem hml
    have hun : listed.getD m true = false := by
      rcases listed_cases (listed := listed) (i := m) (by omega) with h1 | h1
      · have := (hlst m hml).1 h1; omega
      · exact h1
    have hready : m ∈ Region.ready .any l0.toArray listed := by
      rw [mem_ready]
      exact ⟨hun, _, by simp [hml], fun e he hb => (hlst e.on (by have := hed m _ ho e he hb; omega)).2 (hed m _ ho e he hb)⟩
    refine ⟨fun h0 => absurd (h0 ▸ hready) (by simp), fun i hi => ?_⟩
    have him : i = m := by
      obtain ⟨h1, o, ho', hall⟩ := mem_ready.1 hi
      have hlt := lt_of_unlisted h1
      rcases Nat.lt_trichotomy i m with hlt' | he | hgt
      · have h2 := (hlst i (by omega)).2 hlt'
        simp [hlt] at h1 h2
        rw [h2] at h1; cases h1
      · exact he
      · have ho'' : l0[i]? = some o := by simpa using ho'
        have := (htail i o (by omega) ho'' m hgt).elim (fun hp => hpre m hp) (listed_anc hcl 16 o m hall)
        have := (hlst m hml).1 this
        omega
    subst him
    unfold wpOp
    simp only [List.getElem?_toArray, ho]
    rw [List.drop_eq_getElem_cons hml] at h
    simp only [wpList] at h
    have next : ∀ a' W', wpList P l0.toArray Q (l0.drop (i + 1)) a' W' → wpAny P .any l0.toArray Q fuel (listed.setIfInBounds i true) a' W' := by
      intro a' W' h'
      refine ih (i + 1) _ a' W' fuel (by omega) (by omega) (by omega) (by simpa using hsz) (fun j hj => getD_set_true (hpre j hj)) ?_ ?_ hed h'
      · intro j o hj hoj e he hb
        by_cases hij : i = j
        · subst hij
          rw [ho] at hoj
          cases hoj
          exact getD_set_true ((hlst e.on (by have := hed i _ ho e he hb; omega)).2 (hed i _ ho e he hb))
        · rw [getD_set_ne false hij] at hj
          exact getD_set_true (hcl j o hj hoj e he hb)
      · intro j hj
        by_cases hij : i = j
        · subst hij
          simp [show i < listed.size by omega]
        · rw [getD_set_ne false hij, hlst j hj]
          omega
    split
    · rename_i hw
      rw [if_pos hw] at h
      exact h.imp (Oper.wp_mono next) id
    · rename_i hw
      rw [if_neg hw] at h
      exact next _ _ h
structure OkSpec (pre : List Nat) (l : List Oper) (n size : Nat) : Prop where
  sel : ∀ (j : Nat) (o : Oper) cs b, l[j]? = some o → o.op ≠ .select cs b
  len : n ≤ l.length
  dst : ∀ (j : Nat) (o : Oper) (d : Tmp), l[j]? = some o → o.dst = some d → d < size
  edge : ∀ (i : Nat) (o : Oper), l[i]? = some o → ∀ e ∈ o.after, Region.binds .any e = true → e.on < i
  has : ∀ (i : Nat) (o : Oper), i < n → l[i]? = some o → o.dst.isSome = true
  look : ∀ (i : Nat) (o : Oper) (j : Nat) (oj : Oper) (d : Tmp), i < n → l[i]? = some o → l[j]? = some oj → oj.dst = some d → d ∈ o.looksAt l.toArray → j < i ∧ hasEdge o j = true
  one : ∀ (i : Nat) (o : Oper) (j : Nat) (oj : Oper) (d : Tmp), i < n → l[i]? = some o → l[j]? = some oj → oj.dst = some d → i ≠ j → o.dst ≠ some d
  tail : ∀ (i : Nat) (o : Oper), n ≤ i → l[i]? = some o → ∀ j, j < i → j ∈ pre ∨ ancB l 16 o j = true
theorem okFree_spec {n size : Nat} {l : List Oper} (h : okFree pre n size l = true) : OkSpec pre l n size := by
  simp only [okFree, Bool.and_eq_true, decide_eq_true_eq, List.all_eq_true, List.mem_range] at h
  obtain ⟨⟨⟨h1, h2⟩, h3⟩, h4⟩ := h
  have at_ : ∀ i o, l[i]? = some o → okOper pre l n i o = true := by
    intro i o ho
    have := h4 i (List.getElem?_eq_some_iff.1 ho).1
    rwa [ho] at this
  refine ⟨fun j o cs b hj => Region.noSelect_spec h1 j o cs b (by simpa using hj), h2, ?_, ?_, ?_, ?_, ?_, ?_⟩
  · intro j o d ho hd
    have := h3 o (List.mem_of_getElem? ho)
    simpa [hd] using this
  · intro i o ho e he hb
    have := at_ i o ho
    simp only [okOper, Bool.and_eq_true, List.all_eq_true, Bool.or_eq_true, Bool.not_eq_true', decide_eq_true_eq] at this
    have := this.1 e (Array.mem_toList_iff.2 he)
    rcases this with h | h
    · rw [h] at hb; cases hb
    · exact h
  · intro i o hi ho
    have := at_ i o ho
    simp only [okOper, Bool.and_eq_true, if_pos hi] at this
    exact this.2.1
  · intro i o j oj d hi ho hj hd hm
    have := at_ i o ho
    simp only [okOper, Bool.and_eq_true, if_pos hi, List.all_eq_true, List.mem_range] at this
    have := this.2.2 j (List.getElem?_eq_some_iff.1 hj).1
    simp only [hj, hd, Bool.and_eq_true, Bool.or_eq_true, Bool.not_eq_true', decide_eq_true_eq] at this
    rcases this.1 with h | h
    · have := List.contains_iff_mem.2 hm
      rw [h] at this; cases this
    · exact h
  · intro i o j oj d hi ho hj hd hne
    have := at_ i o ho
    simp only [okOper, Bool.and_eq_true, if_pos hi, List.all_eq_true, List.mem_range] at this
    have := this.2.2 j (List.getElem?_eq_some_iff.1 hj).1
    simp only [hj, hd, Bool.and_eq_true, Bool.or_eq_true, beq_iff_eq, bne_iff_ne, ne_eq] at this
    rcases this.2 with h | h
    · exact absurd h.symm hne
    · exact h
  · intro i o hi ho j hj
    have := at_ i o ho
    simp only [okOper, Bool.and_eq_true, if_neg (Nat.not_lt.2 hi), List.all_eq_true, List.mem_range] at this
    have := this.2 j hj
    rw [Bool.or_eq_true] at this
    exact this.imp (fun h => List.contains_iff_mem.1 h) id
/-- Where a region stands, whatever came first. -/
structure Midway (pre : List Nat) (l : List Oper) (specs : List FSpec) (R : World → World → Prop) (w0 : World) (a0 : Act) (listed : Array Bool) (a : Act) (W : World) : Prop where
  size : listed.size = l.length
  rel : R w0 W
  defers : a.defers = a0.defers
  tsize : a.tmps.size = a0.tmps.size
  closed : ∀ (i : Nat) (o : Oper), listed.getD i false = true → l[i]? = some o → ∀ e ∈ o.after, Region.binds .any e = true → listed.getD e.on false = true
  other : ∀ (t : Tmp), (∀ (j : Nat) (o : Oper), l[j]? = some o → listed.getD j false = true → o.dst ≠ some t) → a.tmps[t]? = a0.tmps[t]?
  fact : ∀ (j : Nat) (o : Oper) (d : Tmp) (s : FSpec), listed.getD j false = true → l[j]? = some o → o.dst = some d → specs[j]? = some s → s.ok W (a.tmps.getD d undef)
  late : ∀ (j : Nat), specs.length ≤ j → listed.getD j false = false
theorem Midway.value {specs : List FSpec} {a0 a : Act} {listed : Array Bool} {W : World} (m : Midway pre l0 specs R w0 a0 listed a W) {j : Nat} {o : Oper} {d : Tmp} (hj : listed.getD j false = true) (ho : l0[j]? = some o) (hd : o.dst = some d) :
    a.tmps.getD d undef = valuesOf l0 specs a j := by
  have hlt : j < specs.length := by
    rcases Nat.lt_or_ge j specs.length with h | h
    · exact h
    · rw [m.late j h] at hj; cases hj
  have hs : specs[j]? = some specs[j] := List.getElem?_eq_getElem hlt
  have := m.fact j o d _ hj ho hd hs
  generalize specs[j] = s at this hs
  cases s with
  | val c => simp only [FSpec.ok] at this; simp [valuesOf, hs, this]
  | pred Φ => simp [valuesOf, hs, ho, hd]
theorem Midway.tmp {specs : List FSpec} {a0 a : Act} {listed : Array Bool} {W : World} (m : Midway pre l0 specs R w0 a0 listed a W) (ok : OkSpec pre l0 specs.length a0.tmps.size) (k t : Nat) (hk : k ≤ specs.length)
    (h : ∀ (j : Nat) (oj : Oper), l0[j]? = some oj → oj.dst = some t → j < k ∧ listed.getD j false = true) : (frameAt a0 l0 (valuesOf l0 specs a) k).tmps[t]? = a.tmps[t]? := by
  by_cases hex : ∃ (j : Nat) (oj : Oper), l0[j]? = some oj ∧ oj.dst = some t
  · obtain ⟨j, oj, hj, hd⟩ := hex
    obtain ⟨hjk, hlj⟩ := h j oj hj hd
    have ht := ok.dst j oj t hj hd
    rw [frameAt_own a0 l0 _ k t j oj hjk hj hd ht fun i o' hne ho' hd' => by
      rcases Nat.lt_or_ge i specs.length with hi | hi
      · exact ok.one i o' j oj t hi ho' hj hd hne hd'
      · exact ok.one j oj i o' t (by omega) hj ho' hd' (Ne.symm hne) hd]
    rw [← m.value hlj hj hd]
    have : t < a.tmps.size := by rw [m.tsize]; exact ht
    simp [this]
  · rw [frameAt_other a0 l0 _ k t fun j o _ ho hd => hex ⟨j, o, ho, hd⟩, m.other t fun j o ho _ hd => hex ⟨j, o, ho, hd⟩]
theorem Midway.next {specs : List FSpec} {a0 a : Act} {listed : Array Bool} {W : World} (m : Midway pre l0 specs R w0 a0 listed a W) (ok : OkSpec pre l0 specs.length a0.tmps.size) (htr : ∀ a b c, R a b → R b c → R a c)
    (hst : ∀ s ∈ specs, ∀ W W' v, R W W' → s.ok W v → s.ok W' v) {i : Nat} {o : Oper} (hi : i < specs.length) (ho : l0[i]? = some o) (hedge : ∀ e ∈ o.after, Region.binds .any e = true → listed.getD e.on false = true) :
    ∀ W' v, R W W' → specs[i].ok W' v → Midway pre l0 specs R w0 a0 (listed.setIfInBounds i true) (a.put o.dst v) W' := by
  have hil : i < l0.length := (List.getElem?_eq_some_iff.1 ho).1
  have hlt : i < listed.size := by rw [m.size]; exact hil
  have hs : specs[i]? = some specs[i] := List.getElem?_eq_getElem hi
  intro W' v hR hv
  refine ⟨by simpa using m.size, htr _ _ _ m.rel hR, ?_, ?_, ?_, ?_, ?_, ?_⟩
  · rw [← m.defers]; cases o.dst <;> rfl
  · rw [← m.tsize]; cases hd : o.dst <;> simp [Act.put]
  · intro j oj hj hoj e he hb
    by_cases hij : i = j
    · subst hij
      rw [ho] at hoj; cases hoj
      exact getD_set_true (hedge e he hb)
    · rw [getD_set_ne false hij] at hj
      exact getD_set_true (m.closed j oj hj hoj e he hb)
  · intro t ht
    have hne : o.dst ≠ some t := ht i o ho (by simp [hlt])
    rw [← m.other t fun j oj hoj hj => ht j oj hoj (by
      by_cases hij : i = j
      · subst hij; simp [hlt]
      · rw [getD_set_ne false hij]; exact hj)]
    cases hd : o.dst with
    | none => rfl
    | some d =>
      have : d ≠ t := fun e => hne (by rw [hd, e])
      simp [Act.put, Array.getElem?_setIfInBounds_ne this]
  · intro j oj d s hj hoj hdj hsj
    by_cases hij : i = j
    · subst hij
      rw [ho] at hoj; cases hoj
      rw [hs] at hsj; cases hsj
      have hsz : d < a.tmps.size := by rw [m.tsize]; exact ok.dst i _ d ho hdj
      simpa [Act.put, hdj, hsz] using hv
    · rw [getD_set_ne false hij] at hj
      have hf := m.fact j oj d s hj hoj hdj hsj
      have hf := hst s (List.mem_of_getElem? hsj) _ _ _ hR hf
      have hnd : o.dst ≠ some d := ok.one i o j oj d hi ho hoj hdj hij
      cases hd : o.dst with
      | none => simpa [Act.put] using hf
      | some e =>
        have : e ≠ d := fun e' => hnd (by rw [hd, e'])
        simpa [Act.put, Array.getElem?_setIfInBounds_ne this] using hf
  · intro j hj
    rw [getD_set_ne false (show i ≠ j by omega)]
    exact m.late j hj
/-- One operation more, none of the tail. -/
theorem Midway.step {specs : List FSpec} {a0 a : Act} {listed : Array Bool} {W : World} (m : Midway pre l0 specs R w0 a0 listed a W) (ok : OkSpec pre l0 specs.length a0.tmps.size) (hrf : ∀ a, R a a) (htr : ∀ a b c, R a b → R b c → R a c)
    (hst : ∀ s ∈ specs, ∀ W W' v, R W W' → s.ok W v → s.ok W' v) (h : freeSteps P l0 R w0 Q 0 specs l0 a0 []) {i : Nat} (hi : i < specs.length) (hr : i ∈ Region.ready .any l0.toArray listed) :
    wpOp P l0.toArray Q i (fun a' W' => Midway pre l0 specs R w0 a0 (listed.setIfInBounds i true) a' W') a W := by
  obtain ⟨hun, o, ho', hedge⟩ := mem_ready.1 hr
  have ho : l0[i]? = some o := by simpa using ho'
  have hil : i < l0.length := (List.getElem?_eq_some_iff.1 ho).1
  have hlt : i < listed.size := by rw [m.size]; exact hil
  have hat := steps_at h (valuesOf l0 specs a) (valuesOf_fits l0 specs a) i (by omega)
  rw [List.drop_eq_getElem_cons hi, List.drop_eq_getElem_cons hil] at hat
  have hs : specs[i]? = some specs[i] := List.getElem?_eq_getElem hi
  have hoi : l0[i] = o := by
    have := List.getElem?_eq_getElem hil
    rw [ho] at this
    exact (Option.some.inj this).symm
  rw [hoi] at hat
  have hfacts : ∀ p ∈ factsAt specs (valuesOf l0 specs a) i, leans l0 o p.1 = true → p.2.1.ok W p.2.2 := by
    intro p hp hl
    obtain ⟨h1, h2, h3⟩ := mem_factsAt hp
    unfold leans at hl
    split at hl
    · rename_i d hd
      obtain ⟨oj, hj, hdj⟩ := Option.bind_eq_some_iff.1 hd
      have hlook := ok.look i o p.1 oj d hi ho hj hdj (List.contains_iff_mem.1 hl)
      have hlj : listed.getD p.1 false = true := listed_anc (l0 := l0) m.closed 0 o p.1 hedge hlook.2
      have := m.fact p.1 oj d p.2.1 hlj hj hdj h2
      rw [h3, ← m.value hlj hj hdj]
      exact this
    · cases hl
  have hsame : ∀ t, t ∈ o.looksAt l0.toArray → (frameAt a0 l0 (valuesOf l0 specs a) i).tmps[t]? = a.tmps[t]? := by
    intro t ht
    refine m.tmp ok i t (by omega) fun j oj hj hdj => ?_
    have hlook := ok.look i o j oj t hi ho hj hdj ht
    exact ⟨hlook.1, listed_anc (l0 := l0) m.closed 0 o j hedge hlook.2⟩
  have hev : execOp (frameAt a0 l0 (valuesOf l0 specs a) i).eval o = execOp a.eval o := eval_of_tmps o (fun cs b => ok.sel i o cs b ho) hsame
  have hwa : Region.wanted o (yielded l0.toArray (frameAt a0 l0 (valuesOf l0 specs a) i).tmps) = Region.wanted o (yielded l0.toArray a.tmps) := wanted_of_tmps o hsame
  -- what is left to show of each value
  have next : ∀ W' v, R W W' → specs[i].ok W' v → Midway pre l0 specs R w0 a0 (listed.setIfInBounds i true) (a.put o.dst v) W' := by
    intro W' v hR hv
    refine ⟨by simpa using m.size, htr _ _ _ m.rel hR, ?_, ?_, ?_, ?_, ?_, ?_⟩
    · rw [← m.defers]; cases o.dst <;> rfl
    · rw [← m.tsize]; cases hd : o.dst <;> simp [Act.put]
    · intro j oj hj hoj e he hb
      by_cases hij : i = j
      · subst hij
        rw [ho] at hoj; cases hoj
        exact getD_set_true (hedge e he hb)
      · rw [getD_set_ne false hij] at hj
        exact getD_set_true (m.closed j oj hj hoj e he hb)
    · intro t ht
      have hne : o.dst ≠ some t := ht i o ho (by simp [hlt])
      rw [← m.other t fun j oj hoj hj => ht j oj hoj (by
        by_cases hij : i = j
        · subst hij; simp [hlt]
        · rw [getD_set_ne false hij]; exact hj)]
      cases hd : o.dst with
      | none => rfl
      | some d =>
        have : d ≠ t := fun e => hne (by rw [hd, e])
        simp [Act.put, Array.getElem?_setIfInBounds_ne this]
    · intro j oj d s hj hoj hdj hsj
      by_cases hij : i = j
      · subst hij
        rw [ho] at hoj; cases hoj
        rw [hs] at hsj; cases hsj
        have hsz : d < a.tmps.size := by rw [m.tsize]; exact ok.dst i _ d ho hdj
        simpa [Act.put, hdj, hsz] using hv
      · rw [getD_set_ne false hij] at hj
        have hf := m.fact j oj d s hj hoj hdj hsj
        have hf := hst s (List.mem_of_getElem? hsj) _ _ _ hR hf
        have hnd : o.dst ≠ some d := ok.one i o j oj d hi ho hoj hdj hij
        cases hd : o.dst with
        | none => simpa [Act.put] using hf
        | some e =>
          have : e ≠ d := fun e' => hnd (by rw [hd, e'])
          simpa [Act.put, Array.getElem?_setIfInBounds_ne this] using hf
    · intro j hj
      rw [getD_set_ne false (show i ≠ j by omega)]
      exact m.late j hj
  unfold wpOp
  simp only [List.getElem?_toArray, ho]
  generalize hsp : specs[i] = s at hat next
  cases s with
  | val c =>
    simp only [freeSteps] at hat
    have hone := hat.1 W m.rel (factsHold_of hfacts)
    rw [hwa, hev] at hone
    split
    · rename_i hw
      rw [if_pos hw] at hone
      refine .inl (upon_of_gives hone fun w' v hv => next _ _ hv.1 hv.2)
    · rename_i hw
      rw [if_neg hw] at hone
      exact next W undef (hrf W) hone
  | pred Φ =>
    simp only [freeSteps] at hat
    have hone := hat.1 W m.rel (factsHold_of hfacts)
    rw [hwa, hev] at hone
    split
    · rename_i hw
      rw [if_pos hw] at hone
      refine .inl (upon_of_gives hone fun w' v hv => next _ _ hv.1 hv.2)
    · rename_i hw
      rw [if_neg hw] at hone
      exact next W undef (hrf W) hone
/-- All of the front is done, and nothing else: the frame is the lexical walk's. -/
theorem Midway.done {specs : List FSpec} {a0 a : Act} {listed : Array Bool} {W : World} (m : Midway pre l0 specs R w0 a0 listed a W) (ok : OkSpec pre l0 specs.length a0.tmps.size) (hall : ∀ j, j < specs.length → listed.getD j false = true) :
    a = frameAt a0 l0 (valuesOf l0 specs a) specs.length ∧ ∀ p ∈ factsAt specs (valuesOf l0 specs a) specs.length, p.2.1.ok W p.2.2 := by
  refine ⟨?_, fun p hp => ?_⟩
  · obtain ⟨tm, df⟩ := a
    have hdf := frameAt_defers a0 l0 (valuesOf l0 specs ⟨tm, df⟩) specs.length
    have htm : tm = (frameAt a0 l0 (valuesOf l0 specs ⟨tm, df⟩) specs.length).tmps := by
      refine Array.ext_getElem? fun t => ?_
      by_cases hex : ∃ (j : Nat) (oj : Oper), l0[j]? = some oj ∧ oj.dst = some t ∧ specs.length ≤ j
      · obtain ⟨j, oj, hj, hd, hge⟩ := hex
        by_cases hin : ∃ (i : Nat) (oi : Oper), l0[i]? = some oi ∧ oi.dst = some t ∧ i < specs.length
        · obtain ⟨i, oi, hi, hdi, hlt⟩ := hin
          exact absurd hdi (ok.one i oi j oj t hlt hi hj hd (by omega))
        · rw [frameAt_other a0 l0 _ _ t fun i o hi ho hd' => hin ⟨i, o, ho, hd', hi⟩]
          refine m.other t fun i o ho hl hd' => ?_
          rcases Nat.lt_or_ge i specs.length with h | h
          · exact hin ⟨i, o, ho, hd', h⟩
          · rw [m.late i h] at hl; cases hl
      · refine (m.tmp ok specs.length t (Nat.le_refl _) fun j oj hj hd => ?_).symm
        have hlt : j < specs.length := by
          rcases Nat.lt_or_ge j specs.length with h | h
          · exact h
          · exact absurd ⟨j, oj, hj, hd, h⟩ hex
        exact ⟨hlt, hall j hlt⟩
    have h1 : (frameAt a0 l0 (valuesOf l0 specs ⟨tm, df⟩) specs.length).defers = df := by rw [hdf, ← m.defers]
    generalize frameAt a0 l0 (valuesOf l0 specs ⟨tm, df⟩) specs.length = f at htm h1
    obtain ⟨ft, fd⟩ := f
    simp only at htm h1
    rw [htm, h1]
  · obtain ⟨h1, h2, h3⟩ := mem_factsAt hp
    have hil : p.1 < l0.length := by have := ok.len; omega
    have ho : l0[p.1]? = some l0[p.1] := List.getElem?_eq_getElem hil
    rw [h3]
    cases hd : l0[p.1].dst with
    | some d =>
      rw [← m.value (hall p.1 h1) ho hd]
      exact m.fact p.1 _ d _ (hall p.1 h1) ho hd h2
    | none =>
      have := ok.has p.1 _ h1 ho
      simp [hd] at this
theorem free_mono {md : Region.Mode} {ops : Array Oper} {listed : Array Bool} {i : Nat} (f : Nat → Bool) (hl : ∀ j, f j = true → listed.getD j true = true) (h : Region.free md ops (((List.range ops.size).map f).toArray) i = true) : Region.free md ops listed i = true := by
  unfold Region.free at *
  split at h
  · cases h
  · rw [List.all_eq_true] at *
    intro j hj
    have := h j hj
    have hjl : j < ops.size := List.mem_range.1 hj
    have e : (((List.range ops.size).map f).toArray).getD j true = f j := by simp [hjl]
    rw [e] at this
    cases h2 : listed.getD j true with
    | true => simp
    | false =>
      have h3 : f j = false := by
        cases h4 : f j with
        | false => rfl
        | true => rw [hl j h4] at h2; cases h2
      rw [h3] at this
      exact this
theorem free_any {specs : List FSpec} {a0 : Act} {k : Nat} {ok' : Oper} {d : Tmp} {v : Value} (hpk : pre = [k]) (hk : l0[k]? = some ok') (_hkd : ok'.dst = some d) (hks : specs[k]? = some (.val v)) (hns : Region.noSelect l0.toArray = true)
    (hf : Region.free .any l0.toArray (((List.range l0.toArray.size).map fun j => hasEdge ok' j).toArray) k = true) (hQ : ∀ c a w, Q (.panic c) (a.put ok'.dst v) w → Q (.panic c) a w)
    (hy : ∀ (a : Act) (W : World), R w0 W → (∀ j s oj dj, specs[j]? = some s → l0[j]? = some oj → oj.dst = some dj → hasEdge ok' j = true → s.ok W (a.tmps.getD dj undef)) → Yields P l0.toArray ok' v a)
    (ok : OkSpec pre l0 specs.length a0.tmps.size) (hrf : ∀ a, R a a) (htr : ∀ a b c, R a b → R b c → R a c)
    (hst : ∀ s ∈ specs, ∀ W W' v, R W W' → s.ok W v → s.ok W' v) (h : freeSteps P l0 R w0 Q 0 specs l0 a0 []) :
    ∀ (fuel : Nat) (listed : Array Bool) (a : Act) (W : World), left l0 listed ≤ fuel → Midway pre l0 specs R w0 a0 listed a W → wpAny P .any l0.toArray Q fuel listed a W := by
  have fin : ∀ (listed : Array Bool) (a : Act) (W : World), Midway pre l0 specs R w0 a0 listed a W → (∀ j, j < specs.length → listed.getD j false = true) → wpList P l0.toArray Q (l0.drop specs.length) a W := by
    intro listed a W m hall
    obtain ⟨he, hf⟩ := m.done ok hall
    have hat := steps_at h (valuesOf l0 specs a) (valuesOf_fits l0 specs a) specs.length (Nat.le_refl _)
    rw [List.drop_length] at hat
    simp only [freeSteps] at hat
    have := hat W m.rel (factsHold_of fun p hp _ => hf p hp)
    rwa [← he] at this
  have hkn : k < specs.length := (List.getElem?_eq_some_iff.1 hks).1
  have hpre : ∀ (listed : Array Bool), (∀ j, j < specs.length → listed.getD j false = true) → ∀ j ∈ pre, listed.getD j false = true := by
    intro listed hall j hj
    rw [hpk] at hj
    obtain rfl := List.mem_singleton.1 hj
    exact hall _ hkn
  have hlst : ∀ (listed : Array Bool) (a : Act) (W : World), Midway pre l0 specs R w0 a0 listed a W → (∀ j, j < specs.length → listed.getD j false = true) → ∀ i, i < l0.length → (listed.getD i false = true ↔ i < specs.length) := by
    intro listed a W m hall i hi
    constructor
    · intro hl
      rcases Nat.lt_or_ge i specs.length with h | h
      · exact h
      · rw [m.late i h] at hl; cases hl
    · exact hall i
  intro fuel
  induction fuel with
  | zero =>
    intro listed a W hl m
    have hnone : ∀ i, i < l0.length → listed.getD i true = true := by
      intro i hi
      have h0 : ((List.range l0.length).filter fun i => !listed.getD i true) = [] := List.eq_nil_of_length_eq_zero (by unfold left at hl; omega)
      have := List.filter_eq_nil_iff.1 h0 i (List.mem_range.2 hi)
      simpa using this
    have hall : ∀ j, j < specs.length → listed.getD j false = true := by
      intro j hj
      have h1 := hnone j (by have := ok.len; omega)
      rcases listed_cases (listed := listed) (i := j) (by rw [m.size]; have := ok.len; omega) with h2 | h2
      · exact h2
      · rw [h2] at h1; cases h1
    have hn : specs.length = l0.length := by
      rcases Nat.lt_or_ge specs.length l0.length with h1 | h1
      · have h2 := hnone specs.length h1
        have h3 := m.late specs.length (Nat.le_refl _)
        rcases listed_cases (listed := listed) (i := specs.length) (by rw [m.size]; exact h1) with h4 | h4
        · rw [h4] at h3; cases h3
        · rw [h4] at h2; cases h2
      · have := ok.len; omega
    exact tail_forced ok.tail 0 specs.length listed a W 0 (Nat.le_refl _) hn (Nat.le_refl _) m.size (hpre _ hall) m.closed (hlst _ _ _ m hall) ok.edge (fin _ _ _ m hall)
  | succ fuel ih =>
    intro listed a W hl m
    by_cases hall : ∀ j, j < specs.length → listed.getD j false = true
    · refine tail_forced ok.tail (l0.length - specs.length) specs.length listed a W (fuel + 1) (Nat.le_refl _) (by have := ok.len; omega) ?_ m.size (hpre _ hall) m.closed (hlst _ _ _ m hall) ok.edge (fin _ _ _ m hall)
      have := left_ge (l := l0) (listed := listed) (n := specs.length) fun i h1 h2 => by
        have := m.late i h1
        have hlt : i < listed.size := by rw [m.size]; exact h2
        simpa [hlt] using this
      omega
    · by_cases hrk : k ∈ Region.ready .any l0.toArray listed
      · obtain ⟨hun, o, ho', hedge⟩ := mem_ready.1 hrk
        have ho : l0[k]? = some o := by simpa using ho'
        rw [hk] at ho; cases ho
        have hed : ∀ j, hasEdge ok' j = true → listed.getD j false = true := fun j he => by
          obtain ⟨e, he1, he2⟩ := List.any_eq_true.1 he
          simp only [Bool.and_eq_true, beq_iff_eq] at he2
          have := hedge e (Array.mem_toList_iff.1 he1) he2.1
          rwa [he2.2] at this
        have hle : ∀ j, hasEdge ok' j = true → listed.getD j true = true := fun j he => by
          have h1 := hed j he
          rcases Nat.lt_or_ge j listed.size with h2 | h2
          · simpa [h2] using h1
          · simp [h2]
        have hyy : Yields P l0.toArray ok' v a := hy a W m.rel fun j s oj dj hs hj hd he => by
          exact m.fact j oj dj s (hed j he) hj hd hs
        refine wpAny_take (i := k) (by simpa using hk) hns (free_mono _ hle hf) (List.contains_iff_mem.2 hrk) hQ hyy ?_
        have hil : k < l0.length := (List.getElem?_eq_some_iff.1 hk).1
        have hsk : specs[k] = .val v := by
          have := List.getElem?_eq_getElem hkn
          rw [hks] at this
          exact (Option.some.inj this).symm
        exact ih _ _ W (by have := left_set hil hun; omega) (m.next ok htr hst hkn hk hedge W v (hrf W) (by rw [hsk]; rfl))
      have hkl : ∀ i o, specs.length ≤ i → l0[i]? = some o → (∀ e ∈ o.after, Region.binds .any e = true → listed.getD e.on false = true) → ∀ j ∈ pre, listed.getD j false = true := by
        intro i o hi ho hedge j hj
        rw [hpk] at hj
        obtain rfl := List.mem_singleton.1 hj
        have hil : j < l0.length := (List.getElem?_eq_some_iff.1 hk).1
        rcases listed_cases (listed := listed) (i := j) (by rw [m.size]; exact hil) with h1 | h1
        · exact h1
        · refine absurd (mem_ready.2 ⟨h1, ok', by simpa using hk, fun e he hb => ?_⟩) hrk
          have hlt := ok.edge j ok' hk e he hb
          have := ok.tail i o hi ho e.on (by omega)
          rcases this with h2 | h2
          · rw [hpk] at h2
            have := List.mem_singleton.1 h2
            omega
          · exact listed_anc m.closed 16 o e.on hedge h2
      refine ⟨fun h0 => ?_, fun i hi => ?_⟩
      · refine absurd (fun j => ?_) hall
        induction j using Nat.strongRecOn with
        | _ j ihj =>
          intro hj
          have hjl : j < l0.length := by have := ok.len; omega
          have hoj : l0[j]? = some l0[j] := List.getElem?_eq_getElem hjl
          rcases listed_cases (listed := listed) (i := j) (by rw [m.size]; exact hjl) with h1 | h1
          · exact h1
          · have hm : j ∈ Region.ready .any l0.toArray listed := mem_ready.2 ⟨h1, l0[j], by simp [hjl], fun e he hb => by
              have := ok.edge j _ hoj e he hb
              exact ihj e.on this (by omega)⟩
            rw [h0] at hm
            cases hm
      · obtain ⟨hun, o, ho', hedge⟩ := mem_ready.1 hi
        have hil : i < l0.length := by have := lt_of_unlisted hun; rw [m.size] at this; exact this
        have hn : i < specs.length := by
          rcases Nat.lt_or_ge i specs.length with h1 | h1
          · exact h1
          · exact absurd (fun j hj => (ok.tail i o h1 (by simpa using ho') j (by omega)).elim (fun hp => hkl i o h1 (by simpa using ho') hedge j hp) (listed_anc m.closed 16 o j hedge)) hall
        exact wpOp_mono (fun a' W' m' => ih _ a' W' (by have := left_set hil hun; omega) m') (m.step ok hrf htr hst h hn hi)
theorem region_late {id : Nat} {l : List Oper} {a : Act} {w : World} (R : World → World → Prop) (specs : List FSpec) (k : Nat) (ok : Oper) (d : Tmp) (v : Value) (hm : P.follows .mixedOrders = true) (hok : okFree [k] specs.length a.tmps.size l = true)
    (hk : l[k]? = some ok) (hd : ok.dst = some d) (hs : specs[k]? = some (.val v)) (hns : Region.noSelect l.toArray = true)
    (hf : Region.free .any l.toArray (((List.range l.toArray.size).map fun j => hasEdge ok j).toArray) k = true) (hQ : ∀ c a w, Q (.panic c) (a.put ok.dst v) w → Q (.panic c) a w)
    (hy : ∀ (a : Act) (W : World), R w W → (∀ j s oj dj, specs[j]? = some s → l[j]? = some oj → oj.dst = some dj → hasEdge ok j = true → s.ok W (a.tmps.getD dj undef)) → Yields P l.toArray ok v a)
    (hrf : ∀ a, R a a) (htr : ∀ a b c, R a b → R b c → R a c) (hdr : ∀ a, R a a.drew) (hst : ∀ s ∈ specs, ∀ W W' v, R W W' → s.ok W v → s.ok W' v)
    (h : freeSteps P l R w Q 0 specs l a []) : (Code.region id l.toArray true).wp P Q a w := by
  refine wp_region_any hm ?_
  have hget : ∀ i : Nat, (Array.replicate l.toArray.size false).getD i false = false := by
    intro i
    rw [Array.getD_eq_getD_getElem?, Array.getElem?_replicate]
    split <;> rfl
  refine free_any rfl hk hd hs hns hf hQ hy (okFree_spec hok) hrf htr hst h _ _ _ _ ?_ ⟨by simp, hdr w, rfl, rfl, ?_, ?_, ?_, ?_⟩
  · unfold left
    refine Nat.le_trans (List.length_filter_le _ _) ?_
    simp
  · intro i o hi
    rw [hget] at hi; cases hi
  · intro t _; rfl
  · intro j o d s hj
    rw [hget] at hj; cases hj
  · intro j _
    exact hget j
end
end Go.Proofs.Ytpmfohhpaoagfaa.Late
namespace Go.Proofs.Ytpmfohhpaoagfaa
open Go Go.RowKit Go.Proofs
theorem st_anyM {ss : List FSpec} (oa ob oc od : Option Rat) (h : StableAll Ext ss) : StableAll Ext (.pred (fun W v => AnyM W v oa ob oc od) :: ss) := ⟨fun _ _ _ e h => AnyM.ext h e, h⟩
theorem nf_small (x : Rat) (h : x.num.natAbs < 4294967296) (h' : x.den < 4294967296) : nf x ≤ 2048 := by
  unfold nf
  exact Nat.max_le.2 ⟨Nat.le_trans (nl_small h) (by decide), Nat.le_trans (nl_small (by rw [Int.natAbs_natCast]; exact h')) (by decide)⟩
theorem fine_small {a b c d : Rat} (ha : nf a ≤ 2048) (hb : nf b ≤ 2048) (hc : nf c ≤ 2048) (hd : nf d ≤ 2048) : fine4 a b c d = true := by
  unfold fine4
  simp [ha, hb, hc, hd]
theorem lives_u : chebU 3 2 = 56 := by kernel_rfl
theorem lives_t : chebT 3 2 = 26 := by kernel_rfl
theorem lives_a : pwA 3 2 1 = 13 := by kernel_rfl
theorem lives_b : pwX 3 2 1 1 = 8 := by kernel_rfl
theorem lives_d : pwA 3 1 2 = 5 := by kernel_rfl
theorem lives_fine : fine4 13 8 8 5 = true := fine_small (nf_small _ (of_decide_eq_true (by kernel_rfl)) (of_decide_eq_true (by kernel_rfl))) (nf_small _ (of_decide_eq_true (by kernel_rfl)) (of_decide_eq_true (by kernel_rfl))) (nf_small _ (of_decide_eq_true (by kernel_rfl)) (of_decide_eq_true (by kernel_rfl))) (nf_small _ (of_decide_eq_true (by kernel_rfl)) (of_decide_eq_true (by kernel_rfl)))
theorem lives_cheb (w : World) (v : Value) (h : AnyF w v (some (Rat.divInt 2 1))) :
    Calls Try.prog 11 #[.int .i64 3, v] w fun e w' => ∃ u t, e = .returned (.tuple #[u, t, .int .i64 0]) ∧ Ext w w' ∧ AnyF w' u (some 56) ∧ AnyF w' t (some 26) := by
  have h2 := cheb_fine 3 2 v w h (by omega)
  have hn : nf (56 : Rat) ≤ 2048 ∧ nf (26 : Rat) ≤ 2048 := ⟨nf_small _ (of_decide_eq_true (by kernel_rfl)) (of_decide_eq_true (by kernel_rfl)), nf_small _ (of_decide_eq_true (by kernel_rfl)) (of_decide_eq_true (by kernel_rfl))⟩
  unfold chebE chebOU chebOT at h2
  rw [lives_u, lives_t, if_pos hn, if_pos hn, if_pos hn] at h2
  exact h2
theorem lives_power (w : World) (v : Value) (h : AnyM w v (some (Rat.divInt 2 1)) (some (Rat.divInt 1 1)) (some (Rat.divInt 1 1)) (some (Rat.divInt 1 1))) :
    Calls Try.prog 16 #[v, .int .i64 3] w fun e w' => ∃ p, e = .returned (.tuple #[p, .int .i64 0]) ∧ Ext w w' ∧ AnyM w' p (some 13) (some 8) (some 8) (some 5) := by
  have h2 := power_fine 3 v 2 1 1 1 w h (by kernel_rfl) (by omega)
  unfold powE powOA powOB powOC powOD fineE fineO at h2
  rw [lives_a, lives_b, lives_d, lives_fine] at h2
  exact h2
theorem lives_order (w : World) (v : Value) (h : AnyM w v (some (Rat.divInt 0 1)) (some (Rat.divInt 1 1)) (some (Rat.divInt (-1) 1)) (some (Rat.divInt 0 1))) :
    Calls Try.prog 18 #[v] w fun e w' => e = .returned (.tuple #[.int .i64 4, .int .i64 0]) ∧ Ext w w' := by
  have h2 := order_c v _ _ _ _ w h
  have e1 : ordO (some (Rat.divInt 0 1)) (some (Rat.divInt 1 1)) (some (Rat.divInt (-1) 1)) (some (Rat.divInt 0 1)) = 4 := by kernel_rfl
  have e2 : ordE (some (Rat.divInt 0 1)) (some (Rat.divInt 1 1)) (some (Rat.divInt (-1) 1)) (some (Rat.divInt 0 1)) = 0 := by kernel_rfl
  rw [e1, e2] at h2
  exact h2
set_option maxRecDepth 100000 in
set_option maxHeartbeats 3200000 in
theorem lives_c (w : World) : Calls Try.prog 10 #[] w fun e w' => e = .returned (.bool true) ∧ Ext w w' := by
  have q1 := mkHid (fun w => whole_f 2 1 w (by omega) (by omega) (by omega) (by omega) (by omega))
  have q2 := mkHid (fun w v h => lives_cheb w v h)
  have q3 := mkHid (fun w => matrix_f 2 1 1 1 w (by omega) (by omega) (by omega) (by omega) (by omega) (by omega) (by omega) (by omega))
  have q4 := mkHid (fun w v h => lives_power w v h)
  have q5 := mkHid (fun w => matrix_f 0 1 (-1) 0 w (by omega) (by omega) (by omega) (by omega) (by omega) (by omega) (by omega) (by omega))
  have q6 := mkHid (fun w v h => lives_order w v h)
  go_enter Try.func10, Try.ntmps10
  go_wp2_with fail
  refine (q1.out _).mono ?_
  rintro e w1 ⟨v1, rfl, hE1, hv1⟩
  have hE := mkHid hE1
  replace hv1 := mkHid hv1
  clear hE1 q1
  go_wp2_with fail
  refine (q2.out w1 _ hv1.out).mono ?_
  rintro e w2 ⟨u, t, rfl, hE2, hu, ht⟩
  replace hE := mkHid (hE.out.trans hE2)
  clear hE2 hv1 q2
  obtain ⟨A1, A2, A3, A4, A5, A6, A7, A8, rfl⟩ := hu.shape
  obtain ⟨B1, B2, B3, B4, B5, B6, B7, B8, rfl⟩ := ht.shape
  have hx := ((Ext.refl w2).al (.cells #[.bool A1, .slice A2 A3 A4, .bool A5, .slice A6 A7 A8] 26)).al (.cells #[.bool B1, .slice B2 B3 B4, .bool B5, .slice B6 B7 B8] 26)
  have zu := (heap_alloc_old (w2.alloc (.cells #[.bool A1, .slice A2 A3 A4, .bool A5, .slice A6 A7 A8] 26)) (.cells #[.bool B1, .slice B2 B3 B4, .bool B5, .slice B6 B7 B8] 26) (r := w2.heap.size) (by simp)).trans (heap_alloc_new _ _)
  have zt := heap_at (w2.alloc (.cells #[.bool A1, .slice A2 A3 A4, .bool A5, .slice A6 A7 A8] 26)) (.cells #[.bool B1, .slice B2 B3 B4, .bool B5, .slice B6 B7 B8] 26) (w2.heap.size + 1) (by simp)
  replace hu := hu.ext hx
  replace ht := ht.ext hx
  replace hE := hE.out.trans hx
  clear hx
  obtain ⟨w3, hw3⟩ : ∃ w3, w3 = (w2.alloc (.cells #[.bool A1, .slice A2 A3 A4, .bool A5, .slice A6 A7 A8] 26)).alloc (.cells #[.bool B1, .slice B2 B3 B4, .bool B5, .slice B6 B7 B8] 26) := ⟨_, rfl⟩
  rw [← hw3] at hu ht hE zu zt
  obtain ⟨gu, hgu⟩ : ∃ gu, gu = w2.heap.size := ⟨_, rfl⟩
  rw [← hgu] at zu zt
  replace hu := mkHid hu
  replace ht := mkHid ht
  replace hE := mkHid hE
  replace zu := mkHid zu
  replace zt := mkHid zt
  replace hw3 := mkHid hw3
  go_wp2_with fail
  rw [← hgu, ← hw3.out]
  clear hw3 hgu
  refine (q3.out w3).mono ?_
  rintro e w4 ⟨v4, rfl, hE4, hv4⟩
  replace hE := mkHid (hE.out.trans hE4)
  have hX := mkHid hE4
  replace hv4 := mkHid hv4
  clear hE4 q3
  go_wp2_with fail
  refine (q4.out w4 _ hv4.out).mono ?_
  rintro e w5 ⟨p, rfl, hE5, hp⟩
  replace hE := mkHid (hE.out.trans hE5)
  replace hX := mkHid (hX.out.trans hE5)
  clear hE5 hv4 q4
  have hp' := hp
  obtain ⟨P1, P2, P3, P4, P5, P6, P7, P8, Q1, Q2, Q3, Q4, Q5, Q6, Q7, Q8, S1, S2, S3, S4, S5, S6, S7, S8, T1, T2, T3, T4, T5, T6, T7, T8, rfl, -⟩ := hp'
  have hx := (Ext.refl w5).al (.cells #[.bool P1, .slice P2 P3 P4, .bool P5, .slice P6 P7 P8, .bool Q1, .slice Q2 Q3 Q4, .bool Q5, .slice Q6 Q7 Q8, .bool S1, .slice S2 S3 S4, .bool S5, .slice S6 S7 S8, .bool T1, .slice T2 T3 T4, .bool T5, .slice T6 T7 T8] 40)
  have zp := heap_alloc_new w5 (.cells #[.bool P1, .slice P2 P3 P4, .bool P5, .slice P6 P7 P8, .bool Q1, .slice Q2 Q3 Q4, .bool Q5, .slice Q6 Q7 Q8, .bool S1, .slice S2 S3 S4, .bool S5, .slice S6 S7 S8, .bool T1, .slice T2 T3 T4, .bool T5, .slice T6 T7 T8] 40)
  replace hp := hp.ext hx
  replace hE := hE.out.trans hx
  replace hX := hX.out.trans hx
  clear hx
  obtain ⟨w6, hw6⟩ : ∃ w6, w6 = w5.alloc (.cells #[.bool P1, .slice P2 P3 P4, .bool P5, .slice P6 P7 P8, .bool Q1, .slice Q2 Q3 Q4, .bool Q5, .slice Q6 Q7 Q8, .bool S1, .slice S2 S3 S4, .bool S5, .slice S6 S7 S8, .bool T1, .slice T2 T3 T4, .bool T5, .slice T6 T7 T8] 40) := ⟨_, rfl⟩
  rw [← hw6] at hp hE hX zp
  obtain ⟨gp, hgp⟩ : ∃ gp, gp = w5.heap.size := ⟨_, rfl⟩
  rw [← hgp] at zp
  replace hp := mkHid hp
  replace hE := mkHid hE
  replace hX := mkHid hX
  replace zp := mkHid zp
  replace hw6 := mkHid hw6
  go_wp2_with fail
  rw [← hgp, ← hw6.out]
  clear hw6 hgp
  refine (q5.out w6).mono ?_
  rintro e w7 ⟨v7, rfl, hE7, hv7⟩
  replace hv7 := mkHid hv7
  have hY := mkHid hE7
  clear hE7
  go_wp2_with fail
  refine (q6.out w7 _ hv7.out).mono ?_
  rintro e w8 ⟨rfl, hE8⟩
  replace hY := mkHid (hY.out.trans hE8)
  replace hX := mkHid (hX.out.trans hY.out)
  replace hE := mkHid (hE.out.trans hY.out)
  clear hE8 hv7 q6
  have zu8 := mkHid (hX.out.blk zu.out)
  have zt8 := mkHid (hX.out.blk zt.out)
  have zp8 := mkHid (hY.out.blk zp.out)
  replace hu := mkHid (hu.out.ext hX.out)
  replace ht := mkHid (ht.out.ext hX.out)
  replace hp := mkHid (hp.out.ext hY.out)
  clear zu zt zp hX hY q5
  go_wp2_with fail
  have m1 := mkHid (fun w => whole_f 56 1 w (by omega) (by omega) (by omega) (by omega) (by omega))
  have m2 := mkHid (fun w => whole_f 26 1 w (by omega) (by omega) (by omega) (by omega) (by omega))
  have m3 := mkHid (fun w => matrix_f 13 8 8 5 w (by omega) (by omega) (by omega) (by omega) (by omega) (by omega) (by omega) (by omega))
  rw [show Rat.divInt 56 1 = 56 by kernel_rfl] at m1
  rw [show Rat.divInt 26 1 = 26 by kernel_rfl] at m2
  rw [show Rat.divInt 13 1 = 13 by kernel_rfl, show Rat.divInt 8 1 = 8 by kernel_rfl, show Rat.divInt 5 1 = 5 by kernel_rfl] at m3
  have s1 := mkHid (fun w v1 v2 h1 h2 => sameFrac_f v1 v2 56 56 w h1 h2)
  have s2 := mkHid (fun w v1 v2 h1 h2 => sameFrac_f v1 v2 26 26 w h1 h2)
  have s3 := mkHid (fun w v1 v2 h1 h2 => sameMatrix_f v1 v2 13 8 8 5 13 8 8 5 w h1 h2)
  rw [decide_eq_true (rfl : (56 : Rat) = 56)] at s1
  rw [decide_eq_true (rfl : (26 : Rat) = 26)] at s2
  rw [decide_eq_true (show (13 : Rat) = 13 ∧ (8 : Rat) = 8 ∧ (8 : Rat) = 8 ∧ (5 : Rat) = 5 from ⟨rfl, rfl, rfl, rfl⟩)] at s3
  have u0 : ∀ W, Ext w8 W → W.cell? ⟨gu, 0, none⟩ = some (.bool A1) := fun W e => by simp [World.cell?, e.blk zu8.out]
  have u1 : ∀ W, Ext w8 W → W.cell? ⟨gu, 1, none⟩ = some (.slice A2 A3 A4) := fun W e => by simp [World.cell?, e.blk zu8.out]
  have u2 : ∀ W, Ext w8 W → W.cell? ⟨gu, 2, none⟩ = some (.bool A5) := fun W e => by simp [World.cell?, e.blk zu8.out]
  have u3 : ∀ W, Ext w8 W → W.cell? ⟨gu, 3, none⟩ = some (.slice A6 A7 A8) := fun W e => by simp [World.cell?, e.blk zu8.out]
  have t0 : ∀ W, Ext w8 W → W.cell? ⟨gu + 1, 0, none⟩ = some (.bool B1) := fun W e => by simp [World.cell?, e.blk zt8.out]
  have t1 : ∀ W, Ext w8 W → W.cell? ⟨gu + 1, 1, none⟩ = some (.slice B2 B3 B4) := fun W e => by simp [World.cell?, e.blk zt8.out]
  have t2 : ∀ W, Ext w8 W → W.cell? ⟨gu + 1, 2, none⟩ = some (.bool B5) := fun W e => by simp [World.cell?, e.blk zt8.out]
  have t3 : ∀ W, Ext w8 W → W.cell? ⟨gu + 1, 3, none⟩ = some (.slice B6 B7 B8) := fun W e => by simp [World.cell?, e.blk zt8.out]
  have p0 : ∀ W, Ext w8 W → W.cell? ⟨gp, 0, none⟩ = some (.bool P1) := fun W e => by simp [World.cell?, e.blk zp8.out]
  have p1 : ∀ W, Ext w8 W → W.cell? ⟨gp, 1, none⟩ = some (.slice P2 P3 P4) := fun W e => by simp [World.cell?, e.blk zp8.out]
  have p2 : ∀ W, Ext w8 W → W.cell? ⟨gp, 2, none⟩ = some (.bool P5) := fun W e => by simp [World.cell?, e.blk zp8.out]
  have p3 : ∀ W, Ext w8 W → W.cell? ⟨gp, 3, none⟩ = some (.slice P6 P7 P8) := fun W e => by simp [World.cell?, e.blk zp8.out]
  have p4 : ∀ W, Ext w8 W → W.cell? ⟨gp, 4, none⟩ = some (.bool Q1) := fun W e => by simp [World.cell?, e.blk zp8.out]
  have p5 : ∀ W, Ext w8 W → W.cell? ⟨gp, 5, none⟩ = some (.slice Q2 Q3 Q4) := fun W e => by simp [World.cell?, e.blk zp8.out]
  have p6 : ∀ W, Ext w8 W → W.cell? ⟨gp, 6, none⟩ = some (.bool Q5) := fun W e => by simp [World.cell?, e.blk zp8.out]
  have p7 : ∀ W, Ext w8 W → W.cell? ⟨gp, 7, none⟩ = some (.slice Q6 Q7 Q8) := fun W e => by simp [World.cell?, e.blk zp8.out]
  have p8 : ∀ W, Ext w8 W → W.cell? ⟨gp, 8, none⟩ = some (.bool S1) := fun W e => by simp [World.cell?, e.blk zp8.out]
  have p9 : ∀ W, Ext w8 W → W.cell? ⟨gp, 9, none⟩ = some (.slice S2 S3 S4) := fun W e => by simp [World.cell?, e.blk zp8.out]
  have p10 : ∀ W, Ext w8 W → W.cell? ⟨gp, 10, none⟩ = some (.bool S5) := fun W e => by simp [World.cell?, e.blk zp8.out]
  have p11 : ∀ W, Ext w8 W → W.cell? ⟨gp, 11, none⟩ = some (.slice S6 S7 S8) := fun W e => by simp [World.cell?, e.blk zp8.out]
  have p12 : ∀ W, Ext w8 W → W.cell? ⟨gp, 12, none⟩ = some (.bool T1) := fun W e => by simp [World.cell?, e.blk zp8.out]
  have p13 : ∀ W, Ext w8 W → W.cell? ⟨gp, 13, none⟩ = some (.slice T2 T3 T4) := fun W e => by simp [World.cell?, e.blk zp8.out]
  have p14 : ∀ W, Ext w8 W → W.cell? ⟨gp, 14, none⟩ = some (.bool T5) := fun W e => by simp [World.cell?, e.blk zp8.out]
  have p15 : ∀ W, Ext w8 W → W.cell? ⟨gp, 15, none⟩ = some (.slice T6 T7 T8) := fun W e => by simp [World.cell?, e.blk zp8.out]
  apply region_ext [.val _, .val _, .val _, .val _, .val _, .val _, .val _, .val _, .val _, .val _, .val _, .val _, .val _, .val _, .val _, .val _, .pred (fun W v => AnyF W v (some 56)), .val _, .val _, .val _, .val _, .pred (fun W v => AnyF W v (some 26)), .val _, .val _, .val _, .val _, .pred (fun W v => AnyM W v (some 13) (some 8) (some 8) (some 5)), .val _, .val _] (by kernel_rfl) (stable_vals _ (stable_vals _ (stable_vals _ (stable_vals _ (stable_vals _ (stable_vals _ (stable_vals _ (stable_vals _ (stable_vals _ (stable_vals _ (stable_vals _ (stable_vals _ (stable_vals _ (stable_vals _ (stable_vals _ (stable_vals _ (st_any _ (stable_vals _ (stable_vals _ (stable_vals _ (stable_vals _ (st_any _ (stable_vals _ (stable_vals _ (stable_vals _ (stable_vals _ (st_anyM _ _ _ _ (stable_vals _ (stable_vals _ trivial)))))))))))))))))))))))))))))
  iterate 16 (refine ⟨fun W hW _ => by go_simp; first | exact ⟨Ext.refl _, rfl⟩ | rfl, ?_⟩)
  refine ⟨fun W hW _ => ?a16, fun x16 => ⟨fun W hW hF => ?a17, ?_⟩⟩
  case a16 =>
    go_simp
    refine (m1.out W).mono ?_
    rintro e w' ⟨v, rfl, e1, e2⟩
    exact ⟨v, rfl, e1, e2⟩
  case a17 =>
    have dd : AnyF W x16 (some 56) := hF.1 (by kernel_rfl)
    replace dd := mkHid dd
    clear hF
    go_simp
    refine (s1.out W _ _ (hu.out.ext hW) dd.out).mono ?_
    rintro e w' ⟨rfl, e1⟩
    exact ⟨rfl, e1⟩
  iterate 3 (refine ⟨fun W hW _ => by go_simp; first | exact ⟨Ext.refl _, rfl⟩ | rfl, ?_⟩)
  refine ⟨fun W hW _ => ?a21, fun x21 => ⟨fun W hW hF => ?a22, ?_⟩⟩
  case a21 =>
    go_simp
    refine (m2.out W).mono ?_
    rintro e w' ⟨v, rfl, e1, e2⟩
    exact ⟨v, rfl, e1, e2⟩
  case a22 =>
    have dd : AnyF W x21 (some 26) := hF.1 (by kernel_rfl)
    replace dd := mkHid dd
    clear hF
    go_simp
    refine (s2.out W _ _ (ht.out.ext hW) dd.out).mono ?_
    rintro e w' ⟨rfl, e1⟩
    exact ⟨rfl, e1⟩
  iterate 3 (refine ⟨fun W hW _ => by go_simp; first | exact ⟨Ext.refl _, rfl⟩ | rfl, ?_⟩)
  refine ⟨fun W hW _ => ?a26, fun x26 => ⟨fun W hW hF => ?a27, ?_⟩⟩
  case a26 =>
    go_simp
    refine (m3.out W).mono ?_
    rintro e w' ⟨v, rfl, e1, e2⟩
    exact ⟨v, rfl, e1, e2⟩
  case a27 =>
    have dd : AnyM W x26 (some 13) (some 8) (some 8) (some 5) := hF.1 (by kernel_rfl)
    replace dd := mkHid dd
    clear hF
    go_simp
    refine (s3.out W _ _ (hp.out.ext hW) dd.out).mono ?_
    rintro e w' ⟨rfl, e1⟩
    exact ⟨rfl, e1⟩
  refine ⟨fun W hW _ => by go_simp; first | exact ⟨Ext.refl _, rfl⟩ | rfl, ?_⟩
  intro W hW _
  replace hE := mkHid (hE.out.trans hW)
  clear hW u0 u1 u2 u3 t0 t1 t2 t3 p0 p1 p2 p3 p4 p5 p6 p7 p8 p9 p10 p11 p12 p13 p14 p15
  go_simp
  go_wp2_with fail
  go_ret
  exact ⟨rfl, hE.out⟩
end Go.Proofs.Ytpmfohhpaoagfaa
