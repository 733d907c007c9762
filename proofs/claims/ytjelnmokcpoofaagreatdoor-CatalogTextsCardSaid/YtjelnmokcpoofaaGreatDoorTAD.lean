/-
  As Free, but an operation may be told to give a new variable: new variables lie apart. No program. Regions that make several variables: no function. exact: Common. exact: Check, of whatever limbs. exact: Long. ratio: turned, and what a fraction in memory is. ratio: Lowest. ratio: Times, Plus, Minus, Cmp, Turned, Copy: printed by tools/gen_ratio.py. ratio: Turned, Copy: printed by tools/gen_ratio.py. ratio: Small, One, Nought, Sign, Check. polestarref01: trim, signed, cmp.
-/
import Derived.Test.YtjelnmokcpoofaaGreatDoorTAC
import Derived.Test.YtjelnmokcpoofaaGreatDoorTAA
import Derived.Deep.LoopGhost
import Derived.LoopN
namespace Go.Proofs.YtjelnmokcpoofaaGreatDoor.Fresh
set_option maxRecDepth 100000
open Go Go.RowKit Go.Proofs
inductive FSpec where
 | val (c : Value)
 | pred (Φ : World → Value → Prop)
 | fresh (Φ : World → Value → Prop)
def FSpec.ok : FSpec → World → Value → Prop
 | .val c, _, v => v = c
 | .pred Φ, W, v => Φ W v
 | .fresh Φ, W, v => Φ W v ∧ ∃ g, v = .pointer (some ⟨g, 0, none⟩) ∧ g < W.heap.size
def FSpec.isFresh : FSpec → Bool
 | .fresh _ => true
 | _ => false
def givesV (P : Program) (S : World → Value → Prop) : Result Next → Prop
 | .ok (.value v) w => S w v
 | .ok .skip w => S w undef
 | .ok (.enter f args) w => Calls P f args w fun e w' => ∃ v, e = .returned v ∧ S w' v
 | _ => False
@[go_sem] theorem givesV_value (P : Program) (S : World → Value → Prop) (v : Value) (w : World) : givesV P S (.ok (.value v) w) = S w v := rfl
@[go_sem] theorem givesV_skip (P : Program) (S : World → Value → Prop) (w : World) : givesV P S (.ok .skip w) = S w undef := rfl
@[go_sem] theorem givesV_enter (P : Program) (S : World → Value → Prop) (f : FuncId) (args : Array Value) (w : World) : givesV P S (.ok (.enter f args) w) = Calls P f args w fun e w' => ∃ v, e = .returned v ∧ S w' v := rfl
theorem upon_of_gives {P : Program} {S : World → Value → Prop} {o : Oper} {a : Act} {K : Act → World → Prop} {Q : Exit → Act → World → Prop} {r : Result Next}
  (h : givesV P S r) (hK : ∀ w v, S w v → K (a.put o.dst v) w) : o.upon P a K Q r := by
 unfold givesV at h
 split at h
 ·exact hK _ _ h
 ·exact hK _ _ h
 ·refine Calls.mono h fun e w' he => ?_
  obtain ⟨v, rfl, hs⟩ := he
  exact hK _ _ hs
 ·exact h.elim
def leans (l : List Oper) (o : Oper) (j : Nat) : Bool :=
 match (l[j]?).bind (·.dst) with
 | some d => (o.looksAt l.toArray).contains d
 | none => false
def factsHold (sel : Nat → Bool) (W : World) : List (Nat × FSpec × Value) → Prop
 | [] => True
 | p :: F => (sel p.1 = true → p.2.1.ok W p.2.2) ∧ factsHold sel W F
theorem factsHold_of {sel : Nat → Bool} {W : World} : ∀ {F : List (Nat × FSpec × Value)}, (∀ p ∈ F, sel p.1 = true → p.2.1.ok W p.2.2) → factsHold sel W F
 | [], _ => trivial
 | p :: _, h => ⟨h p (List.mem_cons_self ..), factsHold_of fun q hq => h q (List.mem_cons_of_mem _ hq)⟩
def freeSteps (P : Program) (l0 : List Oper) (R : World → World → Prop) (w0 : World) (Q : Exit → Act → World → Prop) : Nat → List FSpec → List Oper → Act → List (Nat × FSpec × Value) → Prop
 | _, [], l, a, F => ∀ W, R w0 W → factsHold (fun _ => true) W F → (∀ p q, p ∈ F → q ∈ F → p.2.1.isFresh = true → q.2.1.isFresh = true → p.1 ≠ q.1 → p.2.2 ≠ q.2.2) → wpList P l0.toArray Q l a W
 | _, _ :: _, [], _, _ => False
 | k, .val c :: ss, o :: l, a, F =>
  (∀ W, R w0 W → factsHold (leans l0 o) W F → if Region.wanted o (yielded l0.toArray a.tmps) then givesV P (fun W' v => R W W' ∧ v = c) ((execOp a.eval o).run P W) else undef = c) ∧
   freeSteps P l0 R w0 Q (k + 1) ss l (a.put o.dst c) F
 | k, .pred Φ :: ss, o :: l, a, F =>
  (∀ W, R w0 W → factsHold (leans l0 o) W F → if Region.wanted o (yielded l0.toArray a.tmps) then givesV P (fun W' v => R W W' ∧ Φ W' v) ((execOp a.eval o).run P W) else Φ W undef) ∧
   ∀ v, freeSteps P l0 R w0 Q (k + 1) ss l (a.put o.dst v) ((k, .pred Φ, v) :: F)
 | k, .fresh Φ :: ss, o :: l, a, F =>
  (∀ W, R w0 W → factsHold (leans l0 o) W F → if Region.wanted o (yielded l0.toArray a.tmps) then givesV P (fun W' v => R W W' ∧ Φ W' v ∧ ∃ g, v = .pointer (some ⟨g, 0, none⟩) ∧ W.heap.size ≤ g ∧ g < W'.heap.size) ((execOp a.eval o).run P W) else False) ∧
   ∀ v, freeSteps P l0 R w0 Q (k + 1) ss l (a.put o.dst v) ((k, .fresh Φ, v) :: F)
def hasEdge (o : Oper) (j : Nat) : Bool := o.after.toList.any fun e => Region.binds .any e && e.on == j
def ancB (l : List Oper) : Nat → Oper → Nat → Bool
 | 0, o, j => hasEdge o j
 | f + 1, o, j => hasEdge o j || o.after.toList.any fun e => Region.binds .any e && (match l[e.on]? with | some o' => ancB l f o' j | none => false)
def okOper (l : List Oper) (n i : Nat) (o : Oper) : Bool :=
 (o.after.toList.all fun e => !Region.binds .any e || decide (e.on < i)) &&
 (if i < n then
  o.dst.isSome && (List.range l.length).all fun j => match l[j]? with
   | some oj => (match oj.dst with
    | some d => (!(o.looksAt l.toArray).contains d || (decide (j < i) && hasEdge o j)) && (j == i || o.dst != some d)
    | none => true)
   | none => true
 else (List.range i).all fun j => ancB l 16 o j)
def okFree (n size : Nat) (l : List Oper) : Bool :=
 Region.noSelect l.toArray && decide (n ≤ l.length) && (l.all fun o => match o.dst with | some d => decide (d < size) | none => true) &&
  (List.range l.length).all fun i => match l[i]? with | some o => okOper l n i o | none => true
section
variable {P : Program} {l0 : List Oper} {R : World → World → Prop} {w0 : World} {Q : Exit → Act → World → Prop}
def frameAt (a0 : Act) (l : List Oper) (vs : Nat → Value) : Nat → Act
 | 0 => a0
 | k + 1 => match l[k]? with
  | some o => (frameAt a0 l vs k).put o.dst (vs k)
  | none => frameAt a0 l vs k
def factsAt (specs : List FSpec) (vs : Nat → Value) : Nat → List (Nat × FSpec × Value)
 | 0 => []
 | k + 1 => match specs[k]? with
  | some (.pred Φ) => (k, .pred Φ, vs k) :: factsAt specs vs k
  | some (.fresh Φ) => (k, .fresh Φ, vs k) :: factsAt specs vs k
  | _ => factsAt specs vs k
def fits (specs : List FSpec) (vs : Nat → Value) : Prop := ∀ k c, specs[k]? = some (.val c) → vs k = c
theorem steps_at {specs : List FSpec} {a0 : Act} (h : freeSteps P l0 R w0 Q 0 specs l0 a0 []) (vs : Nat → Value) (hv : fits specs vs) :
  ∀ k, k ≤ specs.length → freeSteps P l0 R w0 Q k (specs.drop k) (l0.drop k) (frameAt a0 l0 vs k) (factsAt specs vs k) := by
 intro k
 induction k with
 | zero => intro _; simpa [frameAt, factsAt] using h
 | succ k ih =>
  intro hk
  have ih := ih (by omega)
  rw [List.drop_eq_getElem_cons (show k < specs.length by omega)] at ih
  have hs : specs[k]? = some specs[k] := List.getElem?_eq_getElem (by omega)
  by_cases hl : k < l0.length
  ·rw [List.drop_eq_getElem_cons hl] at ih
   have ho : l0[k]? = some l0[k] := List.getElem?_eq_getElem hl
   generalize hsp : specs[k] = s at ih hs
   cases s with
   | val c =>
    have hc := hv k c hs
    simp only [freeSteps] at ih
    simp only [frameAt, ho, factsAt, hs, hc]
    exact ih.2
   | pred Φ =>
    simp only [freeSteps] at ih
    simp only [frameAt, ho, factsAt, hs]
    exact ih.2 (vs k)
   | fresh Φ =>
    simp only [freeSteps] at ih
    simp only [frameAt, ho, factsAt, hs]
    exact ih.2 (vs k)
  ·rw [List.drop_eq_nil_of_le (show l0.length ≤ k by omega)] at ih
   simp [freeSteps] at ih
theorem frameAt_defers (a0 : Act) (l : List Oper) (vs : Nat → Value) (k : Nat) : (frameAt a0 l vs k).defers = a0.defers := by
 induction k with
 | zero => rfl
 | succ k ih =>
  simp only [frameAt]
  split
  ·rename_i o _
   cases h : o.dst <;> simp [Act.put, ih]
  ·exact ih
theorem frameAt_size (a0 : Act) (l : List Oper) (vs : Nat → Value) (k : Nat) : (frameAt a0 l vs k).tmps.size = a0.tmps.size := by
 induction k with
 | zero => rfl
 | succ k ih =>
  simp only [frameAt]
  split
  ·rename_i o _
   cases h : o.dst <;> simp [Act.put, ih]
  ·exact ih
theorem frameAt_other (a0 : Act) (l : List Oper) (vs : Nat → Value) (k t : Nat) (h : ∀ j o, j < k → l[j]? = some o → o.dst ≠ some t) :
  (frameAt a0 l vs k).tmps[t]? = a0.tmps[t]? := by
 induction k with
 | zero => rfl
 | succ k ih =>
  have ih := ih fun j o hj => h j o (by omega)
  simp only [frameAt]
  split
  ·rename_i o ho
   have := h k o (by omega) ho
   cases hd : o.dst with
   | none => simpa [Act.put, hd] using ih
   | some d =>
    have hne : d ≠ t := fun e => this (by rw [hd, e])
    simp only [Act.put, Array.getElem?_setIfInBounds_ne hne]
    exact ih
  ·exact ih
theorem frameAt_own (a0 : Act) (l : List Oper) (vs : Nat → Value) (k t j : Nat) (o : Oper) (hj : j < k) (ho : l[j]? = some o) (hd : o.dst = some t) (ht : t < a0.tmps.size)
  (h : ∀ i o', i ≠ j → l[i]? = some o' → o'.dst ≠ some t) : (frameAt a0 l vs k).tmps[t]? = some (vs j) := by
 induction k with
 | zero => omega
 | succ k ih =>
  simp only [frameAt]
  by_cases hjk : j = k
  ·subst hjk
   rw [ho]
   simp only [Act.put, hd]
   rw [Array.getElem?_setIfInBounds_self_of_lt (by rw [frameAt_size]; exact ht)]
  ·have ih := ih (by omega)
   split
   ·rename_i o' ho'
    have := h k o' (fun e => hjk e.symm) ho'
    cases hd' : o'.dst with
    | none => simpa [Act.put, hd'] using ih
    | some d =>
     have hne : d ≠ t := fun e => this (by rw [hd', e])
     simp only [Act.put, Array.getElem?_setIfInBounds_ne hne]
     exact ih
   ·exact ih
theorem mem_factsAt {specs : List FSpec} {vs : Nat → Value} {k : Nat} {p : Nat × FSpec × Value} (h : p ∈ factsAt specs vs k) : p.1 < k ∧ specs[p.1]? = some p.2.1 ∧ p.2.2 = vs p.1 := by
 induction k with
 | zero => simp [factsAt] at h
 | succ k ih =>
  simp only [factsAt] at h
  split at h
  ·rename_i Φ hs
   rcases List.mem_cons.1 h with h | h
   ·subst h
    exact ⟨by simp, hs, rfl⟩
   ·have := ih h
    exact ⟨by omega, this.2⟩
  ·rename_i Φ hs
   rcases List.mem_cons.1 h with h | h
   ·subst h
    exact ⟨by simp, hs, rfl⟩
   ·have := ih h
    exact ⟨by omega, this.2⟩
  ·have := ih h
   exact ⟨by omega, this.2⟩
theorem filter_le {p q : Nat → Bool} : ∀ (l : List Nat), (∀ x ∈ l, q x = true → p x = true) → (l.filter q).length ≤ (l.filter p).length
 | [], _ => nR _
 | x :: l, h => by
  have ih := filter_le l fun y hy => h y (List.mem_cons_of_mem _ hy)
  by_cases hq : q x = true
  ·simp [hq, h x (List.mem_cons_self ..) hq, ih]
  ·by_cases hp : p x = true
   ·simp [hq, hp]; omega
   ·simp [hq, hp, ih]
theorem filter_lt {p q : Nat → Bool} {i : Nat} : ∀ (l : List Nat), (∀ x ∈ l, q x = true → p x = true) → i ∈ l → p i = true → q i = false → (l.filter q).length < (l.filter p).length
 | x :: l, h, hi, hp, hq => by
  have hl := filter_le l fun y hy => h y (List.mem_cons_of_mem _ hy)
  by_cases hx : x = i
  ·subst hx
   simp [hp, hq]
   omega
  ·have hi' : i ∈ l := by
    rcases List.mem_cons.1 hi with e | e
    ·exact absurd e.symm hx
    ·exact e
   have ih := filter_lt l (fun y hy => h y (List.mem_cons_of_mem _ hy)) hi' hp hq
   by_cases hqx : q x = true
   ·simp [hqx, h x (List.mem_cons_self ..) hqx, ih]
   ·by_cases hpx : p x = true
    ·simp [hqx, hpx]; omega
    ·simp [hqx, hpx, ih]
def left (l : List Oper) (listed : Array Bool) : Nat := ((List.range l.length).filter fun i => !listed.getD i true).length
theorem left_set {l : List Oper} {listed : Array Bool} {i : Nat} (hi : i < l.length) (h : listed.getD i true = false) : left l (listed.setIfInBounds i true) < left l listed := by
 refine filter_lt _ (fun x _ hx => ?_) (List.mem_range.2 hi) (by simpa using h) ?_
 ·by_cases e : i = x
  ·subst e; simpa using h
  ·rwa [getD_set_ne true e] at hx
 ·have hlt : i < listed.size := by
   rcases Nat.lt_or_ge i listed.size with h' | h'
   ·exact h'
   ·simp [Array.getElem?_eq_none h'] at h
  simp [hlt]
theorem left_ge {l : List Oper} {listed : Array Bool} {n : Nat} (h : ∀ i, n ≤ i → i < l.length → listed.getD i true = false) : l.length - n ≤ left l listed := by
 unfold left
 generalize l.length = L at h
 induction L with
 | zero => simp
 | succ L ih =>
  have ih := ih fun i h1 h2 => h i h1 (by omega)
  rw [List.range_succ, List.filter_append, List.length_append]
  by_cases hn : n ≤ L
  ·have := h L hn (by omega)
   have e : ([L].filter fun i => !listed.getD i true) = [L] := List.filter_eq_self.2 fun x hx => by
    simp only [List.mem_singleton] at hx
    rw [hx, this]; rfl
   rw [e, List.length_singleton]
   omega
  ·omega
theorem lt_of_unlisted {listed : Array Bool} {i : Nat} (h : listed.getD i true = false) : i < listed.size := by
 rcases Nat.lt_or_ge i listed.size with h' | h'
 ·exact h'
 ·simp [Array.getElem?_eq_none h'] at h
theorem listed_cases {listed : Array Bool} {i : Nat} (h : i < listed.size) : listed.getD i false = true ∨ listed.getD i true = false := by
 simp [h]
theorem listed_anc {listed : Array Bool} (hcl : ∀ i o, listed.getD i false = true → l0[i]? = some o → ∀ e ∈ o.after, Region.binds .any e = true → listed.getD e.on false = true) :
  ∀ (f : Nat) (o : Oper) (j : Nat), (∀ e ∈ o.after, Region.binds .any e = true → listed.getD e.on false = true) → ancB l0 f o j = true → listed.getD j false = true := by
 have direct : ∀ (o : Oper) (j : Nat), (∀ e ∈ o.after, Region.binds .any e = true → listed.getD e.on false = true) → hasEdge o j = true → listed.getD j false = true := by
  intro o j h he
  simp only [hasEdge, List.any_eq_true, Bool.and_eq_true, beq_iff_eq] at he
  obtain ⟨e, hm, hb, rfl⟩ := he
  exact h e (Array.mem_toList_iff.1 hm) hb
 intro f
 induction f with
 | zero => intro o j h ha; exact direct o j h ha
 | succ f ih =>
  intro o j h ha
  simp only [ancB, Bool.or_eq_true] at ha
  rcases ha with ha | ha
  ·exact direct o j h ha
  ·simp only [List.any_eq_true, Bool.and_eq_true] at ha
   obtain ⟨e, hm, hb, ha⟩ := ha
   split at ha
   ·rename_i o' ho'
    exact ih o' j (hcl e.on o' (h e (Array.mem_toList_iff.1 hm) hb) ho') ha
   ·cases ha
theorem tail_forced {n : Nat} (htail : ∀ i o, n ≤ i → l0[i]? = some o → ∀ j, j < i → ancB l0 16 o j = true) :
  ∀ (k m : Nat) (listed : Array Bool) (a : Act) (W : World) (fuel : Nat), n ≤ m → m + k = l0.length → k ≤ fuel → listed.size = l0.length →
   (∀ i o, listed.getD i false = true → l0[i]? = some o → ∀ e ∈ o.after, Region.binds .any e = true → listed.getD e.on false = true) →
   (∀ i, i < l0.length → (listed.getD i false = true ↔ i < m)) →
   (∀ i o, l0[i]? = some o → ∀ e ∈ o.after, Region.binds .any e = true → e.on < i) →
   wpList P l0.toArray Q (l0.drop m) a W → wpAny P .any l0.toArray Q fuel listed a W := by
 intro k
 induction k with
 | zero =>
  intro m listed a W fuel _ hmk _ hsz _ hlst _ h
  have hr : Region.ready .any l0.toArray listed = [] := by
   cases hr : Region.ready .any l0.toArray listed with
   | nil => rfl
   | cons i r =>
    have := (mem_ready (md := .any) (ops := l0.toArray) (listed := listed) (j := i)).1 (by rw [hr]; simp)
    have hlt := lt_of_unlisted this.1
    have h2 := (hlst i (by omega)).2 (by omega)
    have h3 := this.1
    simp [hlt] at h2 h3
    rw [h2] at h3
    cases h3
  rw [List.drop_eq_nil_of_le (show l0.length ≤ m by omega)] at h
  exact wpAny_done hr h fuel
 | succ k ih =>
  intro m listed a W fuel hnm hmk hfuel hsz hcl hlst hed h
  obtain ⟨fuel, rfl⟩ : ∃ f, fuel = f + 1 := ⟨fuel - 1, by omega⟩
  have hml : m < l0.length := by omega
  have ho : l0[m]? = some l0[m] := List.getElem?_eq_getElem hml
  have hun : listed.getD m true = false := by
   rcases listed_cases (listed := listed) (i := m) (by omega) with h1 | h1
   ·have := (hlst m hml).1 h1; omega
   ·exact h1
  have hready : m ∈ Region.ready .any l0.toArray listed := by
   rw [mem_ready]
   exact ⟨hun, _, by simp [hml], fun e he hb => (hlst e.on (by have := hed m _ ho e he hb; omega)).2 (hed m _ ho e he hb)⟩
  refine ⟨fun h0 => absurd (h0 ▸ hready) (by simp), fun i hi => ?_⟩
  have him : i = m := by
   obtain ⟨h1, o, ho', hall⟩ := mem_ready.1 hi
   have hlt := lt_of_unlisted h1
   rcases Nat.lt_trichotomy i m with hlt' | he | hgt
   ·have h2 := (hlst i (by omega)).2 hlt'
    simp [hlt] at h1 h2
    rw [h2] at h1; cases h1
   ·exact he
   ·have ho'' : l0[i]? = some o := by simpa using ho'
    have := listed_anc hcl 16 o m hall (htail i o (by omega) ho'' m hgt)
    have := (hlst m hml).1 this
    omega
  subst him
  unfold wpOp
  simp only [List.getElem?_toArray, ho]
  rw [List.drop_eq_getElem_cons hml] at h
  simp only [wpList] at h
  have next : ∀ a' W', wpList P l0.toArray Q (l0.drop (i + 1)) a' W' → wpAny P .any l0.toArray Q fuel (listed.setIfInBounds i true) a' W' := by
   intro a' W' h'
   refine ih (i + 1) _ a' W' fuel (by omega) (by omega) (by omega) (by simpa using hsz) ?_ ?_ hed h'
   ·intro j o hj hoj e he hb
    by_cases hij : i = j
    ·subst hij
     rw [ho] at hoj
     cases hoj
     exact getD_set_true ((hlst e.on (by have := hed i _ ho e he hb; omega)).2 (hed i _ ho e he hb))
    ·rw [getD_set_ne false hij] at hj
     exact getD_set_true (hcl j o hj hoj e he hb)
   ·intro j hj
    by_cases hij : i = j
    ·subst hij
     simp [show i < listed.size by omega]
    ·rw [getD_set_ne false hij, hlst j hj]
     omega
  split
  ·rename_i hw
   rw [if_pos hw] at h
   exact h.imp (Oper.wp_mono next) id
  ·rename_i hw
   rw [if_neg hw] at h
   exact next _ _ h
structure OkSpec (l : List Oper) (n size : Nat) : Prop where
 sel : ∀ (j : Nat) (o : Oper) cs b, l[j]? = some o → o.op ≠ .select cs b
 len : n ≤ l.length
 dst : ∀ (j : Nat) (o : Oper) (d : Tmp), l[j]? = some o → o.dst = some d → d < size
 edge : ∀ (i : Nat) (o : Oper), l[i]? = some o → ∀ e ∈ o.after, Region.binds .any e = true → e.on < i
 has : ∀ (i : Nat) (o : Oper), i < n → l[i]? = some o → o.dst.isSome = true
 look : ∀ (i : Nat) (o : Oper) (j : Nat) (oj : Oper) (d : Tmp), i < n → l[i]? = some o → l[j]? = some oj → oj.dst = some d → d ∈ o.looksAt l.toArray → j < i ∧ hasEdge o j = true
 one : ∀ (i : Nat) (o : Oper) (j : Nat) (oj : Oper) (d : Tmp), i < n → l[i]? = some o → l[j]? = some oj → oj.dst = some d → i ≠ j → o.dst ≠ some d
 tail : ∀ (i : Nat) (o : Oper), n ≤ i → l[i]? = some o → ∀ j, j < i → ancB l 16 o j = true
theorem okFree_spec {n size : Nat} {l : List Oper} (h : okFree n size l = true) : OkSpec l n size := by
 simp only [okFree, Bool.and_eq_true, decide_eq_true_eq, List.all_eq_true, List.mem_range] at h
 obtain ⟨⟨⟨h1, h2⟩, h3⟩, h4⟩ := h
 have at_ : ∀ i o, l[i]? = some o → okOper l n i o = true := by
  intro i o ho
  have := h4 i (List.getElem?_eq_some_iff.1 ho).1
  rwa [ho] at this
 refine ⟨fun j o cs b hj => Region.noSelect_spec h1 j o cs b (by simpa using hj), h2, ?_, ?_, ?_, ?_, ?_, ?_⟩
 ·intro j o d ho hd
  have := h3 o (List.mem_of_getElem? ho)
  simpa [hd] using this
 ·intro i o ho e he hb
  have := at_ i o ho
  simp only [okOper, Bool.and_eq_true, List.all_eq_true, Bool.or_eq_true, Bool.not_eq_true', decide_eq_true_eq] at this
  have := this.1 e (Array.mem_toList_iff.2 he)
  rcases this with h | h
  ·rw [h] at hb; cases hb
  ·exact h
 ·intro i o hi ho
  have := at_ i o ho
  simp only [okOper, Bool.and_eq_true, if_pos hi] at this
  exact this.2.1
 ·intro i o j oj d hi ho hj hd hm
  have := at_ i o ho
  simp only [okOper, Bool.and_eq_true, if_pos hi, List.all_eq_true, List.mem_range] at this
  have := this.2.2 j (List.getElem?_eq_some_iff.1 hj).1
  simp only [hj, hd, Bool.and_eq_true, Bool.or_eq_true, Bool.not_eq_true', decide_eq_true_eq] at this
  rcases this.1 with h | h
  ·have := List.contains_iff_mem.2 hm
   rw [h] at this; cases this
  ·exact h
 ·intro i o j oj d hi ho hj hd hne
  have := at_ i o ho
  simp only [okOper, Bool.and_eq_true, if_pos hi, List.all_eq_true, List.mem_range] at this
  have := this.2.2 j (List.getElem?_eq_some_iff.1 hj).1
  simp only [hj, hd, Bool.and_eq_true, Bool.or_eq_true, beq_iff_eq, bne_iff_ne, ne_eq] at this
  rcases this.2 with h | h
  ·exact absurd h.symm hne
  ·exact h
 ·intro i o hi ho j hj
  have := at_ i o ho
  simp only [okOper, Bool.and_eq_true, if_neg (Nat.not_lt.2 hi), List.all_eq_true, List.mem_range] at this
  exact this.2 j hj
structure Midway (l : List Oper) (specs : List FSpec) (R : World → World → Prop) (w0 : World) (a0 : Act) (listed : Array Bool) (a : Act) (W : World) : Prop where
 size : listed.size = l.length
 rel : R w0 W
 defers : a.defers = a0.defers
 tsize : a.tmps.size = a0.tmps.size
 closed : ∀ (i : Nat) (o : Oper), listed.getD i false = true → l[i]? = some o → ∀ e ∈ o.after, Region.binds .any e = true → listed.getD e.on false = true
 other : ∀ (t : Tmp), (∀ (j : Nat) (o : Oper), l[j]? = some o → listed.getD j false = true → o.dst ≠ some t) → a.tmps[t]? = a0.tmps[t]?
 fact : ∀ (j : Nat) (o : Oper) (d : Tmp) (s : FSpec), listed.getD j false = true → l[j]? = some o → o.dst = some d → specs[j]? = some s → s.ok W (a.tmps.getD d undef)
 late : ∀ (j : Nat), specs.length ≤ j → listed.getD j false = false
 apart : ∀ (i j : Nat) (oi oj : Oper) (di dj : Tmp) (si sj : FSpec), i ≠ j → listed.getD i false = true → listed.getD j false = true → l[i]? = some oi → l[j]? = some oj → oi.dst = some di → oj.dst = some dj →
  specs[i]? = some si → specs[j]? = some sj → si.isFresh = true → sj.isFresh = true → a.tmps.getD di undef ≠ a.tmps.getD dj undef
def valuesOf (l : List Oper) (specs : List FSpec) (a : Act) (j : Nat) : Value :=
 match specs[j]? with
 | some (.val c) => c
 | _ => match (l[j]?).bind (·.dst) with
  | some d => a.tmps.getD d undef
  | none => undef
theorem valuesOf_fits (l : List Oper) (specs : List FSpec) (a : Act) : fits specs (valuesOf l specs a) := by
 intro k c h
 simp [valuesOf, h]
theorem Midway.value {specs : List FSpec} {a0 a : Act} {listed : Array Bool} {W : World} (m : Midway l0 specs R w0 a0 listed a W) {j : Nat} {o : Oper} {d : Tmp} (hj : listed.getD j false = true) (ho : l0[j]? = some o) (hd : o.dst = some d) :
  a.tmps.getD d undef = valuesOf l0 specs a j := by
 have hlt : j < specs.length := by
  rcases Nat.lt_or_ge j specs.length with h | h
  ·exact h
  ·rw [m.late j h] at hj; cases hj
 have hs : specs[j]? = some specs[j] := List.getElem?_eq_getElem hlt
 have := m.fact j o d _ hj ho hd hs
 generalize specs[j] = s at this hs
 cases s with
 | val c => simp only [FSpec.ok] at this; simp [valuesOf, hs, this]
 | pred Φ => simp [valuesOf, hs, ho, hd]
 | fresh Φ => simp [valuesOf, hs, ho, hd]
theorem Midway.tmp {specs : List FSpec} {a0 a : Act} {listed : Array Bool} {W : World} (m : Midway l0 specs R w0 a0 listed a W) (ok : OkSpec l0 specs.length a0.tmps.size) (k t : Nat) (hk : k ≤ specs.length)
  (h : ∀ (j : Nat) (oj : Oper), l0[j]? = some oj → oj.dst = some t → j < k ∧ listed.getD j false = true) : (frameAt a0 l0 (valuesOf l0 specs a) k).tmps[t]? = a.tmps[t]? := by
 by_cases hex : ∃ (j : Nat) (oj : Oper), l0[j]? = some oj ∧ oj.dst = some t
 ·obtain ⟨j, oj, hj, hd⟩ := hex
  obtain ⟨hjk, hlj⟩ := h j oj hj hd
  have ht := ok.dst j oj t hj hd
  rw [frameAt_own a0 l0 _ k t j oj hjk hj hd ht fun i o' hne ho' hd' => by
   rcases Nat.lt_or_ge i specs.length with hi | hi
   ·exact ok.one i o' j oj t hi ho' hj hd hne hd'
   ·exact ok.one j oj i o' t (by omega) hj ho' hd' (Ne.symm hne) hd]
  rw [← m.value hlj hj hd]
  have : t < a.tmps.size := by rw [m.tsize]; exact ht
  simp [this]
 ·rw [frameAt_other a0 l0 _ k t fun j o _ ho hd => hex ⟨j, o, ho, hd⟩, m.other t fun j o ho _ hd => hex ⟨j, o, ho, hd⟩]
theorem eval_of_tmps {a b : Act} (o : Oper) (hs : ∀ cs b, o.op ≠ .select cs b) (h : ∀ t, t ∈ o.looksAt l0.toArray → a.tmps[t]? = b.tmps[t]?) : execOp a.eval o = execOp b.eval o := by
 refine execOp_congr o hs fun x hx => ?_
 cases x with
 | tmp t =>
  have := h t (List.mem_append_left _ (List.mem_filterMap.2 ⟨.tmp t, by simpa using hx, rfl⟩))
  simp [Act.eval, this]
 | _ => rfl
theorem wanted_of_tmps {a b : Act} (o : Oper) (h : ∀ t, t ∈ o.looksAt l0.toArray → a.tmps[t]? = b.tmps[t]?) : Region.wanted o (yielded l0.toArray a.tmps) = Region.wanted o (yielded l0.toArray b.tmps) := by
 unfold Region.wanted
 cases hg : o.guard with
 | none => rfl
 | some gw =>
  obtain ⟨g, want⟩ := gw
  have hy : yielded l0.toArray a.tmps g = yielded l0.toArray b.tmps g := by
   unfold yielded
   cases ht : (l0.toArray[g]?).bind (·.dst) with
   | none => rfl
   | some t =>
    have := h t (List.mem_append_right _ (by simp only [hg, ht]; simp))
    simp [this]
  simp only [hy]
theorem Midway.step {specs : List FSpec} {a0 a : Act} {listed : Array Bool} {W : World} (m : Midway l0 specs R w0 a0 listed a W) (ok : OkSpec l0 specs.length a0.tmps.size) (hrf : ∀ a, R a a) (htr : ∀ a b c, R a b → R b c → R a c)
  (hst : ∀ s ∈ specs, ∀ W W' v, R W W' → s.ok W v → s.ok W' v) (h : freeSteps P l0 R w0 Q 0 specs l0 a0 []) {i : Nat} (hi : i < specs.length) (hr : i ∈ Region.ready .any l0.toArray listed) :
  wpOp P l0.toArray Q i (fun a' W' => Midway l0 specs R w0 a0 (listed.setIfInBounds i true) a' W') a W := by
 obtain ⟨hun, o, ho', hedge⟩ := mem_ready.1 hr
 have ho : l0[i]? = some o := by simpa using ho'
 have hil : i < l0.length := (List.getElem?_eq_some_iff.1 ho).1
 have hlt : i < listed.size := by rw [m.size]; exact hil
 have hat := steps_at h (valuesOf l0 specs a) (valuesOf_fits l0 specs a) i (by omega)
 rw [List.drop_eq_getElem_cons hi, List.drop_eq_getElem_cons hil] at hat
 have hs : specs[i]? = some specs[i] := List.getElem?_eq_getElem hi
 have hoi : l0[i] = o := by
  have := List.getElem?_eq_getElem hil
  rw [ho] at this
  exact (Option.some.inj this).symm
 rw [hoi] at hat
 have hfacts : ∀ p ∈ factsAt specs (valuesOf l0 specs a) i, leans l0 o p.1 = true → p.2.1.ok W p.2.2 := by
  intro p hp hl
  obtain ⟨h1, h2, h3⟩ := mem_factsAt hp
  unfold leans at hl
  split at hl
  ·rename_i d hd
   obtain ⟨oj, hj, hdj⟩ := Option.bind_eq_some_iff.1 hd
   have hlook := ok.look i o p.1 oj d hi ho hj hdj (List.contains_iff_mem.1 hl)
   have hlj : listed.getD p.1 false = true := listed_anc (l0 := l0) m.closed 0 o p.1 hedge hlook.2
   have := m.fact p.1 oj d p.2.1 hlj hj hdj h2
   rw [h3, ← m.value hlj hj hdj]
   exact this
  ·cases hl
 have hsame : ∀ t, t ∈ o.looksAt l0.toArray → (frameAt a0 l0 (valuesOf l0 specs a) i).tmps[t]? = a.tmps[t]? := by
  intro t ht
  refine m.tmp ok i t (by omega) fun j oj hj hdj => ?_
  have hlook := ok.look i o j oj t hi ho hj hdj ht
  exact ⟨hlook.1, listed_anc (l0 := l0) m.closed 0 o j hedge hlook.2⟩
 have hev : execOp (frameAt a0 l0 (valuesOf l0 specs a) i).eval o = execOp a.eval o := eval_of_tmps o (fun cs b => ok.sel i o cs b ho) hsame
 have hwa : Region.wanted o (yielded l0.toArray (frameAt a0 l0 (valuesOf l0 specs a) i).tmps) = Region.wanted o (yielded l0.toArray a.tmps) := wanted_of_tmps o hsame
 -- what is left to show of each value
 have next : ∀ W' v, R W W' → specs[i].ok W' v → (specs[i].isFresh = true → ∃ g, v = .pointer (some ⟨g, 0, none⟩) ∧ W.heap.size ≤ g) → Midway l0 specs R w0 a0 (listed.setIfInBounds i true) (a.put o.dst v) W' := by
  intro W' v hR hv hfr
  -- what an elder operation's place holds, and the new one's
  have keep : ∀ (j : Nat) (oj : Oper) (d : Tmp), i ≠ j → l0[j]? = some oj → oj.dst = some d → (a.put o.dst v).tmps.getD d undef = a.tmps.getD d undef := by
   intro j oj d hij hoj hdj
   have hnd : o.dst ≠ some d := ok.one i o j oj d hi ho hoj hdj hij
   cases hd : o.dst with
   | none => simp [Act.put]
   | some e =>
    have : e ≠ d := fun e' => hnd (by rw [hd, e'])
    simp [Act.put, Array.getElem?_setIfInBounds_ne this]
  have own : ∀ (d : Tmp), o.dst = some d → (a.put o.dst v).tmps.getD d undef = v := by
   intro d hd
   have hsz : d < a.tmps.size := by rw [m.tsize]; exact ok.dst i _ d ho hd
   simp [Act.put, hd, hsz]
  have elder : ∀ (j : Nat) (oj : Oper) (d : Tmp) (sj : FSpec), listed.getD j false = true → l0[j]? = some oj → oj.dst = some d → specs[j]? = some sj → sj.isFresh = true → ∃ g, a.tmps.getD d undef = .pointer (some ⟨g, 0, none⟩) ∧ g < W.heap.size := by
   intro j oj d sj hj hoj hdj hsj hfj
   have hf := m.fact j oj d sj hj hoj hdj hsj
   cases sj with
   | fresh Φ => exact hf.2
   | val c => cases hfj
   | pred Φ => cases hfj
  refine ⟨by simpa using m.size, htr _ _ _ m.rel hR, ?_, ?_, ?_, ?_, ?_, ?_, ?_⟩
  ·rw [← m.defers]; cases o.dst <;> rfl
  ·rw [← m.tsize]; cases hd : o.dst <;> simp [Act.put]
  ·intro j oj hj hoj e he hb
   by_cases hij : i = j
   ·subst hij
    rw [ho] at hoj; cases hoj
    exact getD_set_true (hedge e he hb)
   ·rw [getD_set_ne false hij] at hj
    exact getD_set_true (m.closed j oj hj hoj e he hb)
  ·intro t ht
   have hne : o.dst ≠ some t := ht i o ho (by simp [hlt])
   rw [← m.other t fun j oj hoj hj => ht j oj hoj (by
    by_cases hij : i = j
    ·subst hij; simp [hlt]
    ·rw [getD_set_ne false hij]; exact hj)]
   cases hd : o.dst with
   | none => rfl
   | some d =>
    have : d ≠ t := fun e => hne (by rw [hd, e])
    simp [Act.put, Array.getElem?_setIfInBounds_ne this]
  ·intro j oj d s hj hoj hdj hsj
   by_cases hij : i = j
   ·subst hij
    rw [ho] at hoj; cases hoj
    rw [hs] at hsj; cases hsj
    have hsz : d < a.tmps.size := by rw [m.tsize]; exact ok.dst i _ d ho hdj
    simpa [Act.put, hdj, hsz] using hv
   ·rw [getD_set_ne false hij] at hj
    have hf := m.fact j oj d s hj hoj hdj hsj
    have hf := hst s (List.mem_of_getElem? hsj) _ _ _ hR hf
    have hnd : o.dst ≠ some d := ok.one i o j oj d hi ho hoj hdj hij
    cases hd : o.dst with
    | none => simpa [Act.put] using hf
    | some e =>
     have : e ≠ d := fun e' => hnd (by rw [hd, e'])
     simpa [Act.put, Array.getElem?_setIfInBounds_ne this] using hf
  ·intro j hj
   rw [getD_set_ne false (show i ≠ j by omega)]
   exact m.late j hj
  ·intro i1 j1 oi oj di dj si sj hne hl1 hl2 ho1 ho2 hd1 hd2 hs1 hs2 hf1 hf2
   by_cases e1 : i = i1
   ·subst e1
    have hij : i ≠ j1 := hne
    rw [ho] at ho1; cases ho1
    rw [hs] at hs1; cases hs1
    rw [getD_set_ne false hij] at hl2
    rw [own di hd1, keep j1 oj dj hij ho2 hd2]
    obtain ⟨g, hg1, hg2⟩ := hfr hf1
    obtain ⟨g', hg3, hg4⟩ := elder j1 oj dj sj hl2 ho2 hd2 hs2 hf2
    rw [hg1, hg3]
    simp only [ne_eq, Value.pointer.injEq, Option.some.injEq, Addr.mk.injEq, and_true]
    omega
   ·rw [getD_set_ne false e1] at hl1
    by_cases e2 : i = j1
    ·subst e2
     rw [ho] at ho2; cases ho2
     rw [hs] at hs2; cases hs2
     rw [own dj hd2, keep i1 oi di e1 ho1 hd1]
     obtain ⟨g, hg1, hg2⟩ := hfr hf2
     obtain ⟨g', hg3, hg4⟩ := elder i1 oi di si hl1 ho1 hd1 hs1 hf1
     rw [hg1, hg3]
     simp only [ne_eq, Value.pointer.injEq, Option.some.injEq, Addr.mk.injEq, and_true]
     omega
    ·rw [getD_set_ne false e2] at hl2
     rw [keep i1 oi di e1 ho1 hd1, keep j1 oj dj e2 ho2 hd2]
     exact m.apart i1 j1 oi oj di dj si sj hne hl1 hl2 ho1 ho2 hd1 hd2 hs1 hs2 hf1 hf2
 unfold wpOp
 simp only [List.getElem?_toArray, ho]
 generalize hsp : specs[i] = s at hat next
 cases s with
 | val c =>
  simp only [freeSteps] at hat
  have hone := hat.1 W m.rel (factsHold_of hfacts)
  rw [hwa, hev] at hone
  split
  ·rename_i hw
   rw [if_pos hw] at hone
   refine .inl (upon_of_gives hone fun w' v hv => next _ _ hv.1 hv.2 (fun h => by cases h))
  ·rename_i hw
   rw [if_neg hw] at hone
   exact next W undef (hrf W) hone (fun h => by cases h)
 | pred Φ =>
  simp only [freeSteps] at hat
  have hone := hat.1 W m.rel (factsHold_of hfacts)
  rw [hwa, hev] at hone
  split
  ·rename_i hw
   rw [if_pos hw] at hone
   refine .inl (upon_of_gives hone fun w' v hv => next _ _ hv.1 hv.2 (fun h => by cases h))
  ·rename_i hw
   rw [if_neg hw] at hone
   exact next W undef (hrf W) hone (fun h => by cases h)
 | fresh Φ =>
  simp only [freeSteps] at hat
  have hone := hat.1 W m.rel (factsHold_of hfacts)
  rw [hwa, hev] at hone
  split
  ·rename_i hw
   rw [if_pos hw] at hone
   refine .inl (upon_of_gives hone fun w' v hv => ?_)
   obtain ⟨h1, h2, g, h3, h4, h5⟩ := hv
   exact next _ _ h1 ⟨h2, g, h3, h5⟩ (fun _ => ⟨g, h3, h4⟩)
  ·rename_i hw
   rw [if_neg hw] at hone
   exact hone.elim
theorem Midway.done {specs : List FSpec} {a0 a : Act} {listed : Array Bool} {W : World} (m : Midway l0 specs R w0 a0 listed a W) (ok : OkSpec l0 specs.length a0.tmps.size) (hall : ∀ j, j < specs.length → listed.getD j false = true) :
  a = frameAt a0 l0 (valuesOf l0 specs a) specs.length ∧ ∀ p ∈ factsAt specs (valuesOf l0 specs a) specs.length, p.2.1.ok W p.2.2 := by
 refine ⟨?_, fun p hp => ?_⟩
 ·obtain ⟨tm, df⟩ := a
  have hdf := frameAt_defers a0 l0 (valuesOf l0 specs ⟨tm, df⟩) specs.length
  have htm : tm = (frameAt a0 l0 (valuesOf l0 specs ⟨tm, df⟩) specs.length).tmps := by
   refine Array.ext_getElem? fun t => ?_
   by_cases hex : ∃ (j : Nat) (oj : Oper), l0[j]? = some oj ∧ oj.dst = some t ∧ specs.length ≤ j
   ·obtain ⟨j, oj, hj, hd, hge⟩ := hex
    by_cases hin : ∃ (i : Nat) (oi : Oper), l0[i]? = some oi ∧ oi.dst = some t ∧ i < specs.length
    ·obtain ⟨i, oi, hi, hdi, hlt⟩ := hin
     exact absurd hdi (ok.one i oi j oj t hlt hi hj hd (by omega))
    ·rw [frameAt_other a0 l0 _ _ t fun i o hi ho hd' => hin ⟨i, o, ho, hd', hi⟩]
     refine m.other t fun i o ho hl hd' => ?_
     rcases Nat.lt_or_ge i specs.length with h | h
     ·exact hin ⟨i, o, ho, hd', h⟩
     ·rw [m.late i h] at hl; cases hl
   ·refine (m.tmp ok specs.length t (nR _) fun j oj hj hd => ?_).symm
    have hlt : j < specs.length := by
     rcases Nat.lt_or_ge j specs.length with h | h
     ·exact h
     ·exact absurd ⟨j, oj, hj, hd, h⟩ hex
    exact ⟨hlt, hall j hlt⟩
  have h1 : (frameAt a0 l0 (valuesOf l0 specs ⟨tm, df⟩) specs.length).defers = df := by rw [hdf, ← m.defers]
  generalize frameAt a0 l0 (valuesOf l0 specs ⟨tm, df⟩) specs.length = f at htm h1
  obtain ⟨ft, fd⟩ := f
  simp only at htm h1
  rw [htm, h1]
 ·obtain ⟨h1, h2, h3⟩ := mem_factsAt hp
  have hil : p.1 < l0.length := by have := ok.len; omega
  have ho : l0[p.1]? = some l0[p.1] := List.getElem?_eq_getElem hil
  rw [h3]
  cases hd : l0[p.1].dst with
  | some d =>
   rw [← m.value (hall p.1 h1) ho hd]
   exact m.fact p.1 _ d _ (hall p.1 h1) ho hd h2
  | none =>
   have := ok.has p.1 _ h1 ho
   simp [hd] at this
theorem free_any {specs : List FSpec} {a0 : Act} (ok : OkSpec l0 specs.length a0.tmps.size) (hrf : ∀ a, R a a) (htr : ∀ a b c, R a b → R b c → R a c)
  (hst : ∀ s ∈ specs, ∀ W W' v, R W W' → s.ok W v → s.ok W' v) (h : freeSteps P l0 R w0 Q 0 specs l0 a0 []) :
  ∀ (fuel : Nat) (listed : Array Bool) (a : Act) (W : World), left l0 listed ≤ fuel → Midway l0 specs R w0 a0 listed a W → wpAny P .any l0.toArray Q fuel listed a W := by
 have fin : ∀ (listed : Array Bool) (a : Act) (W : World), Midway l0 specs R w0 a0 listed a W → (∀ j, j < specs.length → listed.getD j false = true) → wpList P l0.toArray Q (l0.drop specs.length) a W := by
  intro listed a W m hall
  obtain ⟨he, hf⟩ := m.done ok hall
  have hat := steps_at h (valuesOf l0 specs a) (valuesOf_fits l0 specs a) specs.length (nR _)
  rw [List.drop_length] at hat
  simp only [freeSteps] at hat
  have := hat W m.rel (factsHold_of fun p hp _ => hf p hp) (fun p q hp hq h1 h2 hne => by
   obtain ⟨a1, a2, a3⟩ := mem_factsAt hp
   obtain ⟨b1, b2, b3⟩ := mem_factsAt hq
   have hil : p.1 < l0.length := by have := ok.len; omega
   have hjl : q.1 < l0.length := by have := ok.len; omega
   have ho1 : l0[p.1]? = some l0[p.1] := List.getElem?_eq_getElem hil
   have ho2 : l0[q.1]? = some l0[q.1] := List.getElem?_eq_getElem hjl
   obtain ⟨d1, hd1⟩ := Option.isSome_iff_exists.1 (ok.has p.1 _ a1 ho1)
   obtain ⟨d2, hd2⟩ := Option.isSome_iff_exists.1 (ok.has q.1 _ b1 ho2)
   rw [a3, b3, ← m.value (hall p.1 a1) ho1 hd1, ← m.value (hall q.1 b1) ho2 hd2]
   exact m.apart p.1 q.1 _ _ d1 d2 _ _ hne (hall p.1 a1) (hall q.1 b1) ho1 ho2 hd1 hd2 a2 b2 h1 h2)
  rwa [← he] at this
 have hlst : ∀ (listed : Array Bool) (a : Act) (W : World), Midway l0 specs R w0 a0 listed a W → (∀ j, j < specs.length → listed.getD j false = true) → ∀ i, i < l0.length → (listed.getD i false = true ↔ i < specs.length) := by
  intro listed a W m hall i hi
  constructor
  ·intro hl
   rcases Nat.lt_or_ge i specs.length with h | h
   ·exact h
   ·rw [m.late i h] at hl; cases hl
  ·exact hall i
 intro fuel
 induction fuel with
 | zero =>
  intro listed a W hl m
  have hnone : ∀ i, i < l0.length → listed.getD i true = true := by
   intro i hi
   have h0 : ((List.range l0.length).filter fun i => !listed.getD i true) = [] := List.eq_nil_of_length_eq_zero (by unfold left at hl; omega)
   have := List.filter_eq_nil_iff.1 h0 i (List.mem_range.2 hi)
   simpa using this
  have hall : ∀ j, j < specs.length → listed.getD j false = true := by
   intro j hj
   have h1 := hnone j (by have := ok.len; omega)
   rcases listed_cases (listed := listed) (i := j) (by rw [m.size]; have := ok.len; omega) with h2 | h2
   ·exact h2
   ·rw [h2] at h1; cases h1
  have hn : specs.length = l0.length := by
   rcases Nat.lt_or_ge specs.length l0.length with h1 | h1
   ·have h2 := hnone specs.length h1
    have h3 := m.late specs.length (nR _)
    rcases listed_cases (listed := listed) (i := specs.length) (by rw [m.size]; exact h1) with h4 | h4
    ·rw [h4] at h3; cases h3
    ·rw [h4] at h2; cases h2
   ·have := ok.len; omega
  exact tail_forced ok.tail 0 specs.length listed a W 0 (nR _) hn (nR _) m.size m.closed (hlst _ _ _ m hall) ok.edge (fin _ _ _ m hall)
 | succ fuel ih =>
  intro listed a W hl m
  by_cases hall : ∀ j, j < specs.length → listed.getD j false = true
  ·refine tail_forced ok.tail (l0.length - specs.length) specs.length listed a W (fuel + 1) (nR _) (by have := ok.len; omega) ?_ m.size m.closed (hlst _ _ _ m hall) ok.edge (fin _ _ _ m hall)
   have := left_ge (l := l0) (listed := listed) (n := specs.length) fun i h1 h2 => by
    have := m.late i h1
    have hlt : i < listed.size := by rw [m.size]; exact h2
    simpa [hlt] using this
   omega
  ·refine ⟨fun h0 => ?_, fun i hi => ?_⟩
   ·refine absurd (fun j => ?_) hall
    induction j using Nat.strongRecOn with
    | _ j ihj =>
     intro hj
     have hjl : j < l0.length := by have := ok.len; omega
     have hoj : l0[j]? = some l0[j] := List.getElem?_eq_getElem hjl
     rcases listed_cases (listed := listed) (i := j) (by rw [m.size]; exact hjl) with h1 | h1
     ·exact h1
     ·have hm : j ∈ Region.ready .any l0.toArray listed := mem_ready.2 ⟨h1, l0[j], by simp [hjl], fun e he hb => by
       have := ok.edge j _ hoj e he hb
       exact ihj e.on this (by omega)⟩
      rw [h0] at hm
      cases hm
   ·obtain ⟨hun, o, ho', hedge⟩ := mem_ready.1 hi
    have hil : i < l0.length := by have := lt_of_unlisted hun; rw [m.size] at this; exact this
    have hn : i < specs.length := by
     rcases Nat.lt_or_ge i specs.length with h1 | h1
     ·exact h1
     ·exact absurd (fun j hj => listed_anc m.closed 16 o j hedge (ok.tail i o h1 (by simpa using ho') j (by omega))) hall
    exact wpOp_mono (fun a' W' m' => ih _ a' W' (by have := left_set hil hun; omega) m') (m.step ok hrf htr hst h hn hi)
theorem region_free {id : Nat} {l : List Oper} {a : Act} {w : World} (R : World → World → Prop) (specs : List FSpec) (hm : P.follows .mixedOrders = true) (hok : okFree specs.length a.tmps.size l = true)
  (hrf : ∀ a, R a a) (htr : ∀ a b c, R a b → R b c → R a c) (hdr : ∀ a, R a a.drew) (hst : ∀ s ∈ specs, ∀ W W' v, R W W' → s.ok W v → s.ok W' v)
  (h : freeSteps P l R w Q 0 specs l a []) : (Code.region id l.toArray true).wp P Q a w := by
 refine wp_region_any hm ?_
 have hsz : l.toArray.size = l.length := by simp
 have hget : ∀ i : Nat, (Array.replicate l.toArray.size false).getD i false = false := by
  intro i
  rw [Array.getD_eq_getD_getElem?, Array.getElem?_replicate]
  split <;> rfl
 refine free_any (okFree_spec hok) hrf htr hst h _ _ _ _ ?_ ⟨by simp, hdr w, rfl, rfl, ?_, ?_, ?_, ?_, ?_⟩
 ·unfold left
  refine nT (List.length_filter_le _ _) ?_
  simp
 ·intro i o hi
  rw [hget] at hi; cases hi
 ·intro t _; rfl
 ·intro j o d s hj
  rw [hget] at hj; cases hj
 ·intro j _
  exact hget j
 ·intro i j oi oj di dj si sj _ h1
  rw [hget] at h1; cases h1
end
def Stable (R : World → World → Prop) (s : FSpec) : Prop := ∀ W W' v, R W W' → s.ok W v → s.ok W' v
def StableAll (R : World → World → Prop) : List FSpec → Prop
 | [] => True
 | s :: ss => Stable R s ∧ StableAll R ss
theorem stableAll_mem {R : World → World → Prop} : ∀ {ss : List FSpec}, StableAll R ss → ∀ s ∈ ss, ∀ W W' v, R W W' → s.ok W v → s.ok W' v
 | [], _, s, hs => by cases hs
 | s :: ss, h, s', hs => by
  rcases List.mem_cons.1 hs with rfl | hs
  ·exact h.1
  ·exact stableAll_mem h.2 s' hs
theorem stable_val {R : World → World → Prop} (c : Value) : Stable R (.val c) := fun _ _ _ _ h => h
theorem stable_vals {R : World → World → Prop} {ss : List FSpec} (c : Value) (h : StableAll R ss) : StableAll R (.val c :: ss) := ⟨stable_val c, h⟩
end Go.Proofs.YtjelnmokcpoofaaGreatDoor.Fresh
namespace Go.Proofs.YtjelnmokcpoofaaGreatDoor
set_option maxRecDepth 100000
open Go Go.RowKit Go.Proofs
theorem region_fresh {id : Nat} {l : List Oper} {a : Act} {w : World} {Q : Exit → Act → World → Prop} (specs : List Fresh.FSpec) (hok : Fresh.okFree specs.length a.tmps.size l = true) (hst : Fresh.StableAll Ext specs)
  (h : Fresh.freeSteps Tryz.prog l Ext w Q 0 specs l a []) : (Code.region id l.toArray true).wp Tryz.prog Q a w :=
 Fresh.region_free Ext specs mixed hok xR (fun _ _ _ => Ext.trans) (fun w => (xR w).dr) (Fresh.stableAll_mem hst) h
def VarAt (b : Nat) (cs : Array Value) (T : TypeId) (W : World) (v : Value) : Prop := ∃ g, v = .pointer (some ⟨g, 0, none⟩) ∧ b ≤ g ∧ W.heap[g]? = some (.cells cs T (0, 0))
theorem VarAt.ext {b : Nat} {cs : Array Value} {T : TypeId} {W W' : World} {v : Value} (h : VarAt b cs T W v) (e : Ext W W') : VarAt b cs T W' v := by
 obtain ⟨g, h1, h2, h3⟩ := h
 exact ⟨g, h1, h2, e.blk h3⟩
theorem fst_intO {ss : List Fresh.FSpec} (b : Nat) (x : Int) (h : Fresh.StableAll Ext ss) : Fresh.StableAll Ext (.pred (fun W v => IntO W b v x) :: ss) := ⟨fun _ _ _ e h => IntO.ext h e, h⟩
theorem fst_var {ss : List Fresh.FSpec} (b : Nat) (cs : Array Value) (T : TypeId) (h : Fresh.StableAll Ext ss) : Fresh.StableAll Ext (.fresh (VarAt b cs T) :: ss) :=
 ⟨fun _ _ _ e h => ⟨VarAt.ext h.1 e, by obtain ⟨g, h1, h2⟩ := h.2; exact ⟨g, h1, Nat.lt_of_lt_of_le h2 e.size⟩⟩, h⟩
theorem new_var {b : Nat} {cs : Array Value} {T : TypeId} (W : World) (hb : b ≤ W.heap.size) : Ext W (W.alloc (.cells cs T)) ∧ VarAt b cs T (W.alloc (.cells cs T)) (.pointer (some ⟨W.heap.size, 0, none⟩)) ∧
  ∃ g, Value.pointer (some ⟨W.heap.size, 0, none⟩) = .pointer (some ⟨g, 0, none⟩) ∧ W.heap.size ≤ g ∧ g < (W.alloc (.cells cs T)).heap.size :=
 ⟨(xR W).al _, ⟨_, rfl, hb, heap_alloc_new W _⟩, _, rfl, nR _, by simp⟩
theorem own_i (v : Value) (s : Value) (b : Bool) (X : Int) (w : World) (hX : nl X ≤ 1073741824) (hv : v = .agg #[.bool b, s]) (h : IntR w v X) :
  Calls Tryz.prog 162 #[.bool false, s] w fun e w' => ∃ b' a' n' c', e = .returned (.agg #[.bool b', .slice a' n' c']) ∧ IntO w' w.heap.size (.agg #[.bool b', .slice a' n' c']) X.natAbs ∧ Ext w w' := by
 obtain ⟨s1, h1, a, c, rfl, _, r⟩ := h
 rw [h1] at hv
 simp only [Value.agg.injEq, Array.mk.injEq, List.cons.injEq, and_true] at hv
 obtain ⟨_, rfl⟩ := hv
 refine (own_c false a _ c w (lim_ok _) (by unfold nl at *; omega) r).mono ?_
 rintro e w' ⟨v, rfl, hi, hE⟩
 have e1 : sg false (val (lim X.natAbs)) = (X.natAbs : Int) := by unfold sg; simp [val_lim]
 rw [e1] at hi
 obtain ⟨b', a', n', c', rfl⟩ := hi.r.shape
 exact ⟨_, _, _, _, rfl, hi, hE⟩
theorem IntO.row_type {w : World} {base g T : Nat} {fr : Nat × Nat} {v : Value} {x : Int} {old : Array Value} (h : IntO w base v x) (hg : w.heap[g]? = some (.cells old T fr)) (hT : T ≠ 140) (cs : Array Value) : IntO (w.setRow g cs) base v x := by
 obtain ⟨s, h1, h2⟩ := h
 refine ⟨s, h1, ?_⟩
 obtain ⟨h3, h4⟩ := h2
 refine ⟨h3, ?_⟩
 rcases h4 with h4 | ⟨k, cap, cur, a1, a2, a3, a4⟩
 ·exact .inl h4
 ·refine .inr ⟨k, cap, cur, a1, a2, ?_, a4⟩
  have hne : k ≠ g := by
   intro e
   subst e
   rw [a3] at hg
   simp only [Option.some.injEq, Obj.cells.injEq] at hg
   exact hT hg.2.1.symm
  rw [setRow_other _ _ _ _ hne]
  exact a3
theorem row2_frozen {w : World} {g T : Nat} {c : Array Value} (h : w.heap[g]? = some (.cells c T (0, 0))) (k : Nat) : w.frozen? ⟨g, k, none⟩ = false := by
 simp [World.frozen?, h]
theorem set2_row {w : World} {g T : Nat} {fr : Nat × Nat} {x y u v : Value} (h : w.heap[g]? = some (.cells #[x, y] T fr)) : (w.setCell ⟨g, 0, none⟩ u).setCell ⟨g, 1, none⟩ v = w.setRow g #[u, v] := by
 have e : ((w.setCell ⟨g, 0, none⟩ u).setCell ⟨g, 1, none⟩ v).heap = (w.setRow g #[u, v]).heap := by
  refine Array.ext_getElem? fun k => ?_
  unfold World.setCell World.setRow
  simp only [Array.getElem?_modify]
  by_cases hk : g = k
  ·subst hk
   simp [h]
  ·simp [hk]
 unfold World.setCell World.setRow at *
 simpa using e
theorem row2_cells {w : World} {g T : Nat} {b : Bool} {a : Option Addr} {n c : Nat} (h : w.heap[g]? = some (.cells #[.bool b, .slice a n c] T (0, 0))) : w.cell? ⟨g, 0, none⟩ = some (.bool b) ∧ w.cell? ⟨g, 1, none⟩ = some (.slice a n c) := by
 constructor <;> simp [World.cell?, h]
def ComI (w : World) (g5 g6 : Nat) (G : Nat) (k : Nat) (wr : World) : Prop :=
 ∃ (A : Nat) (ba bb : Bool) (aa ab : Option Addr) (na nb ca cb : Nat), wr.heap[g5]? = some (.cells #[.bool ba, .slice aa na ca] 50 (0, 0)) ∧ wr.heap[g6]? = some (.cells #[.bool bb, .slice ab nb cb] 50 (0, 0)) ∧
  IntO wr (w.heap.size + 3) (.agg #[.bool ba, .slice aa na ca]) (A : Nat) ∧ IntO wr (w.heap.size + 3) (.agg #[.bool bb, .slice ab nb cb]) (k : Nat) ∧ Nat.gcd A k = G ∧ nl (A : Nat) ≤ 1073741824 ∧ nl (k : Nat) ≤ 1073741824 ∧ Ext w wr ∧ wr.heap[w.heap.size + 2]? = some (.cells #[.bool false, .slice none 0 0] 50 (0, 0))
theorem intR_len {w : World} {b : Bool} {a : Option Addr} {n c k : Nat} (h : IntR w (.agg #[.bool b, .slice a n c]) (k : Nat)) : n = (lim k).length := by
 obtain ⟨s, h1, a', c', rfl, _, _⟩ := h
 simp only [Value.agg.injEq, Array.mk.injEq, List.cons.injEq, Value.slice.injEq, and_true] at h1
 simpa using h1.2.2.1
set_option maxHeartbeats 3200000 in
theorem common_c (v1 v2 : Value) (X Y : Int) (w : World) (hX : nl X ≤ 1073741824) (hY : nl Y ≤ 1073741824) (h1 : IntR w v1 X) (h2 : IntR w v2 Y) :
  Calls Tryz.prog 101 #[v1, v2] w fun e w' => ∃ v, e = .returned v ∧ Ext w w' ∧ IntO w' w.heap.size v (Int.gcd X Y : Nat) := by
 have H1 := h1
 have H2 := h2
 obtain ⟨bx, a1, n1, c1, rfl⟩ := h1.shape
 obtain ⟨bY, a2, n2, c2, rfl⟩ := h2.shape
 have o1 := fun w h => own_i (.agg #[.bool bx, .slice a1 n1 c1]) _ bx X w hX rfl h
 have o2 := fun w h => own_i (.agg #[.bool bY, .slice a2 n2 c2]) _ bY Y w hY rfl h
 replace o1 := mK o1
 replace o2 := mK o2
 replace H1 := mK H1
 replace H2 := mK H2
 clear h1 h2
 go_enter Tryz.func101, Tryz.ntmps101
 go_wp2_with fail
 obtain ⟨wb, hwb⟩ : ∃ wb, wb = ((w.alloc (.cells #[.bool bx, .slice a1 n1 c1] 50)).alloc (.cells #[.bool bY, .slice a2 n2 c2] 50)).alloc (.cells #[.bool false, .slice none 0 0] 50) := ⟨_, rfl⟩
 have hE : Ext w wb := by rw [hwb]; exact (((xR w).al _).al _).al _
 have h01 : wb.cell? ⟨w.heap.size, 1, none⟩ = some (.slice a1 n1 c1) := by rw [hwb]; go_simp
 have h11 : wb.cell? ⟨w.heap.size + 1, 1, none⟩ = some (.slice a2 n2 c2) := by rw [hwb]; go_simp
 have hB : wb.heap[w.heap.size + 2]? = some (.cells #[.bool false, .slice none 0 0] 50) := by rw [hwb]; exact heap_at _ _ _ (by simp)
 have hsz : w.heap.size + 3 ≤ wb.heap.size := by rw [hwb]; simp
 have H1b := H1.out.ext hE
 have H2b := H2.out.ext hE
 rw [← hwb]
 replace hB := mK hB
 replace hE := mK hE
 replace H1b := mK H1b
 replace H2b := mK H2b
 clear hwb H1 H2
 have k01 := fun w' (h : Ext wb w') => h.cell h01
 have k11 := fun w' (h : Ext wb w') => h.cell h11
 apply region_fresh [.val _, .val _, .pred (fun W v => IntO W (w.heap.size + 3) v X.natAbs), .val _, .val _, .pred (fun W v => IntO W (w.heap.size + 3) v Y.natAbs), .fresh (VarAt (w.heap.size + 3) #[.bool false, .slice none 0 0] 50), .fresh (VarAt (w.heap.size + 3) #[.bool false, .slice none 0 0] 50)] (by kernel_rfl)
  (Fresh.stable_vals _ (Fresh.stable_vals _ (fst_intO _ _ (Fresh.stable_vals _ (Fresh.stable_vals _ (fst_intO _ _ (fst_var _ _ _ (fst_var _ _ _ trivial))))))))
 ·iterate 2 (refine ⟨fun W hW _ => by go_simp; exact ⟨xR _, rfl⟩, ?_⟩)
  refine ⟨fun W hW hF => ?g2, fun v2 => ?_⟩
  case g2 =>
   go_simp
   refine (o1.out W (H1b.out.ext hW)).mono ?_
   rintro e w' ⟨b', a', n', c', rfl, h1, h2⟩
   exact ⟨_, rfl, h2, h1.mono (nT hsz hW.size)⟩
  iterate 2 (refine ⟨fun W hW _ => by go_simp; exact ⟨xR _, rfl⟩, ?_⟩)
  refine ⟨fun W hW hF => ?g5, fun v5 => ?_⟩
  case g5 =>
   go_simp
   refine (o2.out W (H2b.out.ext hW)).mono ?_
   rintro e w' ⟨b', a', n', c', rfl, h1, h2⟩
   exact ⟨_, rfl, h2, h1.mono (nT hsz hW.size)⟩
  refine ⟨fun W hW hF => ?g6, fun v6 => ⟨fun W hW hF => ?g7, fun v7 => fun W hW hF hAp => ?fin⟩⟩
  case g6 =>
   have hnv := new_var (b := w.heap.size + 3) (cs := #[.bool false, .slice none 0 0]) (T := 50) W (nT hsz hW.size)
   replace hnv := mK hnv
   go_simp
   exact ⟨hnv.out.1, hnv.out.2.1⟩
  case g7 =>
   have hnv := new_var (b := w.heap.size + 3) (cs := #[.bool false, .slice none 0 0]) (T := 50) W (nT hsz hW.size)
   replace hnv := mK hnv
   go_simp
   exact ⟨hnv.out.1, hnv.out.2.1⟩
  case fin =>
   obtain ⟨f7, f6, f5, f2, -⟩ := hF
   obtain ⟨⟨g6, rfl, hg6b, hg6⟩, _⟩ := f7 rfl
   obtain ⟨⟨g5, rfl, hg5b, hg5⟩, _⟩ := f6 rfl
   have hI5 : IntO W (w.heap.size + 3) v5 Y.natAbs := f5 rfl
   have hI2 : IntO W (w.heap.size + 3) v2 X.natAbs := f2 rfl
   have hne : g5 ≠ g6 := by
    intro e
    exact hAp _ _ (List.mem_cons_self ..) (List.mem_cons_of_mem _ (List.mem_cons_self ..)) rfl rfl (by simp) (by rw [e])
   obtain ⟨b2, x2, y2, z2, rfl⟩ := hI2.r.shape
   obtain ⟨b5, x5, y5, z5, rfl⟩ := hI5.r.shape
   have hrows := two_rows W g5 g6 #[.bool b2, .slice x2 y2 z2] #[.bool b5, .slice x5 y5 z5] _ _ _ hne hg5 hg6
   have J2 := (hI2.row_type hg5 (by decide) #[.bool b2, .slice x2 y2 z2]).row_type hrows.2.2 (by decide) #[.bool b5, .slice x5 y5 z5]
   have J5 := (hI5.row_type hg5 (by decide) #[.bool b2, .slice x2 y2 z2]).row_type hrows.2.2 (by decide) #[.bool b5, .slice x5 y5 z5]
   have hEW := (((hE.out.trans hW).row (show w.heap.size ≤ g5 by omega) #[.bool b2, .slice x2 y2 z2])).row (show w.heap.size ≤ g6 by omega) #[.bool b5, .slice x5 y5 z5]
   have hBW : ((W.setRow g5 #[.bool b2, .slice x2 y2 z2]).setRow g6 #[.bool b5, .slice x5 y5 z5]).heap[w.heap.size + 2]? = some (.cells #[.bool false, .slice none 0 0] 50 (0, 0)) := by
    rw [setRow_other _ _ _ _ (by omega), setRow_other _ _ _ _ (by omega)]
    exact hW.blk hB.out
   have hst : ComI w g5 g6 (Int.gcd X Y) Y.natAbs ((W.setRow g5 #[.bool b2, .slice x2 y2 z2]).setRow g6 #[.bool b5, .slice x5 y5 z5]) :=
    ⟨X.natAbs, b2, b5, x2, x5, y2, y5, z2, z5, hrows.1, hrows.2.1, J2, J5, rfl, by unfold nl at *; simpa using hX, by unfold nl at *; simpa using hY, hEW, hBW⟩
   replace hst := mK hst
   replace hrows := mK hrows
   replace hg5 := mK hg5
   replace hne := mK hne
   clear J2 J5 hEW hBW hI2 hI5 f7 f6 f5 f2 hAp hg6 hW k01 k11 o1 o2 h01 h11 hE hB H1b H2b
   go_simp
   go_wp2_with (first
    | (refine wpList_store_row rfl 50 (.tmp 5) (.tmp 11) rfl g5 #[.bool b2, .slice x2 y2 z2] rfl rfl 50 _ hg5.out (by kernel_rfl) rfl (by kernel_rfl) ?_)
    | (refine wpList_store_row rfl 50 (.tmp 6) (.tmp 14) rfl g6 #[.bool b5, .slice x5 y5 z5] rfl rfl 50 _ hrows.out.2.2 (by kernel_rfl) rfl (by kernel_rfl) ?_))
   clear hrows hg5
   go_loopg [] Y.natAbs (fun k wr => ComI w g5 g6 (Int.gcd X Y) k wr)
   case atStart => exact hst.out
   case round =>
    clear hst
    obtain ⟨A, ba, bb, aa, ab, na, nb, ca, cb, hA, hBb, iA, iB, hG, lA, lB, hEr, hBr⟩ := hrel
    have cA := row2_cells hA
    have cB := row2_cells hBb
    have hnb := intR_len iB.r
    obtain ⟨b', hb'⟩ : ∃ b', b' = w.heap.size := ⟨_, rfl⟩
    by_cases h0 : gk = 0
    ·subst h0
     rw [lim_zero] at hnb
     subst hnb
     have hfin : IntO (wr.setRow (w.heap.size + 2) #[.bool ba, .slice aa na ca]) w.heap.size (.agg #[.bool ba, .slice aa na ca]) (Int.gcd X Y : Nat) := by
      rw [← hG, Nat.gcd_zero_right]
      exact (iA.row_type hBr (by decide) _).mono (by omega)
     have hEf := hEr.row (show w.heap.size ≤ w.heap.size + 2 by omega) #[.bool ba, .slice aa na ca]
     replace hfin := mK hfin
     replace hEf := mK hEf
     replace hBr := mK hBr
     go_wp2_with (first
      | (refine wpList_store_row rfl 50 (.tmp 4) (.tmp 27) rfl (w.heap.size + 2) #[.bool ba, .slice aa na ca] rfl rfl 50 _ hBr.out (by kernel_rfl) rfl (by kernel_rfl) ?_))
     exact bodyPost_ret (results_cell_row rfl _ _ (w.heap.size + 2) 50 #[.bool ba, .slice aa na ca] (0, 0) _ rfl (setRow_heap _ _ _ _ _ _ hBr.out) Tryz.underlying50 rfl (by kernel_rfl)) rfl ⟨_, rfl, hEf.out, hfin.out⟩
    ·have hpos : 0 < nb := by
      rw [hnb, lim_pos h0]
      simp
     have hdv := div_c _ _ (A : Int) (gk : Int) wr lA lB (by omega) iA.r iB.r
     subst hnb
     replace hdv := mK hdv
     replace hEr := mK hEr
     replace hBr := mK hBr
     replace iB := mK iB
     replace hA := mK hA
     replace hBb := mK hBb
     clear iA
     go_wp2_with fail
     refine hdv.out.mono ?_
     rintro e w5 ⟨q, r, rfl, hE5, hq, hr⟩
     obtain ⟨bq, aq, nq, cq, rfl⟩ := hq.r.shape
     obtain ⟨br, ar, nr, cr, rfl⟩ := hr.r.shape
     replace hr := mK hr
     have hE5' := mK hE5
     clear hq hdv cA cB hE5
     go_wp2_with fail
     obtain ⟨w6, hw6⟩ : ∃ w6, w6 = (w5.alloc (.cells #[.bool bq, .slice aq nq cq] 50)).alloc (.cells #[.bool br, .slice ar nr cr] 50) := ⟨_, rfl⟩
     have hE6 : Ext wr w6 := by rw [hw6]; exact (hE5'.out.al _).al _
     have hE56 : Ext w5 w6 := by rw [hw6]; exact ((xR w5).al _).al _
     have hb8 : w6.heap[w5.heap.size + 1]? = some (.cells #[.bool br, .slice ar nr cr] 50 (0, 0)) := by rw [hw6]; exact heap_at _ _ _ (by simp)
     have hb5 := hE6.blk hA.out
     have hb6 := hE6.blk hBb.out
     have cB := row2_cells hb6
     have c8 := row2_cells hb8
     rw [← hw6]
     replace hw6 := mK hw6
     replace hb5 := mK hb5
     replace hb6 := mK hb6
     clear hb8
     have hgl : g6 < wr.heap.size := (Array.getElem?_eq_some_iff.1 hBb.out).1
     have cA := row2_cells hb5.out
     obtain ⟨cA1, cA2⟩ := cA
     obtain ⟨cB1, cB2⟩ := cB
     obtain ⟨c81, c82⟩ := c8
     have d1 : g6 ≠ g5 := Ne.symm hne.out
     have d2 : w5.heap.size + 1 ≠ g5 := by have := hE5'.out.size; have : g5 < wr.heap.size := (Array.getElem?_eq_some_iff.1 hA.out).1; omega
     have hne' := hne.out
     have f50 := row2_frozen hb5.out 0
     have f51 := row2_frozen hb5.out 1
     have f60 := row2_frozen hb6.out 0
     have f61 := row2_frozen hb6.out 1
     go_region
     rw [set2_row hb5.out, set2_row ((setRow_other _ _ _ _ d1).trans hb6.out)]
     clear cA1 cA2 cB1 cB2 c81 c82 f50 f51 f60 f61 d1 d2
     have hrr : IntO w6 (w.heap.size + 3) (.agg #[.bool br, .slice ar nr cr]) ((A % gk : Nat) : Int) := by
      have := (hr.out.ext hE56).mono (show w.heap.size + 3 ≤ wr.heap.size by omega)
      rwa [Int.ofNat_tmod]
     have hBB : IntO w6 (w.heap.size + 3) (.agg #[.bool bb, .slice ab (lim gk).length cb]) (gk : Int) := iB.out.ext hE6
     have hrows := two_rows w6 g5 g6 #[.bool bb, .slice ab (lim gk).length cb] #[.bool br, .slice ar nr cr] _ _ _ hne.out hb5.out hb6.out
     have J2 := (hBB.row_type hb5.out (by decide) #[.bool bb, .slice ab (lim gk).length cb]).row_type hrows.2.2 (by decide) #[.bool br, .slice ar nr cr]
     have J5 := (hrr.row_type hb5.out (by decide) #[.bool bb, .slice ab (lim gk).length cb]).row_type hrows.2.2 (by decide) #[.bool br, .slice ar nr cr]
     have hEF := (((hEr.out.trans hE6).row (show w.heap.size ≤ g5 by omega) #[.bool bb, .slice ab (lim gk).length cb])).row (show w.heap.size ≤ g6 by omega) #[.bool br, .slice ar nr cr]
     have hBW : ((w6.setRow g5 #[.bool bb, .slice ab (lim gk).length cb]).setRow g6 #[.bool br, .slice ar nr cr]).heap[w.heap.size + 2]? = some (.cells #[.bool false, .slice none 0 0] 50 (0, 0)) := by
      rw [setRow_other _ _ _ _ (by omega), setRow_other _ _ _ _ (by omega)]
      exact hE6.blk hBr.out
     have hlt : A % gk < gk := Nat.mod_lt _ (by omega)
     have hlr : nl ((A % gk : Nat) : Int) ≤ 1073741824 := nT (lim_mono (show ((A % gk : Nat) : Int).natAbs ≤ (gk : Int).natAbs by rw [Int.natAbs_natCast, Int.natAbs_natCast]; omega)) lB
     have hdr := (xR ((w6.setRow g5 #[.bool bb, .slice ab (lim gk).length cb]).setRow g6 #[.bool br, .slice ar nr cr])).dr
     have hst : ComI w g5 g6 (Int.gcd X Y) (A % gk) ((w6.setRow g5 #[.bool bb, .slice ab (lim gk).length cb]).setRow g6 #[.bool br, .slice ar nr cr]).drew :=
      ⟨gk, bb, br, ab, ar, (lim gk).length, nr, cb, cr, hrows.1, hrows.2.1, J2.ext hdr, J5.ext hdr, by rw [Nat.gcd_comm, ← Nat.gcd_rec, Nat.gcd_comm]; exact hG, lB, hlr, hEF.dr, hBW⟩
     clear J2 J5 hEF hBW hBB hrr hdr hrows hr hb5 hb6 iB hA hBb hE6 hE56 hlr
     replace hst := mK hst
     replace hlt := mK hlt
     go_wp2_with fail
     go_roundg (A % gk)
     case measure => exact hlt.out
     case rel => exact hst.out
def AnyR (w : World) (v : Value) (b : Bool) (l : List Nat) : Prop := ∃ a c, v = .agg #[.bool b, .slice a l.length c] ∧ OkL l ∧ l.length ≤ c ∧ Row w a (limV l)
def goodI (b : Bool) (l : List Nat) : Bool := decide (l.length ≤ 2048) && (decide (l = []) || decide (l.getLastD 0 ≠ 0)) && (decide (l ≠ []) || !b)
theorem AnyR.ext {w w' : World} {v : Value} {b : Bool} {l : List Nat} (h : AnyR w v b l) (e : Ext w w') : AnyR w' v b l := by
 obtain ⟨a, c, h1, h2, hc, h3⟩ := h
 exact ⟨a, c, h1, h2, hc, h3.ext e⟩
theorem last_pos {l : List Nat} (okl : OkL l) (h : l.getLastD 0 ≠ 0) : val l ≠ 0 := by
 intro h0
 have e := lim_val okl (.inr h)
 rw [h0, lim_zero] at e
 subst e
 exact h rfl
theorem any_int {w : World} {v : Value} {b : Bool} {l : List Nat} (h : AnyR w v b l) (g : goodI b l = true) : IntR w v (sg b (val l)) ∧ nl (sg b (val l)) ≤ 2048 := by
 obtain ⟨a, c, rfl, okl, hc, r⟩ := h
 unfold goodI at g
 simp only [Bool.and_eq_true, Bool.or_eq_true, decide_eq_true_eq, Bool.not_eq_true'] at g
 obtain ⟨⟨g1, g2⟩, g3⟩ := g
 have e := lim_val okl g2
 have en : (sg b (val l)).natAbs = val l := by unfold sg; split <;> simp
 have es : decide (sg b (val l) < 0) = b := by
  cases b
  ·unfold sg; simp
  ·have h0 : l ≠ [] := by simpa using g3
   have h1 : val l ≠ 0 := last_pos okl (g2.resolve_left h0)
   unfold sg
   simp
   omega
 unfold nl
 rw [en, e]
 refine ⟨⟨_, by rw [es], ?_⟩, g1⟩
 rw [en, e]
 exact ⟨a, c, rfl, hc, r⟩
theorem int_any {w : World} {v : Value} {X : Int} (h : IntR w v X) : AnyR w v (decide (X < 0)) (lim X.natAbs) := by
 obtain ⟨s, rfl, a, c, rfl, hc, r⟩ := h
 exact ⟨a, c, rfl, lim_ok _, hc, r⟩
theorem good_int {X : Int} (h : nl X ≤ 2048) : goodI (decide (X < 0)) (lim X.natAbs) = true := by
 unfold goodI nl at *
 by_cases h0 : X = 0
 ·subst h0
  simp [lim_zero]
 ·have hn : X.natAbs ≠ 0 := by omega
  have h1 : lim X.natAbs ≠ [] := by rw [lim_pos hn]; simp
  have h2 := lim_top hn
  have h3 : (lim X.natAbs).getLastD 0 = (lim X.natAbs).getD ((lim X.natAbs).length - 1) 0 := by
   rw [List.getLastD_eq_getLast?, List.getLast?_eq_getElem?, List.getD_eq_getElem?_getD]
  rw [h3]
  simp only [Bool.and_eq_true, Bool.or_eq_true, decide_eq_true_eq]
  exact ⟨⟨h, .inr (by omega)⟩, .inl h1⟩
set_option maxHeartbeats 1600000 in
theorem check_c (v : Value) (b : Bool) (l : List Nat) (w : World) (hl : l.length ≤ 4294967296) (h : AnyR w v b l) :
  Calls Tryz.prog 100 #[v] w fun e w' => e = .returned (.int .i64 (if goodI b l then 0 else 1)) ∧ Ext w w' := by
 obtain ⟨a, c, rfl, okl, _, r⟩ := h
 by_cases h1 : 2048 < l.length
 ·have hg : goodI b l = false := by unfold goodI; simp; omega
  rw [hg]
  clear hg r
  go_enter Tryz.func100, Tryz.ntmps100
  go_wp2_with fail
  go_ret
  exact ⟨rfl, (xR _).al _⟩
 ·by_cases h2 : l = []
  ·subst h2
   clear r h1 hl
   cases b
   ·have hg : goodI false [] = true := rfl
    rw [hg]
    clear hg
    go_enter Tryz.func100, Tryz.ntmps100
    go_wp2_with fail
    go_ret
    exact ⟨rfl, (xR _).al _⟩
   ·have hg : goodI true [] = false := rfl
    rw [hg]
    clear hg
    go_enter Tryz.func100, Tryz.ntmps100
    go_wp2_with fail
    go_ret
    exact ⟨rfl, (xR _).al _⟩
  ·obtain ⟨g, off, ha, hc⟩ := r
   have h0 : 0 < l.length := by cases l with | nil => exact absurd rfl h2 | cons x y => simp
   have hcell : w.cell? ⟨g, off + (l.length - 1), none⟩ = some (.int .u32 (l.getD (l.length - 1) 0 : Nat)) := by
    rw [hc _ (by rw [limV_length]; omega), limV_getD _ _ (by omega)]
   have hgl := okL_get okl (l.length - 1)
   have hi : ((l.length : Int) - 1) = ((l.length - 1 : Nat) : Int) := by omega
   obtain rfl := ha (by intro e; have := congrArg List.length e; rw [limV_length] at this; simp at this; exact h2 this)
   have hlt : (w.heap.size = g) = False := by
    have := lt_of_cell hcell
    simp at this
    exact eq_false (by omega)
   have hgd : goodI b l = decide (l.getD (l.length - 1) 0 ≠ 0) := by
    have h3 : l.getLastD 0 = l.getD (l.length - 1) 0 := by
     rw [List.getLastD_eq_getLast?, List.getLast?_eq_getElem?, List.getD_eq_getElem?_getD]
    unfold goodI
    rw [h3]
    simp [h2]
    omega
   rw [hgd]
   clear hgd hc
   generalize l.getD (l.length - 1) 0 = x at *
   have hcell2 : (w.alloc (.cells #[.bool b, .slice (some ⟨g, off, none⟩) l.length c] 50)).cell? ⟨g, off + (l.length - 1), none⟩ = some (.int .u32 (x : Nat)) := ((xR w).al _).cell hcell
   clear hcell ha hlt
   by_cases hx : x = 0
   ·subst hx
    go_enter Tryz.func100, Tryz.ntmps100
    go_wp2_with fail
    go_ret
    exact ⟨rfl, (xR _).al _⟩
   ·have hx2 : ((x : Int) == 0) = false := by rw [beq_eq_false_iff_ne]; omega
    rw [if_pos (show decide (x ≠ 0) = true by simpa using hx)]
    go_enter Tryz.func100, Tryz.ntmps100
    go_wp2_with fail
    go_ret
    exact ⟨rfl, (xR _).al _⟩
theorem long1_c (b : Bool) (a : Option Addr) (n c : Nat) (w : World) (hn : n ≤ 4294967296) :
  Calls Tryz.prog 233 #[.agg #[.bool b, .slice a n c]] w fun e w' => e = .returned (.bool (decide (2048 < n))) ∧ Ext w w' := by
 go_enter Tryz.func233, Tryz.ntmps233
 go_wp2_with fail
 go_ret
 exact ⟨retB_eq (decide_eq_decide.2 (by omega)), (xR _).al _⟩
set_option maxHeartbeats 1600000 in
theorem index1_c (g : Nat) (b : Bool) (a : Option Addr) (n c cap : Nat) (w : World) (hn : n ≤ 4294967296) (h0 : w.cell? ⟨g, 0, none⟩ = some (.bool b)) (h1 : w.cell? ⟨g, 1, none⟩ = some (.slice a n c)) :
  Calls Tryz.prog 241 #[.slice (some ⟨g, 0, none⟩) 1 cap, .func (.func 233) #[] #[]] w fun e w' => e = .returned (.int .i64 (if 2048 < n then 0 else -1)) ∧ Ext w w' := by
 have hl := mK (fun w => long1_c b a n c w hn)
 by_cases hlt : 2048 < n
 ·rw [if_pos hlt]
  replace hl := mK (fun w => (hl.out w))
  go_enter Tryz.func241, Tryz.ntmps241
  go_wp2_with fail
  refine wp_loop_rounds 2 ?_
  rw [rounds_succ]
  go_wp2_with fail
  refine (hl.out _).mono ?_
  rintro e w' ⟨rfl, hE⟩
  go_wp2_with fail
  go_ret
  exact ⟨rfl, hE⟩
 ·rw [if_neg hlt]
  go_enter Tryz.func241, Tryz.ntmps241
  go_wp2_with fail
  refine wp_loop_rounds 2 ?_
  rw [rounds_succ]
  go_wp2_with fail
  refine (hl.out _).mono ?_
  rintro e w' ⟨rfl, hE⟩
  go_wp2_with fail
  rw [rounds_succ]
  go_wp2_with fail
  go_ret
  exact ⟨rfl, hE⟩
theorem contains1_c (g : Nat) (b : Bool) (a : Option Addr) (n c cap : Nat) (w : World) (hn : n ≤ 4294967296) (h0 : w.cell? ⟨g, 0, none⟩ = some (.bool b)) (h1 : w.cell? ⟨g, 1, none⟩ = some (.slice a n c)) :
  Calls Tryz.prog 232 #[.slice (some ⟨g, 0, none⟩) 1 cap, .func (.func 233) #[] #[]] w fun e w' => e = .returned (.bool (decide (2048 < n))) ∧ Ext w w' := by
 have hl := mK (index1_c g b a n c cap w hn h0 h1)
 go_enter Tryz.func232, Tryz.ntmps232
 go_wp2_with fail
 refine hl.out.mono ?_
 rintro e w' ⟨rfl, hE⟩
 have hd : decide ((0 : Int) ≤ (if 2048 < n then 0 else -1)) = decide (2048 < n) := by by_cases h : 2048 < n <;> simp [h]
 generalize (if 2048 < n then (0 : Int) else -1) = r at *
 go_wp2_with fail
 go_ret
 exact ⟨rfl, hE⟩
theorem long_c (g : Nat) (b : Bool) (a : Option Addr) (n c cap : Nat) (w : World) (hn : n ≤ 4294967296) (h0 : w.cell? ⟨g, 0, none⟩ = some (.bool b)) (h1 : w.cell? ⟨g, 1, none⟩ = some (.slice a n c)) :
  Calls Tryz.prog 214 #[.slice (some ⟨g, 0, none⟩) 1 cap] w fun e w' => e = .returned (.bool (decide (2048 < n))) ∧ Ext w w' := by
 have hl := mK (contains1_c g b a n c cap w hn h0 h1)
 go_enter Tryz.func214, Tryz.ntmps214
 go_wp2_with fail
 refine hl.out.mono ?_
 rintro e w' ⟨rfl, hE⟩
 go_wp2_with fail
 go_ret
 exact ⟨rfl, hE⟩
def FracR (w : World) (v : Value) (q : Rat) : Prop :=
 ∃ b1 a1 n1 c1 b2 a2 n2 c2, v = .agg #[.bool b1, .slice a1 n1 c1, .bool b2, .slice a2 n2 c2] ∧ IntR w (.agg #[.bool b1, .slice a1 n1 c1]) q.num ∧ IntR w (.agg #[.bool b2, .slice a2 n2 c2]) (q.den : Int)
def FracO (w : World) (base : Nat) (v : Value) (q : Rat) : Prop :=
 ∃ b1 a1 n1 c1 b2 a2 n2 c2, v = .agg #[.bool b1, .slice a1 n1 c1, .bool b2, .slice a2 n2 c2] ∧ IntO w base (.agg #[.bool b1, .slice a1 n1 c1]) q.num ∧ IntO w base (.agg #[.bool b2, .slice a2 n2 c2]) (q.den : Int)
theorem FracO.r {w : World} {base : Nat} {v : Value} {q : Rat} (h : FracO w base v q) : FracR w v q := by
 obtain ⟨b1, a1, n1, c1, b2, a2, n2, c2, h1, h2, h3⟩ := h
 exact ⟨b1, a1, n1, c1, b2, a2, n2, c2, h1, h2.r, h3.r⟩
theorem FracR.ext {w w' : World} {v : Value} {q : Rat} (h : FracR w v q) (e : Ext w w') : FracR w' v q := by
 obtain ⟨b1, a1, n1, c1, b2, a2, n2, c2, h1, h2, h3⟩ := h
 exact ⟨b1, a1, n1, c1, b2, a2, n2, c2, h1, h2.ext e, h3.ext e⟩
theorem FracO.ext {w w' : World} {base : Nat} {v : Value} {q : Rat} (h : FracO w base v q) (e : Ext w w') : FracO w' base v q := by
 obtain ⟨b1, a1, n1, c1, b2, a2, n2, c2, h1, h2, h3⟩ := h
 exact ⟨b1, a1, n1, c1, b2, a2, n2, c2, h1, h2.ext e, h3.ext e⟩
theorem FracO.mono {w : World} {base base' : Nat} {v : Value} {q : Rat} (h : FracO w base v q) (e : base' ≤ base) : FracO w base' v q := by
 obtain ⟨b1, a1, n1, c1, b2, a2, n2, c2, h1, h2, h3⟩ := h
 exact ⟨b1, a1, n1, c1, b2, a2, n2, c2, h1, h2.mono e, h3.mono e⟩
theorem FracO.row {w : World} {base g : Nat} {v : Value} {q : Rat} (h : FracO w base v q) (hg : g < base) (cs : Array Value) : FracO (w.setRow g cs) base v q := by
 obtain ⟨b1, a1, n1, c1, b2, a2, n2, c2, h1, h2, h3⟩ := h
 exact ⟨b1, a1, n1, c1, b2, a2, n2, c2, h1, h2.row hg cs, h3.row hg cs⟩
theorem FracR.shape {w : World} {v : Value} {q : Rat} (h : FracR w v q) : ∃ b1 a1 n1 c1 b2 a2 n2 c2, v = .agg #[.bool b1, .slice a1 n1 c1, .bool b2, .slice a2 n2 c2] := by
 obtain ⟨b1, a1, n1, c1, b2, a2, n2, c2, h1, h2, h3⟩ := h
 exact ⟨b1, a1, n1, c1, b2, a2, n2, c2, h1⟩
theorem FracR.num {w : World} {b1 b2 : Bool} {a1 a2 : Option Addr} {n1 c1 n2 c2 : Nat} {q : Rat} (h : FracR w (.agg #[.bool b1, .slice a1 n1 c1, .bool b2, .slice a2 n2 c2]) q) : IntR w (.agg #[.bool b1, .slice a1 n1 c1]) q.num := by
 obtain ⟨x1, x2, x3, x4, x5, x6, x7, x8, h1, h2, h3⟩ := h
 simp only [Value.agg.injEq, Array.mk.injEq, List.cons.injEq, and_true] at h1
 obtain ⟨h4, h5, h6, h7⟩ := h1
 rw [h4, h5]
 exact h2
theorem FracR.den {w : World} {b1 b2 : Bool} {a1 a2 : Option Addr} {n1 c1 n2 c2 : Nat} {q : Rat} (h : FracR w (.agg #[.bool b1, .slice a1 n1 c1, .bool b2, .slice a2 n2 c2]) q) : IntR w (.agg #[.bool b2, .slice a2 n2 c2]) (q.den : Int) := by
 obtain ⟨x1, x2, x3, x4, x5, x6, x7, x8, h1, h2, h3⟩ := h
 simp only [Value.agg.injEq, Array.mk.injEq, List.cons.injEq, and_true] at h1
 obtain ⟨h4, h5, h6, h7⟩ := h1
 rw [h6, h7]
 exact h3
def nf (q : Rat) : Nat := max (nl q.num) (nl (q.den : Int))
theorem low_num (n d : Int) : (Rat.divInt n d).num = if d < 0 then -(n.tdiv (Int.gcd n d : Nat)) else if d = 0 then 0 else n.tdiv (Int.gcd n d : Nat) := by
 have hdv : ((Int.gcd n d : Nat) : Int) ∣ n := Int.gcd_dvd_left ..
 rw [Rat.num_divInt, Int.gcd_comm d n, Int.tdiv_eq_ediv_of_dvd hdv]
 rcases Int.lt_trichotomy d 0 with h | h | h
 ·rw [if_pos h, Int.sign_eq_neg_one_of_neg h, Int.neg_mul, Int.one_mul, Int.neg_ediv_of_dvd hdv]
 ·subst h
  simp
 ·rw [if_neg (by omega), if_neg (by omega), Int.sign_eq_one_of_pos h, Int.one_mul]
theorem low_den (n d : Int) (h0 : d ≠ 0) : ((Rat.divInt n d).den : Int) = if d < 0 then -(d.tdiv (Int.gcd n d : Nat)) else d.tdiv (Int.gcd n d : Nat) := by
 have hdv : ((Int.gcd n d : Nat) : Int) ∣ d := Int.gcd_dvd_right ..
 rw [Rat.den_divInt, if_neg h0, Int.gcd_comm d n, Int.tdiv_eq_ediv_of_dvd hdv, Int.natCast_ediv]
 split
 ·rw [← Int.neg_ediv_of_dvd hdv]
  congr 1
  omega
 ·congr 1
  omega
theorem tdiv_nl (n : Int) (g : Nat) : nl (n.tdiv g) ≤ nl n := by
 unfold nl
 refine lim_mono ?_
 rw [Int.natAbs_tdiv]
 exact Nat.div_le_self _ _
theorem tdiv_neg (Y : Int) (g : Nat) (h0 : g ≠ 0) (h : (g : Int) ∣ Y) : Y.tdiv (g : Nat) < 0 ↔ Y < 0 := by
 obtain ⟨k, rfl⟩ := h
 rw [Int.mul_tdiv_cancel_left _ (by omega)]
 have hp : (0 : Int) < g := by omega
 constructor
 ·intro h
  exact Int.mul_neg_of_pos_of_neg hp h
 ·intro h
  rcases Int.lt_or_le k 0 with h1 | h1
  ·exact h1
  ·have := Int.mul_nonneg (Int.le_of_lt hp) h1
   omega
theorem nl_neg (X : Int) : nl (-X) = nl X := by unfold nl; rw [Int.natAbs_neg]
theorem nl_zero : nl 0 ≤ 1073741824 := by unfold nl; simp [lim_zero]
theorem nl_one : nl 1 ≤ 1073741824 := by unfold nl; simp; rw [lim_one (by omega) (by omega)]; simp
theorem plus_zero (v v0 : Value) (X : Int) (w : World) (hX : nl X ≤ 1073741824) (h1 : IntR w v X) (h0 : IntR w v0 0) :
  Calls Tryz.prog 98 #[v, v0] w fun e w' => ∃ v, e = .returned v ∧ Ext w w' ∧ IntO w' w.heap.size v X := by
 have := plus_c v v0 X 0 w hX nl_zero h1 h0
 rwa [Int.add_zero] at this

set_option maxHeartbeats 3200000 in
theorem copy_f (v1 : Value) (x : Rat) (w : World) (hX1 : nf x ≤ 268435456) (h1 : FracR w v1 x) :
  Calls Tryz.prog 58 #[v1] w fun e w' => ∃ v, e = .returned v ∧ Ext w w' ∧ FracO w' w.heap.size v (x) := by
 have H1 := h1
 obtain ⟨p1, q1, r1, s1, t1, u1, f1, g1, rfl⟩ := h1.shape
 have bn1 : nl x.num ≤ 268435456 := nT (Nat.le_max_left _ _) hX1
 have bd1 : nl (x.den : Int) ≤ 268435456 := nT (Nat.le_max_right _ _) hX1
 have ho := mK (fun w => of_c 0 w (by omega) (by omega))
 have pzn := mK (fun w v0 (h : IntR w (.agg #[.bool p1, .slice q1 r1 s1]) x.num) h0 => plus_zero _ v0 _ w (nT bn1 (by decide)) h h0)
 have pz := mK (fun w v0 (h : IntR w (.agg #[.bool t1, .slice u1 f1 g1]) (x.den : Int)) h0 => plus_zero _ v0 _ w (nT bd1 (by decide)) h h0)
 replace H1 := mK H1
 clear h1
 go_enter Tryz.func58, Tryz.ntmps58
 go_wp2_with fail
 obtain ⟨wb, hwb⟩ : ∃ wb, wb = ((w.alloc (.cells #[.bool p1, .slice q1 r1 s1, .bool t1, .slice u1 f1 g1] 52)).alloc (.cells #[.bool false, .slice none 0 0, .bool false, .slice none 0 0] 52)) := ⟨_, rfl⟩
 have hE : Ext w wb := by rw [hwb]; exact (((xR w).al _).al _)
 have c10 : ∀ W, Ext wb W → W.cell? ⟨w.heap.size, 0, none⟩ = some (.bool p1) := fun W e => e.cell (by rw [hwb]; go_simp)
 have c11 : ∀ W, Ext wb W → W.cell? ⟨w.heap.size, 1, none⟩ = some (.slice q1 r1 s1) := fun W e => e.cell (by rw [hwb]; go_simp)
 have c12 : ∀ W, Ext wb W → W.cell? ⟨w.heap.size, 2, none⟩ = some (.bool t1) := fun W e => e.cell (by rw [hwb]; go_simp)
 have c13 : ∀ W, Ext wb W → W.cell? ⟨w.heap.size, 3, none⟩ = some (.slice u1 f1 g1) := fun W e => e.cell (by rw [hwb]; go_simp)
 have hB : ∀ W, Ext wb W → W.heap[w.heap.size + 1]? = some (.cells #[.bool false, .slice none 0 0, .bool false, .slice none 0 0] 52) := fun W e => e.blk (by rw [hwb]; exact heap_at _ _ _ (by simp))
 have hsz : w.heap.size + 2 ≤ wb.heap.size := by rw [hwb]; simp
 replace H1 := mK (H1.out.ext hE)
 rw [← hwb]
 replace hB := mK hB
 replace hE := mK hE
 clear hwb
 refine (ho.out wb).mono ?_
 rintro e w1 ⟨vo, rfl, hE1, hvo⟩
 obtain ⟨ob, oa, on, oc, rfl⟩ := hvo.r.shape
 have hE1' := mK hE1
 have hvo' := mK hvo.r
 clear hE1 hvo
 go_wp2_with fail
 obtain ⟨w2, hw2⟩ : ∃ w2, w2 = w1.alloc (.cells #[.bool ob, .slice oa on oc] 50) := ⟨_, rfl⟩
 rw [← hw2]
 have hE2 : Ext wb w2 := by rw [hw2]; exact hE1'.out.al _
 have o0 : ∀ W, Ext w2 W → W.cell? ⟨w1.heap.size, 0, none⟩ = some (.bool ob) := fun W e => e.cell (by rw [hw2]; go_simp)
 have o1 : ∀ W, Ext w2 W → W.cell? ⟨w1.heap.size, 1, none⟩ = some (.slice oa on oc) := fun W e => e.cell (by rw [hw2]; go_simp)
 have Ho := mK (show IntR w2 (.agg #[.bool ob, .slice oa on oc]) 0 by rw [hw2]; exact hvo'.out.ext ((xR _).al _))
 replace c10 := fun W (e : Ext w2 W) => c10 W (hE2.trans e)
 replace c11 := fun W (e : Ext w2 W) => c11 W (hE2.trans e)
 replace c12 := fun W (e : Ext w2 W) => c12 W (hE2.trans e)
 replace c13 := fun W (e : Ext w2 W) => c13 W (hE2.trans e)
 replace hB := mK (fun W (e : Ext w2 W) => hB.out W (hE2.trans e))
 replace H1 := mK (H1.out.ext hE2)
 replace hE := mK (hE.out.trans hE2)
 replace hsz : w.heap.size + 2 ≤ w2.heap.size := nT hsz hE2.size
 clear hE1' hvo' hw2 hE2
 apply region_ext [.val _, .val _, .val _, .pred (fun W v => IntO W (w.heap.size + 2) v (x.num)), .val _, .val _, .val _, .pred (fun W v => IntO W (w.heap.size + 2) v ((x.den : Int)))] (by kernel_rfl) (stable_vals _ (stable_vals _ (stable_vals _ (st_intO _ _ (stable_vals _ (stable_vals _ (stable_vals _ (st_intO _ _ trivial))))))))
 refine ⟨fun W hW _ => by go_simp; exact ⟨xR _, rfl⟩, ?_⟩
 refine ⟨fun W hW _ => by go_simp; exact ⟨xR _, rfl⟩, ?_⟩
 refine ⟨fun W hW _ => by go_simp; exact ⟨xR _, rfl⟩, ?_⟩
 refine ⟨fun W hW hF => ?g3, fun v103 => ?_⟩
 case g3 =>
  clear hF
  go_simp
  refine (pzn.out W _ (H1.out.num.ext hW) (Ho.out.ext hW)).mono ?_
  rintro e w' ⟨v, rfl, h1, h2⟩
  exact ⟨v, rfl, h1, h2.mono (nT hsz hW.size)⟩
 refine ⟨fun W hW _ => by go_simp; exact ⟨xR _, rfl⟩, ?_⟩
 refine ⟨fun W hW _ => by go_simp; exact ⟨xR _, rfl⟩, ?_⟩
 refine ⟨fun W hW _ => by go_simp; exact ⟨xR _, rfl⟩, ?_⟩
 refine ⟨fun W hW hF => ?g7, fun v107 => fun W hW hF => ?fin⟩
 case g7 =>
  clear hF
  go_simp
  refine (pz.out W _ (H1.out.den.ext hW) (Ho.out.ext hW)).mono ?_
  rintro e w' ⟨v, rfl, h1, h2⟩
  exact ⟨v, rfl, h1, h2.mono (nT hsz hW.size)⟩
 case fin =>
  have d3 : IntO W (w.heap.size + 2) v103 (x.num) := hF.2.1 rfl
  have d7 : IntO W (w.heap.size + 2) v107 ((x.den : Int)) := hF.1 rfl
  obtain ⟨x1, x2, x3, x4, rfl⟩ := d3.r.shape
  obtain ⟨y1, y2, y3, y4, rfl⟩ := d7.r.shape
  have R : FracO W (w.heap.size + 2) (.agg #[.bool x1, .slice x2 x3 x4, .bool y1, .slice y2 y3 y4]) (x) := ⟨_, _, _, _, _, _, _, _, rfl, by exact d3, by exact d7⟩
  have hBW := hB.out W hW
  have FR := ((R.row (g := w.heap.size + 1) (by omega) #[.bool x1, .slice x2 x3 x4, .bool y1, .slice y2 y3 y4]).mono (show w.heap.size ≤ w.heap.size + 2 by omega))
  have FE := (hE.out.trans hW).row (show w.heap.size ≤ w.heap.size + 1 by omega) #[.bool x1, .slice x2 x3 x4, .bool y1, .slice y2 y3 y4]
  replace FR := mK FR
  replace FE := mK FE
  clear hF R c10 c11 c12 c13 hW
  go_simp
  go_wp2_with (refine wpList_store_row rfl 52 (.tmp 2) (.tmp 13) rfl (w.heap.size + 1) #[.bool x1, .slice x2 x3 x4, .bool y1, .slice y2 y3 y4] rfl rfl 52 _ hBW (by kernel_rfl) rfl (by kernel_rfl) ?_)
  exact bodyPost_ret (results_cell_row rfl _ _ (w.heap.size + 1) 52 #[.bool x1, .slice x2 x3 x4, .bool y1, .slice y2 y3 y4] (0, 0) _ rfl (setRow_heap _ _ _ _ _ _ hBW) Tryz.underlying52 rfl (by kernel_rfl)) rfl ⟨_, rfl, FE.out, FR.out⟩
theorem nought_f (w : World) : Calls Tryz.prog 36 #[] w fun e w' => ∃ v, e = .returned v ∧ Ext w w' ∧ FracO w' w.heap.size v 0 := by
 have o1 := mK (fun w => of_c 1 w (by omega) (by omega))
 go_enter Tryz.func36, Tryz.ntmps36
 go_wp2_with fail
 refine (o1.out _).mono ?_
 rintro e w3 ⟨v, rfl, hE3, hv⟩
 obtain ⟨y1, y2, y3, y4, rfl⟩ := hv.r.shape
 have hB := hE3.blk (heap_alloc_new _ _)
 have hz : IntO w3 (w.alloc (.cells #[.bool false, .slice none 0 0, .bool false, .slice none 0 0] 52)).heap.size (.agg #[.bool false, .slice none 0 0]) 0 := ⟨.slice none 0 0, by simp, by simp [lim_zero]; exact magO_nil _ _⟩
 have R : FracO w3 (w.alloc (.cells #[.bool false, .slice none 0 0, .bool false, .slice none 0 0] 52)).heap.size (.agg #[.bool false, .slice none 0 0, .bool y1, .slice y2 y3 y4]) 0 := ⟨_, _, _, _, _, _, _, _, rfl, hz, hv⟩
 have FR := (R.row (g := w.heap.size) (by simp) #[.bool false, .slice none 0 0, .bool y1, .slice y2 y3 y4]).mono (show w.heap.size ≤ _ by simp)
 have FE := (((xR w).al _).trans hE3).row (nR _) #[.bool false, .slice none 0 0, .bool y1, .slice y2 y3 y4]
 replace FR := mK FR
 replace FE := mK FE
 clear hv hE3 hz R
 go_wp2_with (refine wpList_store_row rfl 52 (.tmp 0) (.tmp 2) rfl w.heap.size #[.bool false, .slice none 0 0, .bool y1, .slice y2 y3 y4] rfl rfl 52 _ hB (by kernel_rfl) rfl (by kernel_rfl) ?_)
 exact bodyPost_ret (results_cell_row rfl _ _ w.heap.size 52 #[.bool false, .slice none 0 0, .bool y1, .slice y2 y3 y4] (0, 0) _ rfl (setRow_heap _ _ _ _ _ _ hB) Tryz.underlying52 rfl (by kernel_rfl)) rfl ⟨_, rfl, FE.out, FR.out⟩
theorem sign_f (v : Value) (x : Rat) (w : World) (hX : nf x ≤ 268435456) (h : FracR w v x) :
  Calls Tryz.prog 184 #[v] w fun e w' => e = .returned (.int .i64 x.num.sign) ∧ Ext w w' := by
 have H := h
 obtain ⟨x1, x2, x3, x4, y1, y2, y3, y4, rfl⟩ := h.shape
 have hn : nl x.num ≤ 1073741824 := nT (Nat.le_max_left _ _) (nT hX (by decide))
 have hs := mK (fun w h => sign_c (.agg #[.bool x1, .slice x2 x3 x4]) x.num w h hn)
 replace H := mK H
 clear h
 go_enter Tryz.func184, Tryz.ntmps184
 go_wp2_with fail
 refine (hs.out _ (H.out.ext ((xR w).al _)).num).mono ?_
 rintro e w' ⟨rfl, hE⟩
 have FE := mK (((xR w).al _).trans hE)
 clear hE
 go_wp2_with fail
 go_ret
 exact ⟨rfl, FE.out⟩
theorem magR_nil (w : World) : MagR w (.slice none 0 0) [] := ⟨none, 0, rfl, nR _, row_nil w⟩
set_option maxHeartbeats 800000 in
theorem rtrim_c (a : Option Addr) (l : List Nat) (c : Nat) (w : World) (hok : OkL l) (hlen : l.length ≤ 4294967296) (hcap : l.length ≤ c) (h : Row w a (limV l)) :
  Calls Tryz.prog 129 #[.slice a l.length c] w fun e w' => e = .returned (.slice a (lim (val l)).length c) ∧ w = w' := by
 obtain ⟨b, off, ha, hc⟩ := h
 replace hc := mK hc
 replace ha := mK ha
 go_enter Tryz.func129, Tryz.ntmps129
 go_wp2_with fail
 go_loop [0] (fun s => ∃ m : Nat, m ≤ l.length ∧ s = .slice a m c ∧ val (l.take m) = val l) (fun s => match s with | .slice _ n _ => n | _ => 0)
 case atStart => exact ⟨l.length, nR _, rfl, by rw [List.take_length]⟩
 case round =>
  obtain ⟨m, hm, rfl, hv⟩ := hrel
  replace hv := mK hv
  by_cases h0 : m = 0
  ·subst h0
   have e0 : lim (val l) = [] := by rw [← hv.out, List.take_zero]; exact lim_zero
   replace e0 := mK (congrArg List.length e0)
   go_wp2_with fail
   go_ret
   exact ⟨by rw [e0.out]; rfl, rfl⟩
  ·obtain ⟨k, rfl⟩ : ∃ k, m = k + 1 := ⟨m - 1, by omega⟩
   have hcell := hc.out k (by rw [limV_length]; omega)
   rw [limV_getD _ _ (by omega)] at hcell
   have ha2 := ha.out (limV_ne (show k < l.length by omega))
   by_cases hz : l.getD k 0 = 0
   ·have HV : Hid (val (l.take k) = val l) := by
     have := val_take_succ l k (by omega)
     rw [hz] at this
     exact mK (by rw [← hv.out, this]; simp)
    rw [hz] at hcell
    replace hz := mK hz
    rw [ha2]
    replace ha2 := mK ha2
    go_wp2_with fail
    go_round
    case rel => exact ⟨k, by omega, rfl, HV.out⟩
    case measure => simp
   ·have e0 : lim (val l) = l.take (k + 1) := by
     rw [← hv.out]
     refine lim_val (okL_take hok _) (.inr ?_)
     rw [List.take_succ_eq_append_getElem (by omega), List.getLastD_eq_getLast?, List.getLast?_append]
     simpa [show k < l.length by omega] using hz
    have hn : (lim (val l)).length = k + 1 := by rw [e0, List.length_take]; omega
    have hz2 : (((l.getD k 0 : Nat) : Int) == 0) = false := by simpa using hz
    replace e0 := mK e0
    replace hn := mK hn
    replace hz := mK hz
    generalize l.getD k 0 = y at hcell hz2
    rw [ha2]
    replace ha2 := mK ha2
    go_wp2_with fail
    go_ret
    exact ⟨by rw [hn.out, ha2.out]; rfl, rfl⟩
def NewV (lo : Nat) (s : Value) : Prop := ∀ g, s.ownBlock = some g → lo ≤ g
def NewI (lo : Nat) (v : Value) : Prop := ∀ b s, v = .agg #[.bool b, s] → NewV lo s
theorem MagO.newV {w : World} {base : Nat} {s : Value} {l : List Nat} (h : MagO w base s l) : NewV base s := by
 obtain ⟨_, ⟨rfl, _⟩ | ⟨g, cap, cur, rfl, h1, _⟩⟩ := h
 ·intro g hg
  cases hg
 ·intro k hk
  cases hk
  exact h1
set_option maxHeartbeats 800000 in
theorem rsigned_k (neg : Bool) (s : Value) (l : List Nat) (w : World) (hok : OkL l) (hlen : l.length ≤ 4294967296) (h : MagR w s l) :
  Calls Tryz.prog 132 #[.bool neg, s] w fun e w' => ∃ v, e = .returned v ∧ IntR w' v (sg neg (val l)) ∧ Ext w w' ∧ ∀ lo, NewV lo s → NewI lo v := by
 obtain ⟨a, c, rfl, hcap, hrow⟩ := h
 replace hrow := mK hrow
 have HT := fun w' (e : Row w' a (limV l)) => rtrim_c a l c w' hok hlen hcap e
 by_cases h0 : val l = 0
 ·rw [h0, lim_zero] at HT
  have hr : ∀ w' : World, IntR w' (.agg #[.bool false, .slice none 0 0]) (sg neg (val l)) := fun w' =>
   ⟨.slice none 0 0, by rw [sg_neg, h0]; simp, by rw [sg_natAbs, h0, lim_zero]; exact magR_nil _⟩
  replace HT := mK HT
  clear h0
  go_enter Tryz.func132, Tryz.ntmps132
  go_wp2_with fail
  refine (HT.out _ (hrow.out.ext ((xR _).al _))).mono ?_
  rintro e w' ⟨rfl, rfl⟩
  go_wp2_with fail
  exact bodyPost_ret (v := .agg #[.bool false, .slice none 0 0]) (by simp [results, Tryz.results132, go_sem]) rfl ⟨_, rfl, hr _, (xR _).al _, fun _ _ _ _ e => by cases e; intro g hg; cases hg⟩
 ·have hne : (((lim (val l)).length : Int) == 0) = false := by
   rw [lim_pos h0]
   simp
   omega
  have hr : ∀ w' : World, Ext w w' → IntR w' (.agg #[.bool neg, .slice a (lim (val l)).length c]) (sg neg (val l)) := fun w' e =>
   ⟨.slice a (lim (val l)).length c, by rw [sg_neg]; simp [h0], by rw [sg_natAbs]; exact MagR.ext ⟨_, _, rfl, nT (lim_length_val hok) hcap, hrow.out.lim hok⟩ e⟩
  replace HT := mK HT
  clear h0
  go_enter Tryz.func132, Tryz.ntmps132
  go_wp2_with fail
  refine (HT.out _ (hrow.out.ext ((xR _).al _))).mono ?_
  rintro e w' ⟨rfl, rfl⟩
  go_wp2_with fail
  exact bodyPost_ret (v := .agg #[.bool neg, .slice a (lim (val l)).length c]) (by simp [results, Tryz.results132, go_sem]) rfl ⟨_, rfl, hr _ ((xR _).al _), (xR _).al _, fun lo h _ _ e => by cases e; cases a <;> exact h⟩
theorem rsigned_c (neg : Bool) (s : Value) (l : List Nat) (w : World) (hok : OkL l) (hlen : l.length ≤ 4294967296) (h : MagR w s l) :
  Calls Tryz.prog 132 #[.bool neg, s] w fun e w' => ∃ v, e = .returned v ∧ IntR w' v (sg neg (val l)) ∧ Ext w w' :=
 (rsigned_k neg s l w hok hlen h).mono fun _ _ ⟨v, h1, h2, h3, _⟩ => ⟨v, h1, h2, h3⟩

theorem sgn_lt {m n : Nat} (h : m < n) : ((m : Int) - n).sign = -1 := Int.sign_eq_neg_one_of_neg (by omega)
theorem sgn_gt {m n : Nat} (h : n < m) : ((m : Int) - n).sign = 1 := Int.sign_eq_one_of_pos (by omega)
theorem sgn_eq {m n : Nat} (h : m = n) : ((m : Int) - n).sign = 0 := by subst h; simp
set_option maxHeartbeats 1600000 in
theorem rcmp_c (a a' : Option Addr) (c c' : Nat) (m n : Nat) (w : World) (hl : (lim m).length ≤ 4294967296) (hl' : (lim n).length ≤ 4294967296)
  (h : Row w a (limV (lim m))) (h' : Row w a' (limV (lim n))) :
  Calls Tryz.prog 186 #[.slice a (lim m).length c, .slice a' (lim n).length c'] w fun e w' => e = .returned (.int .i64 ((m : Int) - n).sign) ∧ Ext w w' := by
 obtain ⟨l, hlm⟩ : ∃ l, l = lim m := ⟨_, rfl⟩
 obtain ⟨l', hln⟩ : ∃ l', l' = lim n := ⟨_, rfl⟩
 have hok : OkL l := hlm ▸ lim_ok m
 have hok' : OkL l' := hln ▸ lim_ok n
 have hv : val l = m := by rw [hlm, val_lim]
 have hv' : val l' = n := by rw [hln, val_lim]
 rw [← hlm] at hl h ⊢
 rw [← hln] at hl' h' ⊢
 obtain ⟨R, hR⟩ : ∃ R, R = ((m : Int) - n).sign := ⟨_, rfl⟩
 have RL : m < n → R = -1 := fun h => hR ▸ sgn_lt h
 have RG : n < m → R = 1 := fun h => hR ▸ sgn_gt h
 have RE : m = n → R = 0 := fun h => hR ▸ sgn_eq h
 rw [← hR]
 clear hR
 by_cases hlen : l.length = l'.length
 ·have hE : Hid (l.length = l'.length) := mK hlen
  obtain ⟨b, off, ha, hc⟩ := h
  obtain ⟨b', off', ha', hc'⟩ := h'
  replace ha := mK ha
  replace ha' := mK ha'
  replace hc := mK hc
  replace hc' := mK hc'
  replace hv := mK hv
  replace hv' := mK hv'
  replace RL := mK RL
  replace RG := mK RG
  replace RE := mK RE
  rw [← hlen]
  clear hlm hln hl' hlen
  go_enter Tryz.func186, Tryz.ntmps186
  go_wp2_with fail
  go_loopw [5] (fun i wr => ∃ k : Nat, k ≤ l.length ∧ i = .int .i64 ((k : Int) - 1) ∧ l.drop k = l'.drop k ∧ Ext w wr) (fun i _ => (intOf i + 1).toNat)
  case atStart => exact ⟨l.length, nR _, rfl, by rw [List.drop_length, hE.out, List.drop_length], xR _⟩
  case round =>
   obtain ⟨k, hk, rfl, hd, he⟩ := hrel
   replace hd := mK hd
   replace he := mK he
   by_cases h0 : k = 0
   ·subst h0
    have e : l = l' := by simpa using hd.out
    have hr := RE.out (by rw [← hv.out, ← hv'.out, e])
    subst hr
    clear e
    go_wp2_with fail
    go_ret
    exact ⟨rfl, he.out⟩
   ·obtain ⟨j, rfl⟩ : ∃ j, k = j + 1 := ⟨k - 1, by omega⟩
    have h1 := he.out.cell (hc.out j (by rw [limV_length]; omega))
    have h2 := he.out.cell (hc'.out j (by rw [limV_length]; have := hE.out; omega))
    rw [limV_getD _ _ (by omega)] at h1
    rw [limV_getD _ _ (by have := hE.out; omega)] at h2
    rw [ha.out (limV_ne (show j < l.length by omega)), ha'.out (limV_ne (show j < l'.length by have := hE.out; omega))]
    have hx1 : ((j + 1 : Nat) : Int) - 1 = (j : Int) := by omega
    rw [hx1]
    have d1 : l.drop j = l.getD j 0 :: l.drop (j + 1) := by
     rw [List.drop_eq_getElem_cons (show j < l.length by omega)]; simp [show j < l.length by omega]
    have d2 : l'.drop j = l'.getD j 0 :: l'.drop (j + 1) := by
     have := hE.out
     rw [List.drop_eq_getElem_cons (show j < l'.length by omega)]; simp [show j < l'.length by omega]
    have hlt : (l.getD j 0 < l'.getD j 0 → val l < val l') ∧ (l'.getD j 0 < l.getD j 0 → val l' < val l) :=
     ⟨val_lt_of hok j (by omega) hE.out hd.out, val_lt_of hok' j (by have := hE.out; omega) hE.out.symm hd.out.symm⟩
    replace hlt := mK hlt
    clear hx1
    rcases Nat.lt_trichotomy (l.getD j 0) (l'.getD j 0) with hy | hy | hy
    ·have hr := RL.out (by rw [← hv.out, ← hv'.out]; exact hlt.out.1 hy)
     subst hr
     have hy2 : (((l.getD j 0 : Nat) : Int)) < ((l'.getD j 0 : Nat) : Int) := by omega
     clear d1 d2
     replace hy := mK hy
     generalize l.getD j 0 = y at h1 hy2
     generalize l'.getD j 0 = y' at h2 hy2
     go_wp2_with fail
     go_quiet (fail)
     go_wp2_with fail
     go_ret
     exact ⟨rfl, he.out.drN _⟩
    ·have hdn : Hid (l.drop j = l'.drop j) := mK (by rw [d1, d2, hy, hd.out])
     rw [← hy] at h2
     clear d1 d2
     replace hy := mK hy
     generalize l.getD j 0 = y at h1 h2
     go_wp2_with fail
     go_quiet (fail)
     go_wp2_with fail
     go_quiet (fail)
     go_wp2_with fail
     go_roundw
     case rel => exact ⟨j, by omega, by go_num, hdn.out, he.out.drN _⟩
     case measure => simp [intOf] <;> omega
    ·have hr := RG.out (by rw [← hv.out, ← hv'.out]; exact hlt.out.2 hy)
     subst hr
     have hy2 : ¬ ((((l.getD j 0 : Nat) : Int)) < ((l'.getD j 0 : Nat) : Int)) := by omega
     have hy3 : (((l'.getD j 0 : Nat) : Int)) < ((l.getD j 0 : Nat) : Int) := by omega
     clear d1 d2
     replace hy := mK hy
     generalize l.getD j 0 = y at h1 hy2 hy3
     generalize l'.getD j 0 = y' at h2 hy2 hy3
     go_wp2_with fail
     go_quiet (fail)
     go_wp2_with fail
     go_quiet (fail)
     go_wp2_with fail
     go_ret
     exact ⟨rfl, (he.out.drN _).drN _⟩
 ·have hr : (l.length < l'.length → R = -1) ∧ (l'.length < l.length → R = 1) := by
   subst hlm
   subst hln
   exact ⟨fun h => RL (lt_of_lim_length h), fun h => RG (lt_of_lim_length h)⟩
  have hne : (((l.length : Nat) : Int) != ((l'.length : Nat) : Int)) = true := ne_cast hlen
  replace hr := mK hr
  clear RL RG RE hlm hln hok hok' hv hv' h h'
  by_cases hlt : l.length < l'.length
  ·have hr1 := hr.out.1 hlt
   subst hr1
   replace hlen := mK hlen
   go_enter Tryz.func186, Tryz.ntmps186
   go_wp2_with fail
   go_ret
   exact ⟨rfl, xR _⟩
  ·have hr1 := hr.out.2 (by omega)
   subst hr1
   replace hlen := mK hlen
   go_enter Tryz.func186, Tryz.ntmps186
   go_wp2_with fail
   go_ret
   exact ⟨rfl, xR _⟩
end Go.Proofs.YtjelnmokcpoofaaGreatDoor
