/-
  As Free, but an operation may be told to give a value whose blocks are all new: those of two such lie apart. No program. law01: TwinInt, once more: the twin's row and all that is known of it. A load of a part of a row, by a law: no program. ratio.Copy once more, its two rows apart; a part in memory of its own (catalog.copied): printed by tools/gen_copy.py. A store into a part of a row, by a law; a load of a part where blocks lie apart (Aloof): no program. Parts as data; a part in rows of its own: catalog.copied: printed by tools/gen_copied.py. The catalogue's map: parts by names, read as a list. The catalogue that is gone: its methods, and the reference's: printed by tools/gen_gone.py. ray: Check. The Book: marks; entries. law01: SameFrac, SameElement, SamePart of whatever limbs: printed by tools/gen_samel.py. A region's load of a whole row, by the row's law: no program. (The walk's own load of 16 cells costs the kernel 14 s and 2 GB.)
-/
import Derived.Test.YtjelnmokcpoofaaGreatDoorTAE
import Derived.Test.YtjelnmokcpoofaaGreatDoorTAA
import Derived.Test.YtjelnmokcpoofaaGreatDoorTAD
import Derived.Maps.OwnSet
import Derived.Maps.Ext
import Derived.LoopN
import Derived.Deep.LoopGhost
import Derived.Test.YtjelnmokcpoofaaGreatDoorProg
namespace Go.Proofs.YtjelnmokcpoofaaGreatDoor.Aloof
set_option maxRecDepth 100000
open Go Go.RowKit Go.Proofs
def blk1 : Value → Option Nat
 | .slice (some a) _ _ => some a.block
 | _ => none
def blks (v : Value) : List Nat := v.cells.toList.filterMap blk1
inductive FSpec where
 | val (c : Value)
 | pred (Φ : World → Value → Prop)
 | fresh (Φ : World → Value → Prop)
def FSpec.ok : FSpec → World → Value → Prop
 | .val c, _, v => v = c
 | .pred Φ, W, v => Φ W v
 | .fresh Φ, W, v => Φ W v ∧ ∀ g ∈ blks v, g < W.heap.size
def FSpec.isFresh : FSpec → Bool
 | .fresh _ => true
 | _ => false
def givesV (P : Program) (S : World → Value → Prop) : Result Next → Prop
 | .ok (.value v) w => S w v
 | .ok .skip w => S w undef
 | .ok (.enter f args) w => Calls P f args w fun e w' => ∃ v, e = .returned v ∧ S w' v
 | _ => False
@[go_sem] theorem givesV_value (P : Program) (S : World → Value → Prop) (v : Value) (w : World) : givesV P S (.ok (.value v) w) = S w v := rfl
@[go_sem] theorem givesV_skip (P : Program) (S : World → Value → Prop) (w : World) : givesV P S (.ok .skip w) = S w undef := rfl
@[go_sem] theorem givesV_enter (P : Program) (S : World → Value → Prop) (f : FuncId) (args : Array Value) (w : World) : givesV P S (.ok (.enter f args) w) = Calls P f args w fun e w' => ∃ v, e = .returned v ∧ S w' v := rfl
theorem upon_of_gives {P : Program} {S : World → Value → Prop} {o : Oper} {a : Act} {K : Act → World → Prop} {Q : Exit → Act → World → Prop} {r : Result Next}
  (h : givesV P S r) (hK : ∀ w v, S w v → K (a.put o.dst v) w) : o.upon P a K Q r := by
 unfold givesV at h
 split at h
 ·exact hK _ _ h
 ·exact hK _ _ h
 ·refine Calls.mono h fun e w' he => ?_
  obtain ⟨v, rfl, hs⟩ := he
  exact hK _ _ hs
 ·exact h.elim
def leans (l : List Oper) (o : Oper) (j : Nat) : Bool :=
 match (l[j]?).bind (·.dst) with
 | some d => (o.looksAt l.toArray).contains d
 | none => false
def factsHold (sel : Nat → Bool) (W : World) : List (Nat × FSpec × Value) → Prop
 | [] => True
 | p :: F => (sel p.1 = true → p.2.1.ok W p.2.2) ∧ factsHold sel W F
theorem factsHold_of {sel : Nat → Bool} {W : World} : ∀ {F : List (Nat × FSpec × Value)}, (∀ p ∈ F, sel p.1 = true → p.2.1.ok W p.2.2) → factsHold sel W F
 | [], _ => trivial
 | p :: _, h => ⟨h p (List.mem_cons_self ..), factsHold_of fun q hq => h q (List.mem_cons_of_mem _ hq)⟩
def freeSteps (P : Program) (l0 : List Oper) (R : World → World → Prop) (w0 : World) (Q : Exit → Act → World → Prop) : Nat → List FSpec → List Oper → Act → List (Nat × FSpec × Value) → Prop
 | _, [], l, a, F => ∀ W, R w0 W → factsHold (fun _ => true) W F → (∀ p q, p ∈ F → q ∈ F → p.2.1.isFresh = true → q.2.1.isFresh = true → p.1 ≠ q.1 → ∀ g ∈ blks p.2.2, g ∉ blks q.2.2) → wpList P l0.toArray Q l a W
 | _, _ :: _, [], _, _ => False
 | k, .val c :: ss, o :: l, a, F =>
  (∀ W, R w0 W → factsHold (leans l0 o) W F → if Region.wanted o (yielded l0.toArray a.tmps) then givesV P (fun W' v => R W W' ∧ v = c) ((execOp a.eval o).run P W) else undef = c) ∧
   freeSteps P l0 R w0 Q (k + 1) ss l (a.put o.dst c) F
 | k, .pred Φ :: ss, o :: l, a, F =>
  (∀ W, R w0 W → factsHold (leans l0 o) W F → if Region.wanted o (yielded l0.toArray a.tmps) then givesV P (fun W' v => R W W' ∧ Φ W' v) ((execOp a.eval o).run P W) else Φ W undef) ∧
   ∀ v, freeSteps P l0 R w0 Q (k + 1) ss l (a.put o.dst v) ((k, .pred Φ, v) :: F)
 | k, .fresh Φ :: ss, o :: l, a, F =>
  (∀ W, R w0 W → factsHold (leans l0 o) W F → if Region.wanted o (yielded l0.toArray a.tmps) then givesV P (fun W' v => R W W' ∧ Φ W' v ∧ ∀ g ∈ blks v, W.heap.size ≤ g ∧ g < W'.heap.size) ((execOp a.eval o).run P W) else False) ∧
   ∀ v, freeSteps P l0 R w0 Q (k + 1) ss l (a.put o.dst v) ((k, .fresh Φ, v) :: F)
def hasEdge (o : Oper) (j : Nat) : Bool := o.after.toList.any fun e => Region.binds .any e && e.on == j
def ancB (l : List Oper) : Nat → Oper → Nat → Bool
 | 0, o, j => hasEdge o j
 | f + 1, o, j => hasEdge o j || o.after.toList.any fun e => Region.binds .any e && (match l[e.on]? with | some o' => ancB l f o' j | none => false)
def okOper (l : List Oper) (n i : Nat) (o : Oper) : Bool :=
 (o.after.toList.all fun e => !Region.binds .any e || decide (e.on < i)) &&
 (if i < n then
  o.dst.isSome && (List.range l.length).all fun j => match l[j]? with
   | some oj => (match oj.dst with
    | some d => (!(o.looksAt l.toArray).contains d || (decide (j < i) && hasEdge o j)) && (j == i || o.dst != some d)
    | none => true)
   | none => true
 else (List.range i).all fun j => ancB l 16 o j)
def okFree (n size : Nat) (l : List Oper) : Bool :=
 Region.noSelect l.toArray && decide (n ≤ l.length) && (l.all fun o => match o.dst with | some d => decide (d < size) | none => true) &&
  (List.range l.length).all fun i => match l[i]? with | some o => okOper l n i o | none => true
section
variable {P : Program} {l0 : List Oper} {R : World → World → Prop} {w0 : World} {Q : Exit → Act → World → Prop}
def frameAt (a0 : Act) (l : List Oper) (vs : Nat → Value) : Nat → Act
 | 0 => a0
 | k + 1 => match l[k]? with
  | some o => (frameAt a0 l vs k).put o.dst (vs k)
  | none => frameAt a0 l vs k
def factsAt (specs : List FSpec) (vs : Nat → Value) : Nat → List (Nat × FSpec × Value)
 | 0 => []
 | k + 1 => match specs[k]? with
  | some (.pred Φ) => (k, .pred Φ, vs k) :: factsAt specs vs k
  | some (.fresh Φ) => (k, .fresh Φ, vs k) :: factsAt specs vs k
  | _ => factsAt specs vs k
def fits (specs : List FSpec) (vs : Nat → Value) : Prop := ∀ k c, specs[k]? = some (.val c) → vs k = c
theorem steps_at {specs : List FSpec} {a0 : Act} (h : freeSteps P l0 R w0 Q 0 specs l0 a0 []) (vs : Nat → Value) (hv : fits specs vs) :
  ∀ k, k ≤ specs.length → freeSteps P l0 R w0 Q k (specs.drop k) (l0.drop k) (frameAt a0 l0 vs k) (factsAt specs vs k) := by
 intro k
 induction k with
 | zero => intro _; simpa [frameAt, factsAt] using h
 | succ k ih =>
  intro hk
  have ih := ih (by omega)
  rw [List.drop_eq_getElem_cons (show k < specs.length by omega)] at ih
  have hs : specs[k]? = some specs[k] := List.getElem?_eq_getElem (by omega)
  by_cases hl : k < l0.length
  ·rw [List.drop_eq_getElem_cons hl] at ih
   have ho : l0[k]? = some l0[k] := List.getElem?_eq_getElem hl
   generalize hsp : specs[k] = s at ih hs
   cases s with
   | val c =>
    have hc := hv k c hs
    simp only [freeSteps] at ih
    simp only [frameAt, ho, factsAt, hs, hc]
    exact ih.2
   | pred Φ =>
    simp only [freeSteps] at ih
    simp only [frameAt, ho, factsAt, hs]
    exact ih.2 (vs k)
   | fresh Φ =>
    simp only [freeSteps] at ih
    simp only [frameAt, ho, factsAt, hs]
    exact ih.2 (vs k)
  ·rw [List.drop_eq_nil_of_le (show l0.length ≤ k by omega)] at ih
   simp [freeSteps] at ih
theorem frameAt_defers (a0 : Act) (l : List Oper) (vs : Nat → Value) (k : Nat) : (frameAt a0 l vs k).defers = a0.defers := by
 induction k with
 | zero => rfl
 | succ k ih =>
  simp only [frameAt]
  split
  ·rename_i o _
   cases h : o.dst <;> simp [Act.put, ih]
  ·exact ih
theorem frameAt_size (a0 : Act) (l : List Oper) (vs : Nat → Value) (k : Nat) : (frameAt a0 l vs k).tmps.size = a0.tmps.size := by
 induction k with
 | zero => rfl
 | succ k ih =>
  simp only [frameAt]
  split
  ·rename_i o _
   cases h : o.dst <;> simp [Act.put, ih]
  ·exact ih
theorem frameAt_other (a0 : Act) (l : List Oper) (vs : Nat → Value) (k t : Nat) (h : ∀ j o, j < k → l[j]? = some o → o.dst ≠ some t) :
  (frameAt a0 l vs k).tmps[t]? = a0.tmps[t]? := by
 induction k with
 | zero => rfl
 | succ k ih =>
  have ih := ih fun j o hj => h j o (by omega)
  simp only [frameAt]
  split
  ·rename_i o ho
   have := h k o (by omega) ho
   cases hd : o.dst with
   | none => simpa [Act.put, hd] using ih
   | some d =>
    have hne : d ≠ t := fun e => this (by rw [hd, e])
    simp only [Act.put, Array.getElem?_setIfInBounds_ne hne]
    exact ih
  ·exact ih
theorem frameAt_own (a0 : Act) (l : List Oper) (vs : Nat → Value) (k t j : Nat) (o : Oper) (hj : j < k) (ho : l[j]? = some o) (hd : o.dst = some t) (ht : t < a0.tmps.size)
  (h : ∀ i o', i ≠ j → l[i]? = some o' → o'.dst ≠ some t) : (frameAt a0 l vs k).tmps[t]? = some (vs j) := by
 induction k with
 | zero => omega
 | succ k ih =>
  simp only [frameAt]
  by_cases hjk : j = k
  ·subst hjk
   rw [ho]
   simp only [Act.put, hd]
   rw [Array.getElem?_setIfInBounds_self_of_lt (by rw [frameAt_size]; exact ht)]
  ·have ih := ih (by omega)
   split
   ·rename_i o' ho'
    have := h k o' (fun e => hjk e.symm) ho'
    cases hd' : o'.dst with
    | none => simpa [Act.put, hd'] using ih
    | some d =>
     have hne : d ≠ t := fun e => this (by rw [hd', e])
     simp only [Act.put, Array.getElem?_setIfInBounds_ne hne]
     exact ih
   ·exact ih
theorem mem_factsAt {specs : List FSpec} {vs : Nat → Value} {k : Nat} {p : Nat × FSpec × Value} (h : p ∈ factsAt specs vs k) : p.1 < k ∧ specs[p.1]? = some p.2.1 ∧ p.2.2 = vs p.1 := by
 induction k with
 | zero => simp [factsAt] at h
 | succ k ih =>
  simp only [factsAt] at h
  split at h
  ·rename_i Φ hs
   rcases List.mem_cons.1 h with h | h
   ·subst h
    exact ⟨by simp, hs, rfl⟩
   ·have := ih h
    exact ⟨by omega, this.2⟩
  ·rename_i Φ hs
   rcases List.mem_cons.1 h with h | h
   ·subst h
    exact ⟨by simp, hs, rfl⟩
   ·have := ih h
    exact ⟨by omega, this.2⟩
  ·have := ih h
   exact ⟨by omega, this.2⟩
theorem filter_le {p q : Nat → Bool} : ∀ (l : List Nat), (∀ x ∈ l, q x = true → p x = true) → (l.filter q).length ≤ (l.filter p).length
 | [], _ => nR _
 | x :: l, h => by
  have ih := filter_le l fun y hy => h y (List.mem_cons_of_mem _ hy)
  by_cases hq : q x = true
  ·simp [hq, h x (List.mem_cons_self ..) hq, ih]
  ·by_cases hp : p x = true
   ·simp [hq, hp]; omega
   ·simp [hq, hp, ih]
theorem filter_lt {p q : Nat → Bool} {i : Nat} : ∀ (l : List Nat), (∀ x ∈ l, q x = true → p x = true) → i ∈ l → p i = true → q i = false → (l.filter q).length < (l.filter p).length
 | x :: l, h, hi, hp, hq => by
  have hl := filter_le l fun y hy => h y (List.mem_cons_of_mem _ hy)
  by_cases hx : x = i
  ·subst hx
   simp [hp, hq]
   omega
  ·have hi' : i ∈ l := by
    rcases List.mem_cons.1 hi with e | e
    ·exact absurd e.symm hx
    ·exact e
   have ih := filter_lt l (fun y hy => h y (List.mem_cons_of_mem _ hy)) hi' hp hq
   by_cases hqx : q x = true
   ·simp [hqx, h x (List.mem_cons_self ..) hqx, ih]
   ·by_cases hpx : p x = true
    ·simp [hqx, hpx]; omega
    ·simp [hqx, hpx, ih]
def left (l : List Oper) (listed : Array Bool) : Nat := ((List.range l.length).filter fun i => !listed.getD i true).length
theorem left_set {l : List Oper} {listed : Array Bool} {i : Nat} (hi : i < l.length) (h : listed.getD i true = false) : left l (listed.setIfInBounds i true) < left l listed := by
 refine filter_lt _ (fun x _ hx => ?_) (List.mem_range.2 hi) (by simpa using h) ?_
 ·by_cases e : i = x
  ·subst e; simpa using h
  ·rwa [getD_set_ne true e] at hx
 ·have hlt : i < listed.size := by
   rcases Nat.lt_or_ge i listed.size with h' | h'
   ·exact h'
   ·simp [Array.getElem?_eq_none h'] at h
  simp [hlt]
theorem left_ge {l : List Oper} {listed : Array Bool} {n : Nat} (h : ∀ i, n ≤ i → i < l.length → listed.getD i true = false) : l.length - n ≤ left l listed := by
 unfold left
 generalize l.length = L at h
 induction L with
 | zero => simp
 | succ L ih =>
  have ih := ih fun i h1 h2 => h i h1 (by omega)
  rw [List.range_succ, List.filter_append, List.length_append]
  by_cases hn : n ≤ L
  ·have := h L hn (by omega)
   have e : ([L].filter fun i => !listed.getD i true) = [L] := List.filter_eq_self.2 fun x hx => by
    simp only [List.mem_singleton] at hx
    rw [hx, this]; rfl
   rw [e, List.length_singleton]
   omega
  ·omega
theorem lt_of_unlisted {listed : Array Bool} {i : Nat} (h : listed.getD i true = false) : i < listed.size := by
 rcases Nat.lt_or_ge i listed.size with h' | h'
 ·exact h'
 ·simp [Array.getElem?_eq_none h'] at h
theorem listed_cases {listed : Array Bool} {i : Nat} (h : i < listed.size) : listed.getD i false = true ∨ listed.getD i true = false := by
 simp [h]
theorem listed_anc {listed : Array Bool} (hcl : ∀ i o, listed.getD i false = true → l0[i]? = some o → ∀ e ∈ o.after, Region.binds .any e = true → listed.getD e.on false = true) :
  ∀ (f : Nat) (o : Oper) (j : Nat), (∀ e ∈ o.after, Region.binds .any e = true → listed.getD e.on false = true) → ancB l0 f o j = true → listed.getD j false = true := by
 have direct : ∀ (o : Oper) (j : Nat), (∀ e ∈ o.after, Region.binds .any e = true → listed.getD e.on false = true) → hasEdge o j = true → listed.getD j false = true := by
  intro o j h he
  simp only [hasEdge, List.any_eq_true, Bool.and_eq_true, beq_iff_eq] at he
  obtain ⟨e, hm, hb, rfl⟩ := he
  exact h e (Array.mem_toList_iff.1 hm) hb
 intro f
 induction f with
 | zero => intro o j h ha; exact direct o j h ha
 | succ f ih =>
  intro o j h ha
  simp only [ancB, Bool.or_eq_true] at ha
  rcases ha with ha | ha
  ·exact direct o j h ha
  ·simp only [List.any_eq_true, Bool.and_eq_true] at ha
   obtain ⟨e, hm, hb, ha⟩ := ha
   split at ha
   ·rename_i o' ho'
    exact ih o' j (hcl e.on o' (h e (Array.mem_toList_iff.1 hm) hb) ho') ha
   ·cases ha
theorem tail_forced {n : Nat} (htail : ∀ i o, n ≤ i → l0[i]? = some o → ∀ j, j < i → ancB l0 16 o j = true) :
  ∀ (k m : Nat) (listed : Array Bool) (a : Act) (W : World) (fuel : Nat), n ≤ m → m + k = l0.length → k ≤ fuel → listed.size = l0.length →
   (∀ i o, listed.getD i false = true → l0[i]? = some o → ∀ e ∈ o.after, Region.binds .any e = true → listed.getD e.on false = true) →
   (∀ i, i < l0.length → (listed.getD i false = true ↔ i < m)) →
   (∀ i o, l0[i]? = some o → ∀ e ∈ o.after, Region.binds .any e = true → e.on < i) →
   wpList P l0.toArray Q (l0.drop m) a W → wpAny P .any l0.toArray Q fuel listed a W := by
 intro k
 induction k with
 | zero =>
  intro m listed a W fuel _ hmk _ hsz _ hlst _ h
  have hr : Region.ready .any l0.toArray listed = [] := by
   cases hr : Region.ready .any l0.toArray listed with
   | nil => rfl
   | cons i r =>
    have := (mem_ready (md := .any) (ops := l0.toArray) (listed := listed) (j := i)).1 (by rw [hr]; simp)
    have hlt := lt_of_unlisted this.1
    have h2 := (hlst i (by omega)).2 (by omega)
    have h3 := this.1
    simp [hlt] at h2 h3
    rw [h2] at h3
    cases h3
  rw [List.drop_eq_nil_of_le (show l0.length ≤ m by omega)] at h
  exact wpAny_done hr h fuel
 | succ k ih =>
  intro m listed a W fuel hnm hmk hfuel hsz hcl hlst hed h
  obtain ⟨fuel, rfl⟩ : ∃ f, fuel = f + 1 := ⟨fuel - 1, by omega⟩
  have hml : m < l0.length := by omega
  have ho : l0[m]? = some l0[m] := List.getElem?_eq_getElem hml
  have hun : listed.getD m true = false := by
   rcases listed_cases (listed := listed) (i := m) (by omega) with h1 | h1
   ·have := (hlst m hml).1 h1; omega
   ·exact h1
  have hready : m ∈ Region.ready .any l0.toArray listed := by
   rw [mem_ready]
   exact ⟨hun, _, by simp [hml], fun e he hb => (hlst e.on (by have := hed m _ ho e he hb; omega)).2 (hed m _ ho e he hb)⟩
  refine ⟨fun h0 => absurd (h0 ▸ hready) (by simp), fun i hi => ?_⟩
  have him : i = m := by
   obtain ⟨h1, o, ho', hall⟩ := mem_ready.1 hi
   have hlt := lt_of_unlisted h1
   rcases Nat.lt_trichotomy i m with hlt' | he | hgt
   ·have h2 := (hlst i (by omega)).2 hlt'
    simp [hlt] at h1 h2
    rw [h2] at h1; cases h1
   ·exact he
   ·have ho'' : l0[i]? = some o := by simpa using ho'
    have := listed_anc hcl 16 o m hall (htail i o (by omega) ho'' m hgt)
    have := (hlst m hml).1 this
    omega
  subst him
  unfold wpOp
  simp only [List.getElem?_toArray, ho]
  rw [List.drop_eq_getElem_cons hml] at h
  simp only [wpList] at h
  have next : ∀ a' W', wpList P l0.toArray Q (l0.drop (i + 1)) a' W' → wpAny P .any l0.toArray Q fuel (listed.setIfInBounds i true) a' W' := by
   intro a' W' h'
   refine ih (i + 1) _ a' W' fuel (by omega) (by omega) (by omega) (by simpa using hsz) ?_ ?_ hed h'
   ·intro j o hj hoj e he hb
    by_cases hij : i = j
    ·subst hij
     rw [ho] at hoj
     cases hoj
     exact getD_set_true ((hlst e.on (by have := hed i _ ho e he hb; omega)).2 (hed i _ ho e he hb))
    ·rw [getD_set_ne false hij] at hj
     exact getD_set_true (hcl j o hj hoj e he hb)
   ·intro j hj
    by_cases hij : i = j
    ·subst hij
     simp [show i < listed.size by omega]
    ·rw [getD_set_ne false hij, hlst j hj]
     omega
  split
  ·rename_i hw
   rw [if_pos hw] at h
   exact h.imp (Oper.wp_mono next) id
  ·rename_i hw
   rw [if_neg hw] at h
   exact next _ _ h
structure OkSpec (l : List Oper) (n size : Nat) : Prop where
 sel : ∀ (j : Nat) (o : Oper) cs b, l[j]? = some o → o.op ≠ .select cs b
 len : n ≤ l.length
 dst : ∀ (j : Nat) (o : Oper) (d : Tmp), l[j]? = some o → o.dst = some d → d < size
 edge : ∀ (i : Nat) (o : Oper), l[i]? = some o → ∀ e ∈ o.after, Region.binds .any e = true → e.on < i
 has : ∀ (i : Nat) (o : Oper), i < n → l[i]? = some o → o.dst.isSome = true
 look : ∀ (i : Nat) (o : Oper) (j : Nat) (oj : Oper) (d : Tmp), i < n → l[i]? = some o → l[j]? = some oj → oj.dst = some d → d ∈ o.looksAt l.toArray → j < i ∧ hasEdge o j = true
 one : ∀ (i : Nat) (o : Oper) (j : Nat) (oj : Oper) (d : Tmp), i < n → l[i]? = some o → l[j]? = some oj → oj.dst = some d → i ≠ j → o.dst ≠ some d
 tail : ∀ (i : Nat) (o : Oper), n ≤ i → l[i]? = some o → ∀ j, j < i → ancB l 16 o j = true
theorem okFree_spec {n size : Nat} {l : List Oper} (h : okFree n size l = true) : OkSpec l n size := by
 simp only [okFree, Bool.and_eq_true, decide_eq_true_eq, List.all_eq_true, List.mem_range] at h
 obtain ⟨⟨⟨h1, h2⟩, h3⟩, h4⟩ := h
 have at_ : ∀ i o, l[i]? = some o → okOper l n i o = true := by
  intro i o ho
  have := h4 i (List.getElem?_eq_some_iff.1 ho).1
  rwa [ho] at this
 refine ⟨fun j o cs b hj => Region.noSelect_spec h1 j o cs b (by simpa using hj), h2, ?_, ?_, ?_, ?_, ?_, ?_⟩
 ·intro j o d ho hd
  have := h3 o (List.mem_of_getElem? ho)
  simpa [hd] using this
 ·intro i o ho e he hb
  have := at_ i o ho
  simp only [okOper, Bool.and_eq_true, List.all_eq_true, Bool.or_eq_true, Bool.not_eq_true', decide_eq_true_eq] at this
  have := this.1 e (Array.mem_toList_iff.2 he)
  rcases this with h | h
  ·rw [h] at hb; cases hb
  ·exact h
 ·intro i o hi ho
  have := at_ i o ho
  simp only [okOper, Bool.and_eq_true, if_pos hi] at this
  exact this.2.1
 ·intro i o j oj d hi ho hj hd hm
  have := at_ i o ho
  simp only [okOper, Bool.and_eq_true, if_pos hi, List.all_eq_true, List.mem_range] at this
  have := this.2.2 j (List.getElem?_eq_some_iff.1 hj).1
  simp only [hj, hd, Bool.and_eq_true, Bool.or_eq_true, Bool.not_eq_true', decide_eq_true_eq] at this
  rcases this.1 with h | h
  ·have := List.contains_iff_mem.2 hm
   rw [h] at this; cases this
  ·exact h
 ·intro i o j oj d hi ho hj hd hne
  have := at_ i o ho
  simp only [okOper, Bool.and_eq_true, if_pos hi, List.all_eq_true, List.mem_range] at this
  have := this.2.2 j (List.getElem?_eq_some_iff.1 hj).1
  simp only [hj, hd, Bool.and_eq_true, Bool.or_eq_true, beq_iff_eq, bne_iff_ne, ne_eq] at this
  rcases this.2 with h | h
  ·exact absurd h.symm hne
  ·exact h
 ·intro i o hi ho j hj
  have := at_ i o ho
  simp only [okOper, Bool.and_eq_true, if_neg (Nat.not_lt.2 hi), List.all_eq_true, List.mem_range] at this
  exact this.2 j hj
structure Midway (l : List Oper) (specs : List FSpec) (R : World → World → Prop) (w0 : World) (a0 : Act) (listed : Array Bool) (a : Act) (W : World) : Prop where
 size : listed.size = l.length
 rel : R w0 W
 defers : a.defers = a0.defers
 tsize : a.tmps.size = a0.tmps.size
 closed : ∀ (i : Nat) (o : Oper), listed.getD i false = true → l[i]? = some o → ∀ e ∈ o.after, Region.binds .any e = true → listed.getD e.on false = true
 other : ∀ (t : Tmp), (∀ (j : Nat) (o : Oper), l[j]? = some o → listed.getD j false = true → o.dst ≠ some t) → a.tmps[t]? = a0.tmps[t]?
 fact : ∀ (j : Nat) (o : Oper) (d : Tmp) (s : FSpec), listed.getD j false = true → l[j]? = some o → o.dst = some d → specs[j]? = some s → s.ok W (a.tmps.getD d undef)
 late : ∀ (j : Nat), specs.length ≤ j → listed.getD j false = false
 apart : ∀ (i j : Nat) (oi oj : Oper) (di dj : Tmp) (si sj : FSpec), i ≠ j → listed.getD i false = true → listed.getD j false = true → l[i]? = some oi → l[j]? = some oj → oi.dst = some di → oj.dst = some dj →
  specs[i]? = some si → specs[j]? = some sj → si.isFresh = true → sj.isFresh = true → ∀ g ∈ blks (a.tmps.getD di undef), g ∉ blks (a.tmps.getD dj undef)
def valuesOf (l : List Oper) (specs : List FSpec) (a : Act) (j : Nat) : Value :=
 match specs[j]? with
 | some (.val c) => c
 | _ => match (l[j]?).bind (·.dst) with
  | some d => a.tmps.getD d undef
  | none => undef
theorem valuesOf_fits (l : List Oper) (specs : List FSpec) (a : Act) : fits specs (valuesOf l specs a) := by
 intro k c h
 simp [valuesOf, h]
theorem Midway.value {specs : List FSpec} {a0 a : Act} {listed : Array Bool} {W : World} (m : Midway l0 specs R w0 a0 listed a W) {j : Nat} {o : Oper} {d : Tmp} (hj : listed.getD j false = true) (ho : l0[j]? = some o) (hd : o.dst = some d) :
  a.tmps.getD d undef = valuesOf l0 specs a j := by
 have hlt : j < specs.length := by
  rcases Nat.lt_or_ge j specs.length with h | h
  ·exact h
  ·rw [m.late j h] at hj; cases hj
 have hs : specs[j]? = some specs[j] := List.getElem?_eq_getElem hlt
 have := m.fact j o d _ hj ho hd hs
 generalize specs[j] = s at this hs
 cases s with
 | val c => simp only [FSpec.ok] at this; simp [valuesOf, hs, this]
 | pred Φ => simp [valuesOf, hs, ho, hd]
 | fresh Φ => simp [valuesOf, hs, ho, hd]
theorem Midway.tmp {specs : List FSpec} {a0 a : Act} {listed : Array Bool} {W : World} (m : Midway l0 specs R w0 a0 listed a W) (ok : OkSpec l0 specs.length a0.tmps.size) (k t : Nat) (hk : k ≤ specs.length)
  (h : ∀ (j : Nat) (oj : Oper), l0[j]? = some oj → oj.dst = some t → j < k ∧ listed.getD j false = true) : (frameAt a0 l0 (valuesOf l0 specs a) k).tmps[t]? = a.tmps[t]? := by
 by_cases hex : ∃ (j : Nat) (oj : Oper), l0[j]? = some oj ∧ oj.dst = some t
 ·obtain ⟨j, oj, hj, hd⟩ := hex
  obtain ⟨hjk, hlj⟩ := h j oj hj hd
  have ht := ok.dst j oj t hj hd
  rw [frameAt_own a0 l0 _ k t j oj hjk hj hd ht fun i o' hne ho' hd' => by
   rcases Nat.lt_or_ge i specs.length with hi | hi
   ·exact ok.one i o' j oj t hi ho' hj hd hne hd'
   ·exact ok.one j oj i o' t (by omega) hj ho' hd' (Ne.symm hne) hd]
  rw [← m.value hlj hj hd]
  have : t < a.tmps.size := by rw [m.tsize]; exact ht
  simp [this]
 ·rw [frameAt_other a0 l0 _ k t fun j o _ ho hd => hex ⟨j, o, ho, hd⟩, m.other t fun j o ho _ hd => hex ⟨j, o, ho, hd⟩]
theorem eval_of_tmps {a b : Act} (o : Oper) (hs : ∀ cs b, o.op ≠ .select cs b) (h : ∀ t, t ∈ o.looksAt l0.toArray → a.tmps[t]? = b.tmps[t]?) : execOp a.eval o = execOp b.eval o := by
 refine execOp_congr o hs fun x hx => ?_
 cases x with
 | tmp t =>
  have := h t (List.mem_append_left _ (List.mem_filterMap.2 ⟨.tmp t, by simpa using hx, rfl⟩))
  simp [Act.eval, this]
 | _ => rfl
theorem wanted_of_tmps {a b : Act} (o : Oper) (h : ∀ t, t ∈ o.looksAt l0.toArray → a.tmps[t]? = b.tmps[t]?) : Region.wanted o (yielded l0.toArray a.tmps) = Region.wanted o (yielded l0.toArray b.tmps) := by
 unfold Region.wanted
 cases hg : o.guard with
 | none => rfl
 | some gw =>
  obtain ⟨g, want⟩ := gw
  have hy : yielded l0.toArray a.tmps g = yielded l0.toArray b.tmps g := by
   unfold yielded
   cases ht : (l0.toArray[g]?).bind (·.dst) with
   | none => rfl
   | some t =>
    have := h t (List.mem_append_right _ (by simp only [hg, ht]; simp))
    simp [this]
  simp only [hy]
theorem Midway.step {specs : List FSpec} {a0 a : Act} {listed : Array Bool} {W : World} (m : Midway l0 specs R w0 a0 listed a W) (ok : OkSpec l0 specs.length a0.tmps.size) (hrf : ∀ a, R a a) (htr : ∀ a b c, R a b → R b c → R a c)
  (hst : ∀ s ∈ specs, ∀ W W' v, R W W' → s.ok W v → s.ok W' v) (h : freeSteps P l0 R w0 Q 0 specs l0 a0 []) {i : Nat} (hi : i < specs.length) (hr : i ∈ Region.ready .any l0.toArray listed) :
  wpOp P l0.toArray Q i (fun a' W' => Midway l0 specs R w0 a0 (listed.setIfInBounds i true) a' W') a W := by
 obtain ⟨hun, o, ho', hedge⟩ := mem_ready.1 hr
 have ho : l0[i]? = some o := by simpa using ho'
 have hil : i < l0.length := (List.getElem?_eq_some_iff.1 ho).1
 have hlt : i < listed.size := by rw [m.size]; exact hil
 have hat := steps_at h (valuesOf l0 specs a) (valuesOf_fits l0 specs a) i (by omega)
 rw [List.drop_eq_getElem_cons hi, List.drop_eq_getElem_cons hil] at hat
 have hs : specs[i]? = some specs[i] := List.getElem?_eq_getElem hi
 have hoi : l0[i] = o := by
  have := List.getElem?_eq_getElem hil
  rw [ho] at this
  exact (Option.some.inj this).symm
 rw [hoi] at hat
 have hfacts : ∀ p ∈ factsAt specs (valuesOf l0 specs a) i, leans l0 o p.1 = true → p.2.1.ok W p.2.2 := by
  intro p hp hl
  obtain ⟨h1, h2, h3⟩ := mem_factsAt hp
  unfold leans at hl
  split at hl
  ·rename_i d hd
   obtain ⟨oj, hj, hdj⟩ := Option.bind_eq_some_iff.1 hd
   have hlook := ok.look i o p.1 oj d hi ho hj hdj (List.contains_iff_mem.1 hl)
   have hlj : listed.getD p.1 false = true := listed_anc (l0 := l0) m.closed 0 o p.1 hedge hlook.2
   have := m.fact p.1 oj d p.2.1 hlj hj hdj h2
   rw [h3, ← m.value hlj hj hdj]
   exact this
  ·cases hl
 have hsame : ∀ t, t ∈ o.looksAt l0.toArray → (frameAt a0 l0 (valuesOf l0 specs a) i).tmps[t]? = a.tmps[t]? := by
  intro t ht
  refine m.tmp ok i t (by omega) fun j oj hj hdj => ?_
  have hlook := ok.look i o j oj t hi ho hj hdj ht
  exact ⟨hlook.1, listed_anc (l0 := l0) m.closed 0 o j hedge hlook.2⟩
 have hev : execOp (frameAt a0 l0 (valuesOf l0 specs a) i).eval o = execOp a.eval o := eval_of_tmps o (fun cs b => ok.sel i o cs b ho) hsame
 have hwa : Region.wanted o (yielded l0.toArray (frameAt a0 l0 (valuesOf l0 specs a) i).tmps) = Region.wanted o (yielded l0.toArray a.tmps) := wanted_of_tmps o hsame
 -- what is left to show of each value
 have next : ∀ W' v, R W W' → specs[i].ok W' v → (specs[i].isFresh = true → ∀ g ∈ blks v, W.heap.size ≤ g) → Midway l0 specs R w0 a0 (listed.setIfInBounds i true) (a.put o.dst v) W' := by
  intro W' v hR hv hfr
  -- what an elder operation's place holds, and the new one's
  have keep : ∀ (j : Nat) (oj : Oper) (d : Tmp), i ≠ j → l0[j]? = some oj → oj.dst = some d → (a.put o.dst v).tmps.getD d undef = a.tmps.getD d undef := by
   intro j oj d hij hoj hdj
   have hnd : o.dst ≠ some d := ok.one i o j oj d hi ho hoj hdj hij
   cases hd : o.dst with
   | none => simp [Act.put]
   | some e =>
    have : e ≠ d := fun e' => hnd (by rw [hd, e'])
    simp [Act.put, Array.getElem?_setIfInBounds_ne this]
  have own : ∀ (d : Tmp), o.dst = some d → (a.put o.dst v).tmps.getD d undef = v := by
   intro d hd
   have hsz : d < a.tmps.size := by rw [m.tsize]; exact ok.dst i _ d ho hd
   simp [Act.put, hd, hsz]
  have elder : ∀ (j : Nat) (oj : Oper) (d : Tmp) (sj : FSpec), listed.getD j false = true → l0[j]? = some oj → oj.dst = some d → specs[j]? = some sj → sj.isFresh = true → ∀ g ∈ blks (a.tmps.getD d undef), g < W.heap.size := by
   intro j oj d sj hj hoj hdj hsj hfj
   have hf := m.fact j oj d sj hj hoj hdj hsj
   cases sj with
   | fresh Φ => exact hf.2
   | val c => cases hfj
   | pred Φ => cases hfj
  refine ⟨by simpa using m.size, htr _ _ _ m.rel hR, ?_, ?_, ?_, ?_, ?_, ?_, ?_⟩
  ·rw [← m.defers]; cases o.dst <;> rfl
  ·rw [← m.tsize]; cases hd : o.dst <;> simp [Act.put]
  ·intro j oj hj hoj e he hb
   by_cases hij : i = j
   ·subst hij
    rw [ho] at hoj; cases hoj
    exact getD_set_true (hedge e he hb)
   ·rw [getD_set_ne false hij] at hj
    exact getD_set_true (m.closed j oj hj hoj e he hb)
  ·intro t ht
   have hne : o.dst ≠ some t := ht i o ho (by simp [hlt])
   rw [← m.other t fun j oj hoj hj => ht j oj hoj (by
    by_cases hij : i = j
    ·subst hij; simp [hlt]
    ·rw [getD_set_ne false hij]; exact hj)]
   cases hd : o.dst with
   | none => rfl
   | some d =>
    have : d ≠ t := fun e => hne (by rw [hd, e])
    simp [Act.put, Array.getElem?_setIfInBounds_ne this]
  ·intro j oj d s hj hoj hdj hsj
   by_cases hij : i = j
   ·subst hij
    rw [ho] at hoj; cases hoj
    rw [hs] at hsj; cases hsj
    have hsz : d < a.tmps.size := by rw [m.tsize]; exact ok.dst i _ d ho hdj
    simpa [Act.put, hdj, hsz] using hv
   ·rw [getD_set_ne false hij] at hj
    have hf := m.fact j oj d s hj hoj hdj hsj
    have hf := hst s (List.mem_of_getElem? hsj) _ _ _ hR hf
    have hnd : o.dst ≠ some d := ok.one i o j oj d hi ho hoj hdj hij
    cases hd : o.dst with
    | none => simpa [Act.put] using hf
    | some e =>
     have : e ≠ d := fun e' => hnd (by rw [hd, e'])
     simpa [Act.put, Array.getElem?_setIfInBounds_ne this] using hf
  ·intro j hj
   rw [getD_set_ne false (show i ≠ j by omega)]
   exact m.late j hj
  ·intro i1 j1 oi oj di dj si sj hne hl1 hl2 ho1 ho2 hd1 hd2 hs1 hs2 hf1 hf2
   by_cases e1 : i = i1
   ·subst e1
    have hij : i ≠ j1 := hne
    rw [ho] at ho1; cases ho1
    rw [hs] at hs1; cases hs1
    rw [getD_set_ne false hij] at hl2
    rw [own di hd1, keep j1 oj dj hij ho2 hd2]
    intro g hg1 hg2
    have h1 := hfr hf1 g hg1
    have h2 := elder j1 oj dj sj hl2 ho2 hd2 hs2 hf2 g hg2
    omega
   ·rw [getD_set_ne false e1] at hl1
    by_cases e2 : i = j1
    ·subst e2
     rw [ho] at ho2; cases ho2
     rw [hs] at hs2; cases hs2
     rw [own dj hd2, keep i1 oi di e1 ho1 hd1]
     intro g hg1 hg2
     have h1 := hfr hf2 g hg2
     have h2 := elder i1 oi di si hl1 ho1 hd1 hs1 hf1 g hg1
     omega
    ·rw [getD_set_ne false e2] at hl2
     rw [keep i1 oi di e1 ho1 hd1, keep j1 oj dj e2 ho2 hd2]
     exact m.apart i1 j1 oi oj di dj si sj hne hl1 hl2 ho1 ho2 hd1 hd2 hs1 hs2 hf1 hf2
 unfold wpOp
 simp only [List.getElem?_toArray, ho]
 generalize hsp : specs[i] = s at hat next
 cases s with
 | val c =>
  simp only [freeSteps] at hat
  have hone := hat.1 W m.rel (factsHold_of hfacts)
  rw [hwa, hev] at hone
  split
  ·rename_i hw
   rw [if_pos hw] at hone
   refine .inl (upon_of_gives hone fun w' v hv => next _ _ hv.1 hv.2 (fun h => by cases h))
  ·rename_i hw
   rw [if_neg hw] at hone
   exact next W undef (hrf W) hone (fun h => by cases h)
 | pred Φ =>
  simp only [freeSteps] at hat
  have hone := hat.1 W m.rel (factsHold_of hfacts)
  rw [hwa, hev] at hone
  split
  ·rename_i hw
   rw [if_pos hw] at hone
   refine .inl (upon_of_gives hone fun w' v hv => next _ _ hv.1 hv.2 (fun h => by cases h))
  ·rename_i hw
   rw [if_neg hw] at hone
   exact next W undef (hrf W) hone (fun h => by cases h)
 | fresh Φ =>
  simp only [freeSteps] at hat
  have hone := hat.1 W m.rel (factsHold_of hfacts)
  rw [hwa, hev] at hone
  split
  ·rename_i hw
   rw [if_pos hw] at hone
   refine .inl (upon_of_gives hone fun w' v hv => ?_)
   obtain ⟨h1, h2, h3⟩ := hv
   exact next _ _ h1 ⟨h2, fun g hg => (h3 g hg).2⟩ (fun _ g hg => (h3 g hg).1)
  ·rename_i hw
   rw [if_neg hw] at hone
   exact hone.elim
theorem Midway.done {specs : List FSpec} {a0 a : Act} {listed : Array Bool} {W : World} (m : Midway l0 specs R w0 a0 listed a W) (ok : OkSpec l0 specs.length a0.tmps.size) (hall : ∀ j, j < specs.length → listed.getD j false = true) :
  a = frameAt a0 l0 (valuesOf l0 specs a) specs.length ∧ ∀ p ∈ factsAt specs (valuesOf l0 specs a) specs.length, p.2.1.ok W p.2.2 := by
 refine ⟨?_, fun p hp => ?_⟩
 ·obtain ⟨tm, df⟩ := a
  have hdf := frameAt_defers a0 l0 (valuesOf l0 specs ⟨tm, df⟩) specs.length
  have htm : tm = (frameAt a0 l0 (valuesOf l0 specs ⟨tm, df⟩) specs.length).tmps := by
   refine Array.ext_getElem? fun t => ?_
   by_cases hex : ∃ (j : Nat) (oj : Oper), l0[j]? = some oj ∧ oj.dst = some t ∧ specs.length ≤ j
   ·obtain ⟨j, oj, hj, hd, hge⟩ := hex
    by_cases hin : ∃ (i : Nat) (oi : Oper), l0[i]? = some oi ∧ oi.dst = some t ∧ i < specs.length
    ·obtain ⟨i, oi, hi, hdi, hlt⟩ := hin
     exact absurd hdi (ok.one i oi j oj t hlt hi hj hd (by omega))
    ·rw [frameAt_other a0 l0 _ _ t fun i o hi ho hd' => hin ⟨i, o, ho, hd', hi⟩]
     refine m.other t fun i o ho hl hd' => ?_
     rcases Nat.lt_or_ge i specs.length with h | h
     ·exact hin ⟨i, o, ho, hd', h⟩
     ·rw [m.late i h] at hl; cases hl
   ·refine (m.tmp ok specs.length t (nR _) fun j oj hj hd => ?_).symm
    have hlt : j < specs.length := by
     rcases Nat.lt_or_ge j specs.length with h | h
     ·exact h
     ·exact absurd ⟨j, oj, hj, hd, h⟩ hex
    exact ⟨hlt, hall j hlt⟩
  have h1 : (frameAt a0 l0 (valuesOf l0 specs ⟨tm, df⟩) specs.length).defers = df := by rw [hdf, ← m.defers]
  generalize frameAt a0 l0 (valuesOf l0 specs ⟨tm, df⟩) specs.length = f at htm h1
  obtain ⟨ft, fd⟩ := f
  simp only at htm h1
  rw [htm, h1]
 ·obtain ⟨h1, h2, h3⟩ := mem_factsAt hp
  have hil : p.1 < l0.length := by have := ok.len; omega
  have ho : l0[p.1]? = some l0[p.1] := List.getElem?_eq_getElem hil
  rw [h3]
  cases hd : l0[p.1].dst with
  | some d =>
   rw [← m.value (hall p.1 h1) ho hd]
   exact m.fact p.1 _ d _ (hall p.1 h1) ho hd h2
  | none =>
   have := ok.has p.1 _ h1 ho
   simp [hd] at this
theorem free_any {specs : List FSpec} {a0 : Act} (ok : OkSpec l0 specs.length a0.tmps.size) (hrf : ∀ a, R a a) (htr : ∀ a b c, R a b → R b c → R a c)
  (hst : ∀ s ∈ specs, ∀ W W' v, R W W' → s.ok W v → s.ok W' v) (h : freeSteps P l0 R w0 Q 0 specs l0 a0 []) :
  ∀ (fuel : Nat) (listed : Array Bool) (a : Act) (W : World), left l0 listed ≤ fuel → Midway l0 specs R w0 a0 listed a W → wpAny P .any l0.toArray Q fuel listed a W := by
 have fin : ∀ (listed : Array Bool) (a : Act) (W : World), Midway l0 specs R w0 a0 listed a W → (∀ j, j < specs.length → listed.getD j false = true) → wpList P l0.toArray Q (l0.drop specs.length) a W := by
  intro listed a W m hall
  obtain ⟨he, hf⟩ := m.done ok hall
  have hat := steps_at h (valuesOf l0 specs a) (valuesOf_fits l0 specs a) specs.length (nR _)
  rw [List.drop_length] at hat
  simp only [freeSteps] at hat
  have := hat W m.rel (factsHold_of fun p hp _ => hf p hp) (fun p q hp hq h1 h2 hne => by
   obtain ⟨a1, a2, a3⟩ := mem_factsAt hp
   obtain ⟨b1, b2, b3⟩ := mem_factsAt hq
   have hil : p.1 < l0.length := by have := ok.len; omega
   have hjl : q.1 < l0.length := by have := ok.len; omega
   have ho1 : l0[p.1]? = some l0[p.1] := List.getElem?_eq_getElem hil
   have ho2 : l0[q.1]? = some l0[q.1] := List.getElem?_eq_getElem hjl
   obtain ⟨d1, hd1⟩ := Option.isSome_iff_exists.1 (ok.has p.1 _ a1 ho1)
   obtain ⟨d2, hd2⟩ := Option.isSome_iff_exists.1 (ok.has q.1 _ b1 ho2)
   rw [a3, b3, ← m.value (hall p.1 a1) ho1 hd1, ← m.value (hall q.1 b1) ho2 hd2]
   exact m.apart p.1 q.1 _ _ d1 d2 _ _ hne (hall p.1 a1) (hall q.1 b1) ho1 ho2 hd1 hd2 a2 b2 h1 h2)
  rwa [← he] at this
 have hlst : ∀ (listed : Array Bool) (a : Act) (W : World), Midway l0 specs R w0 a0 listed a W → (∀ j, j < specs.length → listed.getD j false = true) → ∀ i, i < l0.length → (listed.getD i false = true ↔ i < specs.length) := by
  intro listed a W m hall i hi
  constructor
  ·intro hl
   rcases Nat.lt_or_ge i specs.length with h | h
   ·exact h
   ·rw [m.late i h] at hl; cases hl
  ·exact hall i
 intro fuel
 induction fuel with
 | zero =>
  intro listed a W hl m
  have hnone : ∀ i, i < l0.length → listed.getD i true = true := by
   intro i hi
   have h0 : ((List.range l0.length).filter fun i => !listed.getD i true) = [] := List.eq_nil_of_length_eq_zero (by unfold left at hl; omega)
   have := List.filter_eq_nil_iff.1 h0 i (List.mem_range.2 hi)
   simpa using this
  have hall : ∀ j, j < specs.length → listed.getD j false = true := by
   intro j hj
   have h1 := hnone j (by have := ok.len; omega)
   rcases listed_cases (listed := listed) (i := j) (by rw [m.size]; have := ok.len; omega) with h2 | h2
   ·exact h2
   ·rw [h2] at h1; cases h1
  have hn : specs.length = l0.length := by
   rcases Nat.lt_or_ge specs.length l0.length with h1 | h1
   ·have h2 := hnone specs.length h1
    have h3 := m.late specs.length (nR _)
    rcases listed_cases (listed := listed) (i := specs.length) (by rw [m.size]; exact h1) with h4 | h4
    ·rw [h4] at h3; cases h3
    ·rw [h4] at h2; cases h2
   ·have := ok.len; omega
  exact tail_forced ok.tail 0 specs.length listed a W 0 (nR _) hn (nR _) m.size m.closed (hlst _ _ _ m hall) ok.edge (fin _ _ _ m hall)
 | succ fuel ih =>
  intro listed a W hl m
  by_cases hall : ∀ j, j < specs.length → listed.getD j false = true
  ·refine tail_forced ok.tail (l0.length - specs.length) specs.length listed a W (fuel + 1) (nR _) (by have := ok.len; omega) ?_ m.size m.closed (hlst _ _ _ m hall) ok.edge (fin _ _ _ m hall)
   have := left_ge (l := l0) (listed := listed) (n := specs.length) fun i h1 h2 => by
    have := m.late i h1
    have hlt : i < listed.size := by rw [m.size]; exact h2
    simpa [hlt] using this
   omega
  ·refine ⟨fun h0 => ?_, fun i hi => ?_⟩
   ·refine absurd (fun j => ?_) hall
    induction j using Nat.strongRecOn with
    | _ j ihj =>
     intro hj
     have hjl : j < l0.length := by have := ok.len; omega
     have hoj : l0[j]? = some l0[j] := List.getElem?_eq_getElem hjl
     rcases listed_cases (listed := listed) (i := j) (by rw [m.size]; exact hjl) with h1 | h1
     ·exact h1
     ·have hm : j ∈ Region.ready .any l0.toArray listed := mem_ready.2 ⟨h1, l0[j], by simp [hjl], fun e he hb => by
       have := ok.edge j _ hoj e he hb
       exact ihj e.on this (by omega)⟩
      rw [h0] at hm
      cases hm
   ·obtain ⟨hun, o, ho', hedge⟩ := mem_ready.1 hi
    have hil : i < l0.length := by have := lt_of_unlisted hun; rw [m.size] at this; exact this
    have hn : i < specs.length := by
     rcases Nat.lt_or_ge i specs.length with h1 | h1
     ·exact h1
     ·exact absurd (fun j hj => listed_anc m.closed 16 o j hedge (ok.tail i o h1 (by simpa using ho') j (by omega))) hall
    exact wpOp_mono (fun a' W' m' => ih _ a' W' (by have := left_set hil hun; omega) m') (m.step ok hrf htr hst h hn hi)
theorem region_free {id : Nat} {l : List Oper} {a : Act} {w : World} (R : World → World → Prop) (specs : List FSpec) (hm : P.follows .mixedOrders = true) (hok : okFree specs.length a.tmps.size l = true)
  (hrf : ∀ a, R a a) (htr : ∀ a b c, R a b → R b c → R a c) (hdr : ∀ a, R a a.drew) (hst : ∀ s ∈ specs, ∀ W W' v, R W W' → s.ok W v → s.ok W' v)
  (h : freeSteps P l R w Q 0 specs l a []) : (Code.region id l.toArray true).wp P Q a w := by
 refine wp_region_any hm ?_
 have hsz : l.toArray.size = l.length := by simp
 have hget : ∀ i : Nat, (Array.replicate l.toArray.size false).getD i false = false := by
  intro i
  rw [Array.getD_eq_getD_getElem?, Array.getElem?_replicate]
  split <;> rfl
 refine free_any (okFree_spec hok) hrf htr hst h _ _ _ _ ?_ ⟨by simp, hdr w, rfl, rfl, ?_, ?_, ?_, ?_, ?_⟩
 ·unfold left
  refine nT (List.length_filter_le _ _) ?_
  simp
 ·intro i o hi
  rw [hget] at hi; cases hi
 ·intro t _; rfl
 ·intro j o d s hj
  rw [hget] at hj; cases hj
 ·intro j _
  exact hget j
 ·intro i j oi oj di dj si sj _ h1
  rw [hget] at h1; cases h1
end
def Stable (R : World → World → Prop) (s : FSpec) : Prop := ∀ W W' v, R W W' → s.ok W v → s.ok W' v
def StableAll (R : World → World → Prop) : List FSpec → Prop
 | [] => True
 | s :: ss => Stable R s ∧ StableAll R ss
theorem stableAll_mem {R : World → World → Prop} : ∀ {ss : List FSpec}, StableAll R ss → ∀ s ∈ ss, ∀ W W' v, R W W' → s.ok W v → s.ok W' v
 | [], _, s, hs => by cases hs
 | s :: ss, h, s', hs => by
  rcases List.mem_cons.1 hs with rfl | hs
  ·exact h.1
  ·exact stableAll_mem h.2 s' hs
theorem stable_val {R : World → World → Prop} (c : Value) : Stable R (.val c) := fun _ _ _ _ h => h
theorem stable_vals {R : World → World → Prop} {ss : List FSpec} (c : Value) (h : StableAll R ss) : StableAll R (.val c :: ss) := ⟨stable_val c, h⟩
end Go.Proofs.YtjelnmokcpoofaaGreatDoor.Aloof
namespace Go.Proofs.YtjelnmokcpoofaaGreatDoor
set_option maxRecDepth 100000
open Go Go.RowKit Go.Proofs
theorem region_aloof {id : Nat} {l : List Oper} {a : Act} {w : World} {Q : Exit → Act → World → Prop} (specs : List Aloof.FSpec) (hok : Aloof.okFree specs.length a.tmps.size l = true) (hst : Aloof.StableAll Ext specs)
  (h : Aloof.freeSteps Tryz.prog l Ext w Q 0 specs l a []) : (Code.region id l.toArray true).wp Tryz.prog Q a w :=
 Aloof.region_free Ext specs mixed hok xR (fun _ _ _ => Ext.trans) (fun w => (xR w).dr) (Aloof.stableAll_mem hst) h
theorem ast_val {R : World → World → Prop} {ss : List Aloof.FSpec} (c : Value) (h : Aloof.StableAll R ss) : Aloof.StableAll R (.val c :: ss) := Aloof.stable_vals c h
theorem run_loadVar_sub {P : Program} (w : World) (g o : Nat) (t ty : TypeId) (cs sub : Array Value) (fr : Nat × Nat) (d : TypeDesc) (hg : w.heap[g]? = some (.cells cs t fr)) (hs : cs.extract o (o + sub.size) = sub)
  (hu : P.underlying ty = some d) (hd : (match d with | .struct _ | .array _ _ => true | _ => false) = true) (hi : (P.info? ty).map (·.size) = some sub.size) :
  (loadVar ty ⟨g, o, none⟩).run P w = .ok (.agg sub) w := by
 have hl : (loadCells ⟨g, o, none⟩ sub.toList.length).run P w = .ok sub.toList.toArray w :=
  run_loadCells_list (P := P) w ⟨g, o, none⟩ sub.toList (fun j v hv => by
   have hadd : (⟨g, o, none⟩ : Addr).add j = ⟨g, o + j, none⟩ := by unfold Addr.add; split <;> simp_all
   rw [hadd, cell_of_row w g (o + j) cs t fr hg]
   have hv2 : sub[j]? = some v := by simpa using hv
   rw [← hs, Array.getElem?_extract] at hv2
   split at hv2
   ·exact hv2
   ·cases hv2)
 cases hq : P.info? ty with
 | none => simp [hq] at hi
 | some i =>
  have hs : i.size = sub.size := by simpa [hq] using hi
  have hagg : (isAgg ty).run P w = .ok true w := by
   unfold isAgg
   rw [Sem.run_bind, run_underlying hu w]
   cases d <;> simp_all
  simp only [Array.length_toList, Array.toArray_toList] at hl
  simp [loadVar, Sem.run_bind, hagg, sizeOf, typeInfo, hq, hs, hl]
theorem wp_load_sub {P : Program} {o : Oper} {a : Act} {w : World} {K : Act → World → Prop} {Q : Exit → Act → World → Prop} (ty : TypeId) (x : Operand) (ho : o.op = .load ty x)
  (g k : Nat) (hx : a.eval x = .pointer (some ⟨g, k, none⟩)) (t : TypeId) (cs sub : Array Value) (fr : Nat × Nat) (d : TypeDesc) (hg : w.heap[g]? = some (.cells cs t fr)) (hs : cs.extract k (k + sub.size) = sub)
  (hu : P.underlying ty = some d) (hd : (match d with | .struct _ | .array _ _ => true | _ => false) = true) (hi : (P.info? ty).map (·.size) = some sub.size)
  (h : K (a.put o.dst (.agg sub)) w) : o.wp P a w K Q := by
 unfold Oper.wp execOp
 simp only [ho, hx, Instr.loadAt, Instr.sureAddr, Sem.run_bind, Sem.run_pure, Result.andThen_ok, run_loadVar_sub w g k t ty cs sub fr d hg hs hu hd hi]
 exact h
theorem wpList_load_sub {P : Program} {ops : Array Oper} {rest : List Oper} {o : Oper} {a : Act} {w : World} {Q : Exit → Act → World → Prop} (hgd : o.guard = none) (ty : TypeId) (x : Operand) (ho : o.op = .load ty x)
  (g k : Nat) (hx : a.eval x = .pointer (some ⟨g, k, none⟩)) (t : TypeId) (cs sub : Array Value) (fr : Nat × Nat) (d : TypeDesc) (hg : w.heap[g]? = some (.cells cs t fr)) (hs : cs.extract k (k + sub.size) = sub)
  (hu : P.underlying ty = some d) (hd : (match d with | .struct _ | .array _ _ => true | _ => false) = true) (hi : (P.info? ty).map (·.size) = some sub.size)
  (h : wpList P ops Q rest (a.put o.dst (.agg sub)) w) : wpList P ops Q (o :: rest) a w :=
 wpList_plain hgd fun _ hK => wp_load_sub ty x ho g k hx t cs sub fr d hg hs hu hd hi (hK _ _ h)
theorem wpList_load_subG {P : Program} {ops : Array Oper} {rest : List Oper} {o : Oper} {a : Act} {w : World} {Q : Exit → Act → World → Prop} (hw : Region.wanted o (yielded ops a.tmps) = true) (ty : TypeId) (x : Operand) (ho : o.op = .load ty x)
  (g k : Nat) (hx : a.eval x = .pointer (some ⟨g, k, none⟩)) (t : TypeId) (cs sub : Array Value) (fr : Nat × Nat) (d : TypeDesc) (hg : w.heap[g]? = some (.cells cs t fr)) (hs : cs.extract k (k + sub.size) = sub)
  (hu : P.underlying ty = some d) (hd : (match d with | .struct _ | .array _ _ => true | _ => false) = true) (hi : (P.info? ty).map (·.size) = some sub.size)
  (h : wpList P ops Q rest (a.put o.dst (.agg sub)) w) : wpList P ops Q (o :: rest) a w := by
 simp only [wpList]
 rw [if_pos hw]
 exact .inl (wp_load_sub ty x ho g k hx t cs sub fr d hg hs hu hd hi h)
theorem fr_load_sub {P : Program} {S : World → Value → Prop} {o : Oper} {a : Act} {W : World} {X : Prop} {c : Prop} {ic : Decidable c} (hw : c) (ty : TypeId) (x : Operand) (ho : o.op = .load ty x)
  (g k : Nat) (hx : a.eval x = .pointer (some ⟨g, k, none⟩)) (t : TypeId) (cs sub : Array Value) (fr : Nat × Nat) (d : TypeDesc) (hg : W.heap[g]? = some (.cells cs t fr)) (hs : cs.extract k (k + sub.size) = sub)
  (hu : P.underlying ty = some d) (hd : (match d with | .struct _ | .array _ _ => true | _ => false) = true) (hi : (P.info? ty).map (·.size) = some sub.size)
  (h : S W (.agg sub)) : if c then givesV P S ((execOp a.eval o).run P W) else X := by
 rw [if_pos hw]
 unfold execOp
 simp only [ho, hx, Instr.loadAt, Instr.sureAddr, Sem.run_bind, Sem.run_pure, Result.andThen_ok, run_loadVar_sub W g k t ty cs sub fr d hg hs hu hd hi]
 exact h
theorem MagO.span {w : World} {base : Nat} {a : Option Addr} {n c : Nat} {l : List Nat} (h : MagO w base (.slice a n c) l) : ∀ g, a.map (·.block) = some g → base ≤ g ∧ g < w.heap.size := by
 obtain ⟨_, h | ⟨g, cap, cur, e, h1, h2, _⟩⟩ := h
 ·obtain ⟨e, _⟩ := h
  cases e
  intro g hg
  cases hg
 ·cases e
  intro k hk
  simp at hk
  subst hk
  exact ⟨h1, (Array.getElem?_eq_some_iff.1 h2).1⟩
theorem blks_int {b : Bool} {a : Option Addr} {n c g : Nat} (h : g ∈ Aloof.blks (.agg #[.bool b, .slice a n c])) : a.map (·.block) = some g := by
 cases a with
 | none => simp [Aloof.blks, Aloof.blk1, Value.cells] at h
 | some a => simpa [Aloof.blks, Aloof.blk1, Value.cells, eq_comm] using h
theorem IntO.span {w : World} {base : Nat} {v : Value} {x : Int} (h : IntO w base v x) : ∀ g ∈ Aloof.blks v, base ≤ g ∧ g < w.heap.size := by
 obtain ⟨b, a, n, c, rfl⟩ := h.r.shape
 obtain ⟨s, e, hm⟩ := h
 cases e
 exact fun g hg => hm.span g (blks_int hg)
theorem IntO.new {w w' : World} {v : Value} {x : Int} {lo : Nat} (h : IntO w' w.heap.size v x) (hl : lo ≤ w.heap.size) : IntO w' lo v x ∧ ∀ g ∈ Aloof.blks v, w.heap.size ≤ g ∧ g < w'.heap.size :=
 ⟨h.mono hl, h.span⟩
theorem ast_intO {ss : List Aloof.FSpec} (lo : Nat) (x : Int) (h : Aloof.StableAll Ext ss) : Aloof.StableAll Ext (.fresh (fun W v => IntO W lo v x) :: ss) :=
 ⟨fun _ _ _ e h => ⟨h.1.ext e, fun g hg => Nat.lt_of_lt_of_le (h.2 g hg) e.size⟩, h⟩
def FracK (lo : Nat) (w : World) (v : Value) (q : Rat) : Prop := FracO w lo v q ∧ (Aloof.blks v).Nodup
theorem FracK.ext {lo : Nat} {w w' : World} {v : Value} {q : Rat} (h : FracK lo w v q) (e : Ext w w') : FracK lo w' v q := ⟨h.1.ext e, h.2⟩
theorem blks_agg2 (b1 : Bool) (a1 : Option Addr) (n1 c1 : Nat) (b2 : Bool) (a2 : Option Addr) (n2 c2 : Nat) : Aloof.blks (.agg #[.bool b1, .slice a1 n1 c1, .bool b2, .slice a2 n2 c2]) = Aloof.blks (.agg #[.bool b1, .slice a1 n1 c1]) ++ Aloof.blks (.agg #[.bool b2, .slice a2 n2 c2]) := by
 cases a1 <;> cases a2 <;> rfl
theorem nodup1 (b : Bool) (a : Option Addr) (n c : Nat) : (Aloof.blks (.agg #[.bool b, .slice a n c])).Nodup := by
 cases a with
 | none => exact List.nodup_nil
 | some a => exact List.nodup_cons.2 ⟨by simp, List.nodup_nil⟩
theorem nodup2 {b1 : Bool} {a1 : Option Addr} {n1 c1 : Nat} {b2 : Bool} {a2 : Option Addr} {n2 c2 : Nat} (h : ∀ g, g ∈ Aloof.blks (.agg #[.bool b1, .slice a1 n1 c1]) → g ∈ Aloof.blks (.agg #[.bool b2, .slice a2 n2 c2]) → False) : (Aloof.blks (.agg #[.bool b1, .slice a1 n1 c1, .bool b2, .slice a2 n2 c2])).Nodup := by
 rw [blks_agg2]
 exact List.nodup_append.2 ⟨nodup1 _ _ _ _, nodup1 _ _ _ _, fun a h1 b h2 e => h a h1 (e ▸ h2)⟩
theorem FracO.span {w : World} {base : Nat} {v : Value} {q : Rat} (h : FracO w base v q) : ∀ g ∈ Aloof.blks v, base ≤ g ∧ g < w.heap.size := by
 obtain ⟨b1, a1, n1, c1, b2, a2, n2, c2, rfl, h1, h2⟩ := h
 rw [blks_agg2]
 intro g hg
 rcases List.mem_append.1 hg with hg | hg
 ·exact h1.span g hg
 ·exact h2.span g hg
theorem FracK.new {w w' : World} {v : Value} {q : Rat} {lo : Nat} (h : FracK w.heap.size w' v q) (hl : lo ≤ w.heap.size) : FracK lo w' v q ∧ ∀ g ∈ Aloof.blks v, w.heap.size ≤ g ∧ g < w'.heap.size :=
 ⟨⟨h.1.mono hl, h.2⟩, h.1.span⟩
theorem ast_fracK {ss : List Aloof.FSpec} (lo : Nat) (q : Rat) (h : Aloof.StableAll Ext ss) : Aloof.StableAll Ext (.fresh (fun W v => FracK lo W v q) :: ss) :=
 ⟨fun _ _ _ e h => ⟨h.1.ext e, fun g hg => Nat.lt_of_lt_of_le (h.2 g hg) e.size⟩, h⟩
set_option maxHeartbeats 3200000 in
theorem copy_k (v1 : Value) (x : Rat) (w : World) (hX1 : nf x ≤ 268435456) (h1 : FracR w v1 x) :
  Calls Tryz.prog 58 #[v1] w fun e w' => ∃ v, e = .returned v ∧ Ext w w' ∧ FracK w.heap.size w' v x := by
 have H1 := h1
 obtain ⟨p1, q1, r1, s1, t1, u1, f1, g1, rfl⟩ := h1.shape
 have bn1 : nl x.num ≤ 268435456 := nT (Nat.le_max_left _ _) hX1
 have bd1 : nl (x.den : Int) ≤ 268435456 := nT (Nat.le_max_right _ _) hX1
 have ho := mK (fun w => of_c 0 w (by omega) (by omega))
 have pzn := mK (fun w v0 (h : IntR w (.agg #[.bool p1, .slice q1 r1 s1]) x.num) h0 => plus_zero _ v0 _ w (nT bn1 (by decide)) h h0)
 have pz := mK (fun w v0 (h : IntR w (.agg #[.bool t1, .slice u1 f1 g1]) (x.den : Int)) h0 => plus_zero _ v0 _ w (nT bd1 (by decide)) h h0)
 replace H1 := mK H1
 clear h1
 go_enter Tryz.func58, Tryz.ntmps58
 go_wp2_with fail
 obtain ⟨wb, hwb⟩ : ∃ wb, wb = ((w.alloc (.cells #[.bool p1, .slice q1 r1 s1, .bool t1, .slice u1 f1 g1] 52)).alloc (.cells #[.bool false, .slice none 0 0, .bool false, .slice none 0 0] 52)) := ⟨_, rfl⟩
 have hE : Ext w wb := by rw [hwb]; exact (((xR w).al _).al _)
 have c10 : ∀ W, Ext wb W → W.cell? ⟨w.heap.size, 0, none⟩ = some (.bool p1) := fun W e => e.cell (by rw [hwb]; go_simp)
 have c11 : ∀ W, Ext wb W → W.cell? ⟨w.heap.size, 1, none⟩ = some (.slice q1 r1 s1) := fun W e => e.cell (by rw [hwb]; go_simp)
 have c12 : ∀ W, Ext wb W → W.cell? ⟨w.heap.size, 2, none⟩ = some (.bool t1) := fun W e => e.cell (by rw [hwb]; go_simp)
 have c13 : ∀ W, Ext wb W → W.cell? ⟨w.heap.size, 3, none⟩ = some (.slice u1 f1 g1) := fun W e => e.cell (by rw [hwb]; go_simp)
 have hB : ∀ W, Ext wb W → W.heap[w.heap.size + 1]? = some (.cells #[.bool false, .slice none 0 0, .bool false, .slice none 0 0] 52) := fun W e => e.blk (by rw [hwb]; exact heap_at _ _ _ (by simp))
 have hsz : w.heap.size + 2 ≤ wb.heap.size := by rw [hwb]; simp
 replace H1 := mK (H1.out.ext hE)
 rw [← hwb]
 replace hB := mK hB
 replace hE := mK hE
 clear hwb
 refine (ho.out wb).mono ?_
 rintro e w1 ⟨vo, rfl, hE1, hvo⟩
 obtain ⟨ob, oa, on, oc, rfl⟩ := hvo.r.shape
 have hE1' := mK hE1
 have hvo' := mK hvo.r
 clear hE1 hvo
 go_wp2_with fail
 obtain ⟨w2, hw2⟩ : ∃ w2, w2 = w1.alloc (.cells #[.bool ob, .slice oa on oc] 50) := ⟨_, rfl⟩
 rw [← hw2]
 have hE2 : Ext wb w2 := by rw [hw2]; exact hE1'.out.al _
 have o0 : ∀ W, Ext w2 W → W.cell? ⟨w1.heap.size, 0, none⟩ = some (.bool ob) := fun W e => e.cell (by rw [hw2]; go_simp)
 have o1 : ∀ W, Ext w2 W → W.cell? ⟨w1.heap.size, 1, none⟩ = some (.slice oa on oc) := fun W e => e.cell (by rw [hw2]; go_simp)
 have Ho := mK (show IntR w2 (.agg #[.bool ob, .slice oa on oc]) 0 by rw [hw2]; exact hvo'.out.ext ((xR _).al _))
 replace c10 := fun W (e : Ext w2 W) => c10 W (hE2.trans e)
 replace c11 := fun W (e : Ext w2 W) => c11 W (hE2.trans e)
 replace c12 := fun W (e : Ext w2 W) => c12 W (hE2.trans e)
 replace c13 := fun W (e : Ext w2 W) => c13 W (hE2.trans e)
 replace hB := mK (fun W (e : Ext w2 W) => hB.out W (hE2.trans e))
 replace H1 := mK (H1.out.ext hE2)
 replace hE := mK (hE.out.trans hE2)
 replace hsz : w.heap.size + 2 ≤ w2.heap.size := nT hsz hE2.size
 clear hE1' hvo' hw2 hE2
 apply region_aloof [.val _, .val _, .val _, .fresh (fun W v => IntO W (w.heap.size + 2) v (x.num)), .val _, .val _, .val _, .fresh (fun W v => IntO W (w.heap.size + 2) v ((x.den : Int)))] (by kernel_rfl) (ast_val _ (ast_val _ (ast_val _ (ast_intO _ _ (ast_val _ (ast_val _ (ast_val _ (ast_intO _ _ trivial))))))))
 refine ⟨fun W hW _ => by go_simp; exact ⟨xR _, rfl⟩, ?_⟩
 refine ⟨fun W hW _ => by go_simp; exact ⟨xR _, rfl⟩, ?_⟩
 refine ⟨fun W hW _ => by go_simp; exact ⟨xR _, rfl⟩, ?_⟩
 refine ⟨fun W hW hF => ?g3, fun v103 => ?_⟩
 case g3 =>
  clear hF
  go_simp
  refine (pzn.out W _ (H1.out.num.ext hW) (Ho.out.ext hW)).mono ?_
  rintro e w' ⟨v, rfl, h1, h2⟩
  exact ⟨v, rfl, h1, h2.new (nT hsz hW.size)⟩
 refine ⟨fun W hW _ => by go_simp; exact ⟨xR _, rfl⟩, ?_⟩
 refine ⟨fun W hW _ => by go_simp; exact ⟨xR _, rfl⟩, ?_⟩
 refine ⟨fun W hW _ => by go_simp; exact ⟨xR _, rfl⟩, ?_⟩
 refine ⟨fun W hW hF => ?g7, fun v107 => fun W hW hF hA => ?fin⟩
 case g7 =>
  clear hF
  go_simp
  refine (pz.out W _ (H1.out.den.ext hW) (Ho.out.ext hW)).mono ?_
  rintro e w' ⟨v, rfl, h1, h2⟩
  exact ⟨v, rfl, h1, h2.new (nT hsz hW.size)⟩
 case fin =>
  have d3 : IntO W (w.heap.size + 2) v103 (x.num) := (hF.2.1 rfl).1
  have d7 : IntO W (w.heap.size + 2) v107 ((x.den : Int)) := (hF.1 rfl).1
  have hap := hA (3, .fresh (fun W v => IntO W (w.heap.size + 2) v (x.num)), v103) (7, .fresh (fun W v => IntO W (w.heap.size + 2) v ((x.den : Int))), v107) (by simp) (by simp) rfl rfl (by simp)
  obtain ⟨x1, x2, x3, x4, rfl⟩ := d3.r.shape
  obtain ⟨y1, y2, y3, y4, rfl⟩ := d7.r.shape
  have R : FracO W (w.heap.size + 2) (.agg #[.bool x1, .slice x2 x3 x4, .bool y1, .slice y2 y3 y4]) (x) := ⟨_, _, _, _, _, _, _, _, rfl, by exact d3, by exact d7⟩
  have hnd := mK (nodup2 (b1 := x1) (b2 := y1) fun g h1 h2 => hap g h1 h2)
  have hBW := hB.out W hW
  have FR := ((R.row (g := w.heap.size + 1) (by omega) #[.bool x1, .slice x2 x3 x4, .bool y1, .slice y2 y3 y4]).mono (show w.heap.size ≤ w.heap.size + 2 by omega))
  have FE := (hE.out.trans hW).row (show w.heap.size ≤ w.heap.size + 1 by omega) #[.bool x1, .slice x2 x3 x4, .bool y1, .slice y2 y3 y4]
  replace FR := mK FR
  replace FE := mK FE
  clear hF hA hap R c10 c11 c12 c13 hW
  go_simp
  go_wp2_with (refine wpList_store_row rfl 52 (.tmp 2) (.tmp 13) rfl (w.heap.size + 1) #[.bool x1, .slice x2 x3 x4, .bool y1, .slice y2 y3 y4] rfl rfl 52 _ hBW (by kernel_rfl) rfl (by kernel_rfl) ?_)
  exact bodyPost_ret (results_cell_row rfl _ _ (w.heap.size + 1) 52 #[.bool x1, .slice x2 x3 x4, .bool y1, .slice y2 y3 y4] (0, 0) _ rfl (setRow_heap _ _ _ _ _ _ hBW) Tryz.underlying52 rfl (by kernel_rfl)) rfl ⟨_, rfl, FE.out, FR.out, hnd.out⟩
theorem run_storeCells_at {P : Program} (g k : Nat) (t : TypeId) : ∀ (vs : List Value) (i : Nat) (cur : Array Value) (w : World), w.heap[g]? = some (.cells cur t (0, 0)) → k + i + vs.length ≤ cur.size → (∀ v ∈ vs, v.oneCell' = true) →
  (storeCells ⟨g, k, none⟩ vs i).run P w = .ok () (w.setRow g (cur.toList.take (k + i) ++ vs ++ cur.toList.drop (k + i + vs.length)).toArray)
 | [], i, cur, w, hg, hl, _ => by
  have hlt : g < w.heap.size := (Array.getElem?_eq_some_iff.1 hg).1
  have hv : w.heap[g] = .cells cur t (0, 0) := (Array.getElem?_eq_some_iff.1 hg).2
  simp only [storeCells, List.append_nil, List.length_nil, Nat.add_zero, List.take_append_drop, Array.toArray_toList]
  show Result.ok () w = _
  congr 1
  unfold World.setRow
  cases w with
  | mk heap tape drawn os output =>
   congr 1
   apply Array.ext
   ·simp
   ·intro j h1 h2
    simp only [Array.getElem_modify]
    split
    ·rename_i hk; subst hk; simp at hv; simp [hv]
    ·rfl
 | v :: rest, i, cur, w, hg, hl, h1 => by
  have hi : k + i < cur.size := by simp at hl; omega
  have hadd : (⟨g, k, none⟩ : Addr).add i = ⟨g, k + i, none⟩ := by unfold Addr.add; split <;> simp_all
  have hcell : w.cell? ⟨g, k + i, none⟩ = some cur[k + i] := by simp [World.cell?, hg, hi]
  have hfro : w.frozen? ⟨g, k + i, none⟩ = false := by simp [World.frozen?, hg]
  have hst : (store ((⟨g, k, none⟩ : Addr).add i) v).run P w = .ok () (w.setRow g (cur.setIfInBounds (k + i) v)) := by
   rw [hadd, run_store P w _ v _ (h1 v (by simp)), hcell]
   simp [hfro, setCell_eq_setRow w g (k + i) cur t (0, 0) v hg]
  have ih := run_storeCells_at (P := P) g k t rest (i + 1) (cur.setIfInBounds (k + i) v) (w.setRow g (cur.setIfInBounds (k + i) v)) (setRow_heap w g cur _ t _ hg) (by simp at hl ⊢; omega) (fun x hx => h1 x (by simp [hx]))
  simp only [storeCells, Sem.run_bind, hst, Result.andThen_ok, ih, setRow_setRow]
  congr 3
  have e1 : (cur.setIfInBounds (k + i) v).toList.take (k + (i + 1)) = cur.toList.take (k + i) ++ [v] := by
   rw [Array.toList_setIfInBounds, ← Nat.add_assoc, List.take_succ_eq_append_getElem (by simpa using hi), List.take_set, List.set_eq_of_length_le (by rw [List.length_take]; omega)]
   simp
  have e2 : (cur.setIfInBounds (k + i) v).toList.drop (k + (i + 1) + rest.length) = cur.toList.drop (k + i + (rest.length + 1)) := by
   rw [Array.toList_setIfInBounds, List.drop_set_of_lt (by omega)]
   congr 1
   omega
  rw [e1, e2]
  simp
theorem run_storeVar_sub {P : Program} (w : World) (g k : Nat) (t ty : TypeId) (old new sub : Array Value) (hg : w.heap[g]? = some (.cells old t (0, 0))) (hi : (P.info? ty).map (·.size) = some sub.size)
  (hk : k + sub.size ≤ old.size) (hn : new = (old.toList.take k ++ sub.toList ++ old.toList.drop (k + sub.size)).toArray) (h1 : sub.all (·.oneCell') = true) :
  (storeVar ty ⟨g, k, none⟩ (.agg sub)).run P w = .ok () (w.setRow g new) := by
 have := run_storeCells_at (P := P) g k t sub.toList 0 old w hg (by simp; omega) (fun v hv => (Array.all_eq_true_iff_forall_mem.1 h1) v (by simpa using hv))
 cases hq : P.info? ty with
 | none => simp [hq] at hi
 | some i =>
  have hs : sub.size = i.size := by simp [hq] at hi; omega
  simp only [Nat.add_zero, Array.length_toList] at this
  simp [storeVar, sizeOf, typeInfo, hq, Value.cells, hs, hn, this]
theorem wpList_store_sub {P : Program} {ops : Array Oper} {rest : List Oper} {o : Oper} {a : Act} {w : World} {Q : Exit → Act → World → Prop} (hgd : o.guard = none) (ty : TypeId) (x y : Operand) (ho : o.op = .store ty x y)
  (g k : Nat) (hx : a.eval x = .pointer (some ⟨g, k, none⟩)) (t : TypeId) (old new sub : Array Value) (hy : a.eval y = .agg sub) (hg : w.heap[g]? = some (.cells old t (0, 0))) (hi : (P.info? ty).map (·.size) = some sub.size)
  (hk : k + sub.size ≤ old.size) (hn : new = (old.toList.take k ++ sub.toList ++ old.toList.drop (k + sub.size)).toArray) (h1 : sub.all (·.oneCell') = true)
  (h : wpList P ops Q rest (a.put o.dst undef) (w.setRow g new)) : wpList P ops Q (o :: rest) a w :=
 wpList_plain hgd fun _ hK => by
  unfold Oper.wp execOp
  simp only [ho, hx, hy, Instr.storeAt, Instr.sureAddr, Sem.run_bind, Sem.run_pure, Result.andThen_ok, run_storeVar_sub w g k t ty old new sub hg hi hk hn h1]
  exact hK _ _ h
theorem fr_load_subA {P : Program} {S : World → Value → Prop} {o : Oper} {a : Act} {W : World} {X : Prop} {c : Prop} {ic : Decidable c} (hw : c) (ty : TypeId) (x : Operand) (ho : o.op = .load ty x)
  (g k : Nat) (hx : a.eval x = .pointer (some ⟨g, k, none⟩)) (t : TypeId) (cs sub : Array Value) (fr : Nat × Nat) (d : TypeDesc) (hg : W.heap[g]? = some (.cells cs t fr)) (hs : cs.extract k (k + sub.size) = sub)
  (hu : P.underlying ty = some d) (hd : (match d with | .struct _ | .array _ _ => true | _ => false) = true) (hi : (P.info? ty).map (·.size) = some sub.size)
  (h : S W (.agg sub)) : if c then Aloof.givesV P S ((execOp a.eval o).run P W) else X := by
 rw [if_pos hw]
 unfold execOp
 simp only [ho, hx, Instr.loadAt, Instr.sureAddr, Sem.run_bind, Sem.run_pure, Result.andThen_ok, run_loadVar_sub W g k t ty cs sub fr d hg hs hu hd hi]
 exact h
structure PD where
 nm : ByteArray
 kd : Int
 p : Rat
 q : Rat
 co : Int
def PartR (w : World) (v : Value) (d : PD) : Prop := ∃ b1 a1 n1 c1 b2 a2 n2 c2 b3 a3 n3 c3 b4 a4 n4 c4, v = .agg #[.string d.nm, .int .u8 d.kd, .bool b1, .slice a1 n1 c1, .bool b2, .slice a2 n2 c2, .bool b3, .slice a3 n3 c3, .bool b4, .slice a4 n4 c4, .int .i64 d.co] ∧ FracR w (.agg #[.bool b1, .slice a1 n1 c1, .bool b2, .slice a2 n2 c2]) d.p ∧ FracR w (.agg #[.bool b3, .slice a3 n3 c3, .bool b4, .slice a4 n4 c4]) d.q
def PartK (lo : Nat) (w : World) (v : Value) (d : PD) : Prop := ∃ b1 a1 n1 c1 b2 a2 n2 c2 b3 a3 n3 c3 b4 a4 n4 c4, v = .agg #[.string d.nm, .int .u8 d.kd, .bool b1, .slice a1 n1 c1, .bool b2, .slice a2 n2 c2, .bool b3, .slice a3 n3 c3, .bool b4, .slice a4 n4 c4, .int .i64 d.co] ∧ FracO w lo (.agg #[.bool b1, .slice a1 n1 c1, .bool b2, .slice a2 n2 c2]) d.p ∧ FracO w lo (.agg #[.bool b3, .slice a3 n3 c3, .bool b4, .slice a4 n4 c4]) d.q ∧ (Aloof.blks v).Nodup
theorem PartR.ext {w w' : World} {v : Value} {d : PD} (h : PartR w v d) (e : Ext w w') : PartR w' v d := by
 obtain ⟨b1, a1, n1, c1, b2, a2, n2, c2, b3, a3, n3, c3, b4, a4, n4, c4, h0, h1, h2⟩ := h
 exact ⟨_, _, _, _, _, _, _, _, _, _, _, _, _, _, _, _, h0, h1.ext e, h2.ext e⟩
theorem PartK.ext {lo : Nat} {w w' : World} {v : Value} {d : PD} (h : PartK lo w v d) (e : Ext w w') : PartK lo w' v d := by
 obtain ⟨b1, a1, n1, c1, b2, a2, n2, c2, b3, a3, n3, c3, b4, a4, n4, c4, h0, h1, h2, h3⟩ := h
 exact ⟨_, _, _, _, _, _, _, _, _, _, _, _, _, _, _, _, h0, h1.ext e, h2.ext e, h3⟩
theorem PartK.r {lo : Nat} {w : World} {v : Value} {d : PD} (h : PartK lo w v d) : PartR w v d := by
 obtain ⟨b1, a1, n1, c1, b2, a2, n2, c2, b3, a3, n3, c3, b4, a4, n4, c4, h0, h1, h2, h3⟩ := h
 exact ⟨_, _, _, _, _, _, _, _, _, _, _, _, _, _, _, _, h0, h1.r, h2.r⟩
theorem PartK.mono {lo lo' : Nat} {w : World} {v : Value} {d : PD} (h : PartK lo w v d) (e : lo' ≤ lo) : PartK lo' w v d := by
 obtain ⟨b1, a1, n1, c1, b2, a2, n2, c2, b3, a3, n3, c3, b4, a4, n4, c4, h0, h1, h2, h3⟩ := h
 exact ⟨_, _, _, _, _, _, _, _, _, _, _, _, _, _, _, _, h0, h1.mono e, h2.mono e, h3⟩
theorem blks_part (s : ByteArray) (k co : Int) (b1 : Bool) (a1 : Option Addr) (n1 c1 : Nat) (b2 : Bool) (a2 : Option Addr) (n2 c2 : Nat) (b3 : Bool) (a3 : Option Addr) (n3 c3 : Nat) (b4 : Bool) (a4 : Option Addr) (n4 c4 : Nat) :
  Aloof.blks (.agg #[.string s, .int .u8 k, .bool b1, .slice a1 n1 c1, .bool b2, .slice a2 n2 c2, .bool b3, .slice a3 n3 c3, .bool b4, .slice a4 n4 c4, .int .i64 co]) = Aloof.blks (.agg #[.bool b1, .slice a1 n1 c1, .bool b2, .slice a2 n2 c2]) ++ Aloof.blks (.agg #[.bool b3, .slice a3 n3 c3, .bool b4, .slice a4 n4 c4]) := by
 cases a1 <;> cases a2 <;> cases a3 <;> cases a4 <;> rfl
theorem PartK.span {lo : Nat} {w : World} {v : Value} {d : PD} (h : PartK lo w v d) : ∀ g ∈ Aloof.blks v, lo ≤ g ∧ g < w.heap.size := by
 obtain ⟨b1, a1, n1, c1, b2, a2, n2, c2, b3, a3, n3, c3, b4, a4, n4, c4, rfl, h1, h2, h3⟩ := h
 rw [blks_part]
 intro g hg
 rcases List.mem_append.1 hg with hg | hg
 ·exact h1.span g hg
 ·exact h2.span g hg
set_option maxHeartbeats 1600000 in
theorem copied_k (v : Value) (d : PD) (w : World) (hp : nf d.p ≤ 268435456) (hq : nf d.q ≤ 268435456) (h : PartR w v d) :
  Calls Tryz.prog 28 #[v] w fun e w' => ∃ v', e = .returned v' ∧ Ext w w' ∧ PartK w.heap.size w' v' d := by
 obtain ⟨b1, a1, n1, c1, b2, a2, n2, c2, b3, a3, n3, c3, b4, a4, n4, c4, rfl, h1, h2⟩ := h
 have T1 := mK (fun W (e : Ext w W) => copy_k _ d.p W hp (h1.ext e))
 have T2 := mK (fun W (e : Ext w W) => copy_k _ d.q W hq (h2.ext e))
 clear h1 h2 hp hq
 go_enter Tryz.func28, Tryz.ntmps28
 go_wp2_with fail
 obtain ⟨wb, hwb⟩ : ∃ wb, wb = (w.alloc (.cells #[.string d.nm, .int .u8 d.kd, .bool b1, .slice a1 n1 c1, .bool b2, .slice a2 n2 c2, .bool b3, .slice a3 n3 c3, .bool b4, .slice a4 n4 c4, .int .i64 d.co] 56)).alloc (.cells #[.string ⟨#[]⟩, .int .u8 0, .bool false, .slice none 0 0, .bool false, .slice none 0 0, .bool false, .slice none 0 0, .bool false, .slice none 0 0, .int .i64 0] 56) := ⟨_, rfl⟩
 have hE : Ext w wb := by rw [hwb]; exact ((xR w).al _).al _
 have z0 : wb.heap[w.heap.size]? = some (.cells #[.string d.nm, .int .u8 d.kd, .bool b1, .slice a1 n1 c1, .bool b2, .slice a2 n2 c2, .bool b3, .slice a3 n3 c3, .bool b4, .slice a4 n4 c4, .int .i64 d.co] 56 (0, 0)) := by rw [hwb]; exact (heap_alloc_old _ _ (by simp)).trans (heap_alloc_new _ _)
 have zB : wb.heap[w.heap.size + 1]? = some (.cells #[.string ⟨#[]⟩, .int .u8 0, .bool false, .slice none 0 0, .bool false, .slice none 0 0, .bool false, .slice none 0 0, .bool false, .slice none 0 0, .int .i64 0] 56 (0, 0)) := by rw [hwb]; exact heap_at _ _ _ (by simp)
 have hlo : w.heap.size + 2 = wb.heap.size := by rw [hwb]; simp
 rw [← hwb]
 clear hwb
 replace z0 := mK z0
 replace zB := mK zB
 replace hE := mK hE
 apply region_aloof [.val (.pointer (some ⟨w.heap.size, 1, none⟩)), .val (.pointer (some ⟨w.heap.size, 2, none⟩)), .val (.agg #[.bool b1, .slice a1 n1 c1, .bool b2, .slice a2 n2 c2]), .fresh (fun W v => FracK (w.heap.size + 2) W v d.p), .val (.pointer (some ⟨w.heap.size, 1, none⟩)), .val (.pointer (some ⟨w.heap.size, 6, none⟩)), .val (.agg #[.bool b3, .slice a3 n3 c3, .bool b4, .slice a4 n4 c4]), .fresh (fun W v => FracK (w.heap.size + 2) W v d.q), .val (.pointer (some ⟨w.heap.size, 1, none⟩)), .val (.pointer (some ⟨w.heap.size, 2, none⟩))] (by kernel_rfl) (ast_val _ (ast_val _ (ast_val _ (ast_fracK _ _ (ast_val _ (ast_val _ (ast_val _ (ast_fracK _ _ (ast_val _ (ast_val _ trivial))))))))))
 iterate 2 (refine ⟨fun W hW _ => by go_simp; first | exact ⟨xR _, rfl⟩ | exact xR _, ?_⟩)
 refine ⟨?l1, ?_⟩
 case l1 =>
  intro W hW hF
  have hr := hW.blk z0.out
  with_reducible refine fr_load_subA ?zhw 52 (.tmp 4) ?zho w.heap.size 2 ?zhx 56 _ #[.bool b1, .slice a1 n1 c1, .bool b2, .slice a2 n2 c2] (0, 0) _ hr ?zhs Tryz.underlying52 ?zhd ?zhi ?zh
  case zhw => kernel_rfl
  case zho => rfl
  case zhx => kernel_rfl
  case zhs => rfl
  case zhd => rfl
  case zhi => kernel_rfl
  case zh => exact ⟨xR _, rfl⟩
 refine ⟨fun W hW _ => ?g2, fun x2 => ?_⟩
 case g2 =>
  go_simp
  refine (T1.out W (hE.out.trans hW)).mono ?_
  rintro e w' ⟨v, rfl, h1, h2⟩
  exact ⟨v, rfl, h1, h2.new (by have := hW.size; omega)⟩
 iterate 2 (refine ⟨fun W hW _ => by go_simp; first | exact ⟨xR _, rfl⟩ | exact xR _, ?_⟩)
 refine ⟨?l2, ?_⟩
 case l2 =>
  intro W hW hF
  have hr := hW.blk z0.out
  with_reducible refine fr_load_subA ?zhw 52 (.tmp 8) ?zho w.heap.size 6 ?zhx 56 _ #[.bool b3, .slice a3 n3 c3, .bool b4, .slice a4 n4 c4] (0, 0) _ hr ?zhs Tryz.underlying52 ?zhd ?zhi ?zh
  case zhw => kernel_rfl
  case zho => rfl
  case zhx => kernel_rfl
  case zhs => rfl
  case zhd => rfl
  case zhi => kernel_rfl
  case zh => exact ⟨xR _, rfl⟩
 refine ⟨fun W hW _ => ?g5, fun x5 => ?_⟩
 case g5 =>
  go_simp
  refine (T2.out W (hE.out.trans hW)).mono ?_
  rintro e w' ⟨v, rfl, h1, h2⟩
  exact ⟨v, rfl, h1, h2.new (by have := hW.size; omega)⟩
 iterate 2 (refine ⟨fun W hW _ => by go_simp; first | exact ⟨xR _, rfl⟩ | exact xR _, ?_⟩)
 intro W hW hF hA
 have d2 : FracK (w.heap.size + 2) W x2 d.p := (hF.2.1 rfl).1
 have d5 : FracK (w.heap.size + 2) W x5 d.q := (hF.1 rfl).1
 have hap := hA (3, .fresh (fun W v => FracK (w.heap.size + 2) W v d.p), x2) (7, .fresh (fun W v => FracK (w.heap.size + 2) W v d.q), x5) (by simp) (by simp) rfl rfl (by simp)
 obtain ⟨⟨b1', a1', n1', c1', b2', a2', n2', c2', rfl, p1, p2⟩, p3⟩ := d2
 obtain ⟨⟨b3', a3', n3', c3', b4', a4', n4', c4', rfl, q1, q2⟩, q3⟩ := d5
 have hnd : (Aloof.blks (.agg #[.string d.nm, .int .u8 d.kd, .bool b1', .slice a1' n1' c1', .bool b2', .slice a2' n2' c2', .bool b3', .slice a3' n3' c3', .bool b4', .slice a4' n4' c4', .int .i64 d.co])).Nodup := by
  rw [blks_part]
  exact List.nodup_append.2 ⟨p3, q3, fun a h1 b h2 e => hap a h1 (e ▸ h2)⟩
 have z0W := mK (hW.blk z0.out)
 have zBW := mK (hW.blk zB.out)
 have P1 : FracO W (w.heap.size + 2) (.agg #[.bool b1', .slice a1' n1' c1', .bool b2', .slice a2' n2' c2']) d.p := ⟨_, _, _, _, _, _, _, _, rfl, p1, p2⟩
 have Q1 : FracO W (w.heap.size + 2) (.agg #[.bool b3', .slice a3' n3' c3', .bool b4', .slice a4' n4' c4']) d.q := ⟨_, _, _, _, _, _, _, _, rfl, q1, q2⟩
 obtain ⟨W1, hW1⟩ : ∃ W1, W1 = W.setRow w.heap.size #[.string d.nm, .int .u8 d.kd, .bool b1', .slice a1' n1' c1', .bool b2', .slice a2' n2' c2', .bool b3, .slice a3 n3 c3, .bool b4, .slice a4 n4 c4, .int .i64 d.co] := ⟨_, rfl⟩
 obtain ⟨W2, hW2⟩ : ∃ W2, W2 = W1.setRow w.heap.size #[.string d.nm, .int .u8 d.kd, .bool b1', .slice a1' n1' c1', .bool b2', .slice a2' n2' c2', .bool b3', .slice a3' n3' c3', .bool b4', .slice a4' n4' c4', .int .i64 d.co] := ⟨_, rfl⟩
 have z1 : W1.heap[w.heap.size]? = some (.cells #[.string d.nm, .int .u8 d.kd, .bool b1', .slice a1' n1' c1', .bool b2', .slice a2' n2' c2', .bool b3, .slice a3 n3 c3, .bool b4, .slice a4 n4 c4, .int .i64 d.co] 56 (0, 0)) := by rw [hW1]; exact setRow_heap _ _ _ _ _ _ z0W.out
 have z2 : W2.heap[w.heap.size]? = some (.cells #[.string d.nm, .int .u8 d.kd, .bool b1', .slice a1' n1' c1', .bool b2', .slice a2' n2' c2', .bool b3', .slice a3' n3' c3', .bool b4', .slice a4' n4' c4', .int .i64 d.co] 56 (0, 0)) := by rw [hW2]; exact setRow_heap _ _ _ _ _ _ z1
 have zB2 : W2.heap[w.heap.size + 1]? = some (.cells #[.string ⟨#[]⟩, .int .u8 0, .bool false, .slice none 0 0, .bool false, .slice none 0 0, .bool false, .slice none 0 0, .bool false, .slice none 0 0, .int .i64 0] 56 (0, 0)) := by rw [hW2, setRow_other _ _ _ _ (by omega), hW1, setRow_other _ _ _ _ (by omega)]; exact zBW.out
 have FE := mK (show Ext w (W2.setRow (w.heap.size + 1) #[.string d.nm, .int .u8 d.kd, .bool b1', .slice a1' n1' c1', .bool b2', .slice a2' n2' c2', .bool b3', .slice a3' n3' c3', .bool b4', .slice a4' n4' c4', .int .i64 d.co]) by rw [hW2, hW1]; exact (((hE.out.trans hW).row (nR _) _).row (nR _) _).row (show w.heap.size ≤ w.heap.size + 1 by omega) _)
 have FP := mK (show FracO (W2.setRow (w.heap.size + 1) #[.string d.nm, .int .u8 d.kd, .bool b1', .slice a1' n1' c1', .bool b2', .slice a2' n2' c2', .bool b3', .slice a3' n3' c3', .bool b4', .slice a4' n4' c4', .int .i64 d.co]) w.heap.size (.agg #[.bool b1', .slice a1' n1' c1', .bool b2', .slice a2' n2' c2']) d.p by rw [hW2, hW1]; exact (((P1.row (by omega) _).row (by omega) _).row (by omega) _).mono (by omega))
 have FQ := mK (show FracO (W2.setRow (w.heap.size + 1) #[.string d.nm, .int .u8 d.kd, .bool b1', .slice a1' n1' c1', .bool b2', .slice a2' n2' c2', .bool b3', .slice a3' n3' c3', .bool b4', .slice a4' n4' c4', .int .i64 d.co]) w.heap.size (.agg #[.bool b3', .slice a3' n3' c3', .bool b4', .slice a4' n4' c4']) d.q by rw [hW2, hW1]; exact (((Q1.row (by omega) _).row (by omega) _).row (by omega) _).mono (by omega))
 replace hnd := mK hnd
 replace z1 := mK z1
 replace z2 := mK z2
 replace zB2 := mK zB2
 replace hW1 := mK hW1
 replace hW2 := mK hW2
 clear hF hA hap p1 p2 p3 q1 q2 q3 P1 Q1 hW hlo
 go_simp
 go_wp2_with (first
  | (refine wpList_store_sub (by rfl) 52 (.tmp 12) (.tmp 6) rfl w.heap.size 2 rfl 56 _ #[.string d.nm, .int .u8 d.kd, .bool b1', .slice a1' n1' c1', .bool b2', .slice a2' n2' c2', .bool b3, .slice a3 n3 c3, .bool b4, .slice a4 n4 c4, .int .i64 d.co] #[.bool b1', .slice a1' n1' c1', .bool b2', .slice a2' n2' c2'] rfl z0W.out (by kernel_rfl) (by simp) rfl (by kernel_rfl) ?_; rw [← hW1.out])
  | (refine wpList_store_sub (by rfl) 52 (.tmp 14) (.tmp 10) rfl w.heap.size 6 rfl 56 _ #[.string d.nm, .int .u8 d.kd, .bool b1', .slice a1' n1' c1', .bool b2', .slice a2' n2' c2', .bool b3', .slice a3' n3' c3', .bool b4', .slice a4' n4' c4', .int .i64 d.co] #[.bool b3', .slice a3' n3' c3', .bool b4', .slice a4' n4' c4'] rfl z1.out (by kernel_rfl) (by simp) rfl (by kernel_rfl) ?_; rw [← hW2.out])
  | (refine wpList_load_row (by rfl) 56 (.tmp 1) rfl w.heap.size rfl 56 #[.string d.nm, .int .u8 d.kd, .bool b1', .slice a1' n1' c1', .bool b2', .slice a2' n2' c2', .bool b3', .slice a3' n3' c3', .bool b4', .slice a4' n4' c4', .int .i64 d.co] (0, 0) _ z2.out Tryz.underlying56 rfl (by kernel_rfl) ?_)
  | (refine wpList_store_row rfl 56 (.tmp 2) (.tmp 15) rfl (w.heap.size + 1) #[.string d.nm, .int .u8 d.kd, .bool b1', .slice a1' n1' c1', .bool b2', .slice a2' n2' c2', .bool b3', .slice a3' n3' c3', .bool b4', .slice a4' n4' c4', .int .i64 d.co] rfl rfl 56 _ zB2.out (by kernel_rfl) rfl (by kernel_rfl) ?_))
 exact bodyPost_ret (results_cell_row rfl _ _ (w.heap.size + 1) 56 #[.string d.nm, .int .u8 d.kd, .bool b1', .slice a1' n1' c1', .bool b2', .slice a2' n2' c2', .bool b3', .slice a3' n3' c3', .bool b4', .slice a4' n4' c4', .int .i64 d.co] (0, 0) _ rfl (setRow_heap _ _ _ _ _ _ zB2.out) Tryz.underlying56 rfl (by kernel_rfl)) rfl ⟨_, rfl, FE.out, _, _, _, _, _, _, _, _, _, _, _, _, _, _, _, _, rfl, FP.out, FQ.out, hnd.out⟩
def heldR (v : Value) : Option (DataW Value × List MemPlace) := some (.held v, [])
def keyL (s : ByteArray) : Lit := .string s.data.toList
def entM (p : PD × Value) : Lit × DataW Value := (keyL p.1.nm, .held p.2)
def MapP (w : World) (M : Nat) (es : List (PD × Value)) : Prop := w.ownsMap Tryz.prog 9 heldR M es.length (.map (es.map entM))
def nameIs (s : ByteArray) (p : PD × Value) : Bool := p.1.nm.data.toList == s.data.toList
def findP (s : ByteArray) (es : List (PD × Value)) : Option (PD × Value) := es.find? (nameIs s)
abbrev zeroPart : Value := .agg #[.string ⟨#[]⟩, .int .u8 0, .bool false, .slice none 0 0, .bool false, .slice none 0 0, .bool false, .slice none 0 0, .bool false, .slice none 0 0, .int .i64 0]
theorem same_nameIs (s : ByteArray) (p : PD × Value) : (entM p).1.sameKey (keyL s) = nameIs s p := rfl
theorem has_find (s : ByteArray) : ∀ es : List (PD × Value), Maps.has (.map (es.map entM)) (keyL s) = (findP s es).isSome
 | [] => rfl
 | p :: r => by
  have ih := has_find s r
  rw [Maps.has_eq] at ih ⊢
  simp only [List.map_cons, List.any_cons, same_nameIs, findP, List.find?_cons]
  cases h : nameIs s p with
  | true => simp
  | false =>
   simp only [Bool.false_or]
   exact ih
theorem at_find (s : ByteArray) (z : Value) (es : List (PD × Value)) : (DataW.map (es.map entM)).atKey (keyL s) (.held z) = .held (((findP s es).map (·.2)).getD z) := by
 have e : (es.map entM).find? (fun p => p.1.sameKey (keyL s)) = (es.find? (nameIs s)).map entM := by
  rw [List.find?_map]
  rfl
 unfold findP DataW.atKey
 simp only [e]
 cases es.find? (nameIs s) <;> rfl
theorem zero_part (w : World) : (zeroValue 56).run Tryz.prog w = .ok zeroPart w := by kernel_rfl
theorem keyed_str : Maps.Keyed Tryz.prog 9 := Maps.string_keyed Tryz.underlying9
theorem key_str {s : ByteArray} (hs : s.size ≤ maxLen) : keyOf Tryz.prog 9 (.string s) = some (keyL s) := WideMaps.keyOf_string_mk Tryz.underlying9 hs
theorem heldR_inv {v : Value} {d : DataW Value} {ps : List MemPlace} (h : heldR v = some (d, ps)) : d = .held v := by
 unfold heldR at h
 cases h
 rfl
theorem MapP.look1 {w : World} {M : Nat} {es : List (PD × Value)} (h : MapP w M es) (s : ByteArray) (hs : s.size ≤ maxLen) :
  (Instr.lookup 59 (.map (some M)) (.string s) false).run Tryz.prog w = .ok (((findP s es).map (·.2)).getD zeroPart) w := by
 obtain ⟨v, ps, h1, h2⟩ := World.ownsMap.lookup h keyed_str Tryz.underlying59 (zero_part w) (zd := .held zeroPart) rfl (key_str hs)
 have h3 := heldR_inv h2
 rw [at_find] at h3
 cases h3
 exact h1
def insP (x : PD × Value) : List (PD × Value) → List (PD × Value)
 | [] => [x]
 | y :: r => if bytesBefore x.1.nm.data.toList y.1.nm.data.toList then x :: y :: r else y :: insP x r
theorem insP_length (x : PD × Value) : ∀ es, (insP x es).length = es.length + 1
 | [] => rfl
 | y :: r => by
  unfold insP
  split
  ·rfl
  ·simp [insP_length x r]
theorem ins_map (x : PD × Value) : ∀ es : List (PD × Value), DataW.insert (entM x) (es.map entM) = (insP x es).map entM
 | [] => rfl
 | y :: r => by
  show (if bytesBefore x.1.nm.data.toList y.1.nm.data.toList then entM x :: entM y :: r.map entM else entM y :: DataW.insert (entM x) (r.map entM)) = _
  unfold insP
  split
  ·rfl
  ·rw [ins_map x r]
   rfl
theorem filter_none {s : ByteArray} {es : List (PD × Value)} (h : findP s es = none) : (es.map entM).filter (fun p => !p.1.sameKey (keyL s)) = es.map entM := by
 rw [List.filter_eq_self]
 intro p hp
 obtain ⟨q, hq, rfl⟩ := List.mem_map.1 hp
 rw [same_nameIs]
 have := List.find?_eq_none.1 h q hq
 simpa using this
theorem ownsMap_exact {P : Program} {k M n : Nat} {w : World} {es : List (PD × Value)} (h : w.ownsMap P k heldR M n (.map (es.map entM))) : w.ownsMap P k heldR M es.length (.map (es.map entM)) := by
 obtain ⟨a, clock, hb, F, hs, hD⟩ := h
 refine ⟨a, clock, hb, F, ?_, hD⟩
 have := congrArg Maps.size hD
 simp only [Maps.size_eq, List.length_map, length_sorted, Array.length_toList] at this
 omega
theorem MapP.store {w : World} {M : Nat} {es : List (PD × Value)} (h : MapP w M es) (x : PD × Value) (hs : x.1.nm.size ≤ maxLen) (hn : es.length < maxLen) (hf : findP x.1.nm es = none) :
  ∃ w', (Instr.mapUpdate 59 (.map (some M)) (.string x.1.nm) x.2).run Tryz.prog w = .ok () w' ∧ MapP w' M (insP x es) ∧ w.mapTurned w' M := by
 obtain ⟨w', h1, h2, h3⟩ := World.ownsMap.store h keyed_str Tryz.underlying59 hn (key_str hs) (val := x.2) (d := .held x.2) (ps := []) rfl
 refine ⟨w', h1, ?_, h3⟩
 have e : (DataW.map (es.map entM)).put (keyL x.1.nm) (.held x.2) = .map ((insP x es).map entM) := by
  show DataW.map (DataW.insert (entM x) ((es.map entM).filter fun p => !p.1.sameKey (keyL x.1.nm))) = _
  rw [filter_none hf, ins_map]
 rw [e] at h2
 exact ownsMap_exact h2
def Rising (es : List (PD × Value)) : Prop := es.Pairwise fun a b => bytesBefore a.1.nm.data.toList b.1.nm.data.toList = true
theorem MapP.rising {w : World} {M : Nat} {es : List (PD × Value)} (h : MapP w M es) : Rising es := by
 obtain ⟨l, h1, h2, _⟩ := World.ownsMap.canon h keyed_str
 cases h1
 exact List.pairwise_map.1 h2
theorem MapP.blk {w w' : World} {M : Nat} {es : List (PD × Value)} (h : MapP w M es) (e : w'.heap[M]? = w.heap[M]?) : MapP w' M es := by
 obtain ⟨a, clock, hb, r⟩ := h
 exact ⟨a, clock, e.trans hb, r⟩
theorem MapP.lt {w : World} {M : Nat} {es : List (PD × Value)} (h : MapP w M es) : M < w.heap.size := World.ownsMap.lt h
theorem mapP_made (w : World) : MapP (w.alloc (.map #[] 0)) w.heap.size [] := World.ownsMap_made _ _ _ _
theorem cell0 {w : World} {g T : Nat} {v : Value} (h : w.heap[g]? = some (.cells #[v] T (0, 0))) : w.cell? ⟨g, 0, none⟩ = some v := by simp [World.cell?, h]
theorem row16_cells {w : World} {g T : Nat} {c : Array Value} (h : w.heap[g]? = some (.cells c T (0, 0))) (k : Nat) : w.cell? ⟨g, k, none⟩ = c[k]? := by simp [World.cell?, h]
structure Chg (w w' : World) (S : Nat → Prop) : Prop where
 os : w'.os = w.os
 tape : w'.tape = w.tape
 output : w'.output = w.output
 size : w.heap.size ≤ w'.heap.size
 block : ∀ k, k < w.heap.size → ¬ S k → w'.heap[k]? = w.heap[k]?
theorem Chg.refl (w : World) (S : Nat → Prop) : Chg w w S := ⟨rfl, rfl, rfl, nR _, fun _ _ _ => rfl⟩
theorem Chg.trans {a b c : World} {S : Nat → Prop} (h : Chg a b S) (k : Chg b c S) : Chg a c S :=
 ⟨k.os.trans h.os, k.tape.trans h.tape, k.output.trans h.output, nT h.size k.size, fun i hi hs => (k.block i (Nat.lt_of_lt_of_le hi h.size) hs).trans (h.block i hi hs)⟩
theorem Chg.mono {a b : World} {S T : Nat → Prop} (h : Chg a b S) (hs : ∀ k, k < a.heap.size → S k → T k) : Chg a b T :=
 ⟨h.os, h.tape, h.output, h.size, fun i hi hn => h.block i hi fun x => hn (hs i hi x)⟩
theorem Chg.grown {a b : World} {row : Option Nat} (h : a.grownBy b row) : Chg a b (fun k => some k = row) :=
 ⟨h.os, h.tape, h.output, h.size, h.block⟩
theorem Chg.ext {w w' : World} {S : Nat → Prop} (h : Chg w w' S) (b : World) (hb : Ext b w) (hs : ∀ k, k < b.heap.size → ¬ S k) : Ext b w' :=
 ⟨h.os.trans hb.os, h.tape.trans hb.tape, h.output.trans hb.output, nT hb.size h.size, fun k hk => (h.block k (Nat.lt_of_lt_of_le hk hb.size) (hs k hk)).trans (hb.block k hk)⟩
theorem Chg.of_ext {w w' : World} (h : Ext w w') (S : Nat → Prop) : Chg w w' S := ⟨h.os, h.tape, h.output, h.size, fun k hk _ => h.block k hk⟩
def part (m : Value) (xs : List Value) (k : Nat) : List Value := List.replicate k m ++ xs.drop k
def eqI (b b' : Bool) (l l' : List Nat) : Bool := decide (b = b' ∧ l = l')
theorem eqI_self (b : Bool) (l : List Nat) : eqI b b l l = true := by simp [eqI]
def RawL (w : World) (b1 : Bool) (a1 : Option Addr) (l1 : List Nat) (c1 : Nat) (b2 : Bool) (a2 : Option Addr) (l2 : List Nat) (c2 : Nat) : Prop :=
 l1.length ≤ 4294967296 ∧ l2.length ≤ 4294967296 ∧ AnyR w (.agg #[.bool b1, .slice a1 l1.length c1]) b1 l1 ∧ AnyR w (.agg #[.bool b2, .slice a2 l2.length c2]) b2 l2
theorem RawL.ext {w w' : World} {b1 : Bool} {a1 : Option Addr} {l1 : List Nat} {c1 : Nat} {b2 : Bool} {a2 : Option Addr} {l2 : List Nat} {c2 : Nat} (h : RawL w b1 a1 l1 c1 b2 a2 l2 c2) (e : Ext w w') : RawL w' b1 a1 l1 c1 b2 a2 l2 c2 := ⟨h.1, h.2.1, h.2.2.1.ext e, h.2.2.2.ext e⟩
set_option maxHeartbeats 3200000 in
theorem sameFrac_l (b1 : Bool) (a1 : Option Addr) (l1 : List Nat) (c1 : Nat) (b2 : Bool) (a2 : Option Addr) (l2 : List Nat) (c2 : Nat) (b1' : Bool) (a1' : Option Addr) (l1' : List Nat) (c1' : Nat) (b2' : Bool) (a2' : Option Addr) (l2' : List Nat) (c2' : Nat) (w : World) (h : RawL w b1 a1 l1 c1 b2 a2 l2 c2) (h' : RawL w b1' a1' l1' c1' b2' a2' l2' c2') :
  Calls Tryz.prog 94 #[.agg #[.bool b1, .slice a1 l1.length c1, .bool b2, .slice a2 l2.length c2], .agg #[.bool b1', .slice a1' l1'.length c1', .bool b2', .slice a2' l2'.length c2']] w fun e w' => e = .returned (.bool (eqI b1 b1' l1 l1' && eqI b2 b2' l2 l2')) ∧ Ext w w' := by
 have k1 := mK (fun W (e : Ext w W) => sameInt_c _ _ b1 b1' l1 l1' W h.1 h'.1 (h.2.2.1.ext e) (h'.2.2.1.ext e))
 have k2 := mK (fun W (e : Ext w W) => sameInt_c _ _ b2 b2' l2 l2' W h.2.1 h'.2.1 (h.2.2.2.ext e) (h'.2.2.2.ext e))
 clear h h'
 change Hid (∀ W (e : Ext w W), Calls _ _ _ _ fun e w' => e = .returned (.bool (eqI b1 b1' l1 l1')) ∧ _) at k1
 change Hid (∀ W (e : Ext w W), Calls _ _ _ _ fun e w' => e = .returned (.bool (eqI b2 b2' l2 l2')) ∧ _) at k2
 generalize eqI b1 b1' l1 l1' = r1 at *
 generalize eqI b2 b2' l2 l2' = r2 at *
 generalize l1.length = n1 at *
 generalize l2.length = n2 at *
 generalize l1'.length = n1' at *
 generalize l2'.length = n2' at *
 obtain ⟨wb, hwb⟩ : ∃ wb, wb = (w.alloc (.cells #[.bool b1, .slice a1 n1 c1, .bool b2, .slice a2 n2 c2] 52)).alloc (.cells #[.bool b1', .slice a1' n1' c1', .bool b2', .slice a2' n2' c2'] 52) := ⟨_, rfl⟩
 have hE : Ext w wb := by rw [hwb]; exact ((xR w).al _).al _
 have z0 : wb.heap[w.heap.size]? = some (.cells #[.bool b1, .slice a1 n1 c1, .bool b2, .slice a2 n2 c2] 52 (0, 0)) := by rw [hwb]; exact (heap_alloc_old _ _ (by simp)).trans (heap_alloc_new _ _)
 have z1 : wb.heap[w.heap.size + 1]? = some (.cells #[.bool b1', .slice a1' n1' c1', .bool b2', .slice a2' n2' c2'] 52 (0, 0)) := by rw [hwb]; exact heap_at _ _ _ (by simp)
 replace hwb := mK hwb
 replace z0 := mK z0
 replace z1 := mK z1
 replace hE := mK hE
 go_enter Tryz.func94, Tryz.ntmps94
 go_wp2_with fail
 rw [← hwb.out]
 clear hwb
 refine (k1.out _ hE.out).mono ?_
 rintro e w1 ⟨rfl, hE1⟩
 replace z0 := mK (hE1.blk z0.out)
 replace z1 := mK (hE1.blk z1.out)
 replace hE := mK (hE.out.trans hE1)
 clear hE1
 cases r1
 ·go_wp2_with fail
  go_ret
  exact ⟨rfl, hE.out⟩
 ·have y2 : w1.cell? ⟨w.heap.size, 2, none⟩ = some (.bool b2) := row16_cells z0.out 2
  have x2 : w1.cell? ⟨w.heap.size + 1, 2, none⟩ = some (.bool b2') := row16_cells z1.out 2
  have y3 : w1.cell? ⟨w.heap.size, 3, none⟩ = some (.slice a2 n2 c2) := row16_cells z0.out 3
  have x3 : w1.cell? ⟨w.heap.size + 1, 3, none⟩ = some (.slice a2' n2' c2') := row16_cells z1.out 3
  go_wp2_with fail
  clear x2 y2 x3 y3
  refine (k2.out _ hE.out).mono ?_
  rintro e w2 ⟨rfl, hE2⟩
  replace z0 := mK (hE2.blk z0.out)
  replace z1 := mK (hE2.blk z1.out)
  replace hE := mK (hE.out.trans hE2)
  clear hE2
  go_wp2_with fail
  go_ret
  exact ⟨rfl, hE.out⟩
set_option maxHeartbeats 3200000 in
theorem sameElement_l (kd kd' : Int) (b1 : Bool) (a1 : Option Addr) (l1 : List Nat) (c1 : Nat) (b2 : Bool) (a2 : Option Addr) (l2 : List Nat) (c2 : Nat) (b3 : Bool) (a3 : Option Addr) (l3 : List Nat) (c3 : Nat) (b4 : Bool) (a4 : Option Addr) (l4 : List Nat) (c4 : Nat) (b1' : Bool) (a1' : Option Addr) (l1' : List Nat) (c1' : Nat) (b2' : Bool) (a2' : Option Addr) (l2' : List Nat) (c2' : Nat) (b3' : Bool) (a3' : Option Addr) (l3' : List Nat) (c3' : Nat) (b4' : Bool) (a4' : Option Addr) (l4' : List Nat) (c4' : Nat) (w : World) (h1 : RawL w b1 a1 l1 c1 b2 a2 l2 c2) (h2 : RawL w b3 a3 l3 c3 b4 a4 l4 c4) (h1' : RawL w b1' a1' l1' c1' b2' a2' l2' c2') (h2' : RawL w b3' a3' l3' c3' b4' a4' l4' c4') :
  Calls Tryz.prog 54 #[.agg #[.int .u8 kd, .bool b1, .slice a1 l1.length c1, .bool b2, .slice a2 l2.length c2, .bool b3, .slice a3 l3.length c3, .bool b4, .slice a4 l4.length c4], .agg #[.int .u8 kd', .bool b1', .slice a1' l1'.length c1', .bool b2', .slice a2' l2'.length c2', .bool b3', .slice a3' l3'.length c3', .bool b4', .slice a4' l4'.length c4']] w fun e w' => e = .returned (.bool ((kd == kd') && (eqI b1 b1' l1 l1' && eqI b2 b2' l2 l2' && (eqI b3 b3' l3 l3' && eqI b4 b4' l4 l4')))) ∧ Ext w w' := by
 have k1 := mK (fun W (e : Ext w W) => sameFrac_l b1 a1 l1 c1 b2 a2 l2 c2 b1' a1' l1' c1' b2' a2' l2' c2' W (h1.ext e) (h1'.ext e))
 have k2 := mK (fun W (e : Ext w W) => sameFrac_l b3 a3 l3 c3 b4 a4 l4 c4 b3' a3' l3' c3' b4' a4' l4' c4' W (h2.ext e) (h2'.ext e))
 clear h1 h2 h1' h2'
 generalize (eqI b1 b1' l1 l1' && eqI b2 b2' l2 l2') = r1 at *
 generalize (eqI b3 b3' l3 l3' && eqI b4 b4' l4 l4') = r2 at *
 generalize l1.length = n1 at *
 generalize l1'.length = n1' at *
 generalize l2.length = n2 at *
 generalize l2'.length = n2' at *
 generalize l3.length = n3 at *
 generalize l3'.length = n3' at *
 generalize l4.length = n4 at *
 generalize l4'.length = n4' at *
 obtain ⟨wb, hwb⟩ : ∃ wb, wb = (w.alloc (.cells #[.int .u8 kd, .bool b1, .slice a1 n1 c1, .bool b2, .slice a2 n2 c2, .bool b3, .slice a3 n3 c3, .bool b4, .slice a4 n4 c4] 54)).alloc (.cells #[.int .u8 kd', .bool b1', .slice a1' n1' c1', .bool b2', .slice a2' n2' c2', .bool b3', .slice a3' n3' c3', .bool b4', .slice a4' n4' c4'] 54) := ⟨_, rfl⟩
 have hE : Ext w wb := by rw [hwb]; exact ((xR w).al _).al _
 have z0 : wb.heap[w.heap.size]? = some (.cells #[.int .u8 kd, .bool b1, .slice a1 n1 c1, .bool b2, .slice a2 n2 c2, .bool b3, .slice a3 n3 c3, .bool b4, .slice a4 n4 c4] 54 (0, 0)) := by rw [hwb]; exact (heap_alloc_old _ _ (by simp)).trans (heap_alloc_new _ _)
 have z1 : wb.heap[w.heap.size + 1]? = some (.cells #[.int .u8 kd', .bool b1', .slice a1' n1' c1', .bool b2', .slice a2' n2' c2', .bool b3', .slice a3' n3' c3', .bool b4', .slice a4' n4' c4'] 54 (0, 0)) := by rw [hwb]; exact heap_at _ _ _ (by simp)
 replace hwb := mK hwb
 replace z0 := mK z0
 replace z1 := mK z1
 replace hE := mK hE
 obtain ⟨rk, hrk⟩ : ∃ r, r = (kd == kd') := ⟨_, rfl⟩
 rw [← hrk]
 cases rk
 ·have hne : (kd == kd') = false := hrk.symm
  clear hrk
  go_enter Tryz.func54, Tryz.ntmps54
  go_wp2_with fail
  rw [← hwb.out]
  go_ret
  exact ⟨rfl, hE.out⟩
 have hkk : kd = kd' := by simpa using hrk.symm
 subst hkk
 clear hrk
 go_enter Tryz.func54, Tryz.ntmps54
 go_wp2_with fail
 rw [← hwb.out]
 clear hwb
 refine (k1.out _ hE.out).mono ?_
 rintro e w1 ⟨rfl, hE1⟩
 replace z0 := mK (hE1.blk z0.out)
 replace z1 := mK (hE1.blk z1.out)
 replace hE := mK (hE.out.trans hE1)
 clear hE1
 cases r1
 ·go_wp2_with fail
  go_ret
  exact ⟨rfl, hE.out⟩
 ·have y5 : w1.cell? ⟨w.heap.size, 5, none⟩ = some (.bool b3) := row16_cells z0.out 5
  have x5 : w1.cell? ⟨w.heap.size + 1, 5, none⟩ = some (.bool b3') := row16_cells z1.out 5
  have y6 : w1.cell? ⟨w.heap.size, 6, none⟩ = some (.slice a3 n3 c3) := row16_cells z0.out 6
  have x6 : w1.cell? ⟨w.heap.size + 1, 6, none⟩ = some (.slice a3' n3' c3') := row16_cells z1.out 6
  have y7 : w1.cell? ⟨w.heap.size, 7, none⟩ = some (.bool b4) := row16_cells z0.out 7
  have x7 : w1.cell? ⟨w.heap.size + 1, 7, none⟩ = some (.bool b4') := row16_cells z1.out 7
  have y8 : w1.cell? ⟨w.heap.size, 8, none⟩ = some (.slice a4 n4 c4) := row16_cells z0.out 8
  have x8 : w1.cell? ⟨w.heap.size + 1, 8, none⟩ = some (.slice a4' n4' c4') := row16_cells z1.out 8
  go_wp2_with fail
  clear x5 y5 x6 y6 x7 y7 x8 y8
  refine (k2.out _ hE.out).mono ?_
  rintro e w2 ⟨rfl, hE2⟩
  replace z0 := mK (hE2.blk z0.out)
  replace z1 := mK (hE2.blk z1.out)
  replace hE := mK (hE.out.trans hE2)
  clear hE2
  go_wp2_with fail
  go_ret
  exact ⟨rfl, hE.out⟩
set_option maxHeartbeats 3200000 in
theorem samePart_l (nm nm' : ByteArray) (kd kd' co co' : Int) (b1 : Bool) (a1 : Option Addr) (l1 : List Nat) (c1 : Nat) (b2 : Bool) (a2 : Option Addr) (l2 : List Nat) (c2 : Nat) (b3 : Bool) (a3 : Option Addr) (l3 : List Nat) (c3 : Nat) (b4 : Bool) (a4 : Option Addr) (l4 : List Nat) (c4 : Nat) (b1' : Bool) (a1' : Option Addr) (l1' : List Nat) (c1' : Nat) (b2' : Bool) (a2' : Option Addr) (l2' : List Nat) (c2' : Nat) (b3' : Bool) (a3' : Option Addr) (l3' : List Nat) (c3' : Nat) (b4' : Bool) (a4' : Option Addr) (l4' : List Nat) (c4' : Nat) (w : World) (h1 : RawL w b1 a1 l1 c1 b2 a2 l2 c2) (h2 : RawL w b3 a3 l3 c3 b4 a4 l4 c4) (h1' : RawL w b1' a1' l1' c1' b2' a2' l2' c2') (h2' : RawL w b3' a3' l3' c3' b4' a4' l4' c4') :
  Calls Tryz.prog 25 #[.agg #[.string nm, .int .u8 kd, .bool b1, .slice a1 l1.length c1, .bool b2, .slice a2 l2.length c2, .bool b3, .slice a3 l3.length c3, .bool b4, .slice a4 l4.length c4, .int .i64 co], .agg #[.string nm', .int .u8 kd', .bool b1', .slice a1' l1'.length c1', .bool b2', .slice a2' l2'.length c2', .bool b3', .slice a3' l3'.length c3', .bool b4', .slice a4' l4'.length c4', .int .i64 co']] w fun e w' => e = .returned (.bool ((nm.toList == nm'.toList) && ((kd == kd') && (eqI b1 b1' l1 l1' && eqI b2 b2' l2 l2' && (eqI b3 b3' l3 l3' && eqI b4 b4' l4 l4'))) && (co == co'))) ∧ Ext w w' := by
 have k1 := mK (fun W (e : Ext w W) => sameElement_l kd kd' b1 a1 l1 c1 b2 a2 l2 c2 b3 a3 l3 c3 b4 a4 l4 c4 b1' a1' l1' c1' b2' a2' l2' c2' b3' a3' l3' c3' b4' a4' l4' c4' W (h1.ext e) (h2.ext e) (h1'.ext e) (h2'.ext e))
 clear h1 h2 h1' h2'
 generalize ((kd == kd') && (eqI b1 b1' l1 l1' && eqI b2 b2' l2 l2' && (eqI b3 b3' l3 l3' && eqI b4 b4' l4 l4'))) = r1 at *
 generalize l1.length = n1 at *
 generalize l1'.length = n1' at *
 generalize l2.length = n2 at *
 generalize l2'.length = n2' at *
 generalize l3.length = n3 at *
 generalize l3'.length = n3' at *
 generalize l4.length = n4 at *
 generalize l4'.length = n4' at *
 obtain ⟨wb, hwb⟩ : ∃ wb, wb = (w.alloc (.cells #[.string nm, .int .u8 kd, .bool b1, .slice a1 n1 c1, .bool b2, .slice a2 n2 c2, .bool b3, .slice a3 n3 c3, .bool b4, .slice a4 n4 c4, .int .i64 co] 56)).alloc (.cells #[.string nm', .int .u8 kd', .bool b1', .slice a1' n1' c1', .bool b2', .slice a2' n2' c2', .bool b3', .slice a3' n3' c3', .bool b4', .slice a4' n4' c4', .int .i64 co'] 56) := ⟨_, rfl⟩
 have hE : Ext w wb := by rw [hwb]; exact ((xR w).al _).al _
 have z0 : wb.heap[w.heap.size]? = some (.cells #[.string nm, .int .u8 kd, .bool b1, .slice a1 n1 c1, .bool b2, .slice a2 n2 c2, .bool b3, .slice a3 n3 c3, .bool b4, .slice a4 n4 c4, .int .i64 co] 56 (0, 0)) := by rw [hwb]; exact (heap_alloc_old _ _ (by simp)).trans (heap_alloc_new _ _)
 have z1 : wb.heap[w.heap.size + 1]? = some (.cells #[.string nm', .int .u8 kd', .bool b1', .slice a1' n1' c1', .bool b2', .slice a2' n2' c2', .bool b3', .slice a3' n3' c3', .bool b4', .slice a4' n4' c4', .int .i64 co'] 56 (0, 0)) := by rw [hwb]; exact heap_at _ _ _ (by simp)
 replace hwb := mK hwb
 replace z0 := mK z0
 replace z1 := mK z1
 replace hE := mK hE
 obtain ⟨rk, hrk⟩ : ∃ r, r = (nm.toList == nm'.toList) := ⟨_, rfl⟩
 rw [← hrk]
 cases rk
 ·have hne : (nm.toList == nm'.toList) = false := hrk.symm
  clear hrk
  go_enter Tryz.func25, Tryz.ntmps25
  go_wp2_with fail
  rw [← hwb.out]
  go_ret
  exact ⟨rfl, hE.out⟩
 have hkk : (nm.toList == nm'.toList) = true := hrk.symm
 clear hrk
 go_enter Tryz.func25, Tryz.ntmps25
 go_wp2_with fail
 rw [← hwb.out]
 clear hwb
 refine (k1.out _ hE.out).mono ?_
 rintro e w1 ⟨rfl, hE1⟩
 replace z0 := mK (hE1.blk z0.out)
 replace z1 := mK (hE1.blk z1.out)
 replace hE := mK (hE.out.trans hE1)
 clear hE1
 cases r1
 ·go_wp2_with fail
  go_ret
  exact ⟨rfl, hE.out⟩
 ·have y10 : w1.cell? ⟨w.heap.size, 10, none⟩ = some (.int .i64 co) := row16_cells z0.out 10
  have x10 : w1.cell? ⟨w.heap.size + 1, 10, none⟩ = some (.int .i64 co') := row16_cells z1.out 10
  go_wp2_with fail
  go_ret
  exact ⟨rfl, hE.out⟩
theorem fr_load {P : Program} {S : World → Value → Prop} {o : Oper} {a : Act} {W : World} {X : Prop} {c : Prop} {ic : Decidable c} (hw : c) (ty : TypeId) (x : Operand) (ho : o.op = .load ty x)
  (g : Nat) (hx : a.eval x = .pointer (some ⟨g, 0, none⟩)) (t : TypeId) (cs : Array Value) (fr : Nat × Nat) (d : TypeDesc) (hg : W.heap[g]? = some (.cells cs t fr))
  (hu : P.underlying ty = some d) (hd : (match d with | .struct _ | .array _ _ => true | _ => false) = true) (hi : (P.info? ty).map (·.size) = some cs.size)
  (h : S W (.agg cs)) : if c then givesV P S ((execOp a.eval o).run P W) else X := by
 rw [if_pos hw]
 unfold execOp
 simp only [ho, hx, Instr.loadAt, Instr.sureAddr, Sem.run_bind, Sem.run_pure, Result.andThen_ok, run_loadVar_row W g t ty cs fr d hg hu hd hi]
 exact h
end Go.Proofs.YtjelnmokcpoofaaGreatDoor
