/-
  Small general lemmas: no program. Limbs: lists of numbers below 2^32, the lowest first; the one list without noughts at its end. No program. Regions that draw their order and hold calls that make memory: one walk serves every order. No program.
  Each operation ahead of the tail either gives one known value in every world that the region may come to ('.val c'), or a value of which a static predicate holds, which stays true in all later worlds ('.pred'). What is read in memory stays readable: slices of limbs, whole numbers. No function. exact: trim, signed, slices.Clone, own, size. exact: slices.Clone, own, size. exact: bits.Add32, bits.Sub32, add, sub. exact: add, sub.
-/
import Derived.WalkKit
import Derived.WalkSpells
import Derived.WalkLawsBesides
import Derived.Deep.QuietTactic
import Derived.BigQuiet
import Derived.Test.YtjelnmokcpoofaaGreatDoorProg
import Derived.KernelRfl
import Derived.Laws.CopyOwn
import Derived.Laws.AppendOwnNone
namespace Go.Proofs.YtjelnmokcpoofaaGreatDoor
set_option maxRecDepth 100000
open Go Go.RowKit
@[go_sem] theorem run_store_complex_any {P : Program} {w : World} (a : Addr) (m : Mode) (k : FloatKind) (x y : Nat) : (store a (.complex k x y) m).run P w = stored P w a (.complex k x y) m := run_store P w a _ m rfl
@[go_sem] theorem run_store_float_any {P : Program} {w : World} (a : Addr) (m : Mode) (k : FloatKind) (x : Nat) : (store a (.float k x) m).run P w = stored P w a (.float k x) m := run_store P w a _ m rfl
theorem mK {p : Prop} (h : p) : Hid p := h
theorem nR (n : Nat) : n ≤ n := Nat.le_refl n
theorem nT {a b c : Nat} (h : a ≤ b) (k : b ≤ c) : a ≤ c := Nat.le_trans h k
theorem cell_drew {w w' : World} (h : ∃ n, w' = w.drewN n) (a : Addr) : w'.cell? a = w.cell? a := by
 obtain ⟨n, rfl⟩ := h
 rfl
def Row (w : World) (a : Option Addr) (xs : List Value) : Prop :=
 ∃ b off, (xs ≠ [] → a = some ⟨b, off, none⟩) ∧ ∀ j, j < xs.length → w.cell? ⟨b, off + j, none⟩ = some (xs.getD j undef)
theorem ret1_eq {k : IntKind} {a a' : Int} (h : a = a') : Ending.returned (.int k a) = .returned (.int k a') := by rw [h]
theorem ret2_eq {k k' : IntKind} {a a' b b' : Int} (h : a = a') (h' : b = b') : Ending.returned (.tuple #[.int k a, .int k' b]) = .returned (.tuple #[.int k a', .int k' b']) := by rw [h, h']
theorem retB_eq {a a' : Bool} (h : a = a') : Ending.returned (.bool a) = .returned (.bool a') := by rw [h]
def val : List Nat → Nat
 | [] => 0
 | x :: l => x + 4294967296 * val l
def OkL (l : List Nat) : Prop := ∀ x ∈ l, x < 4294967296
def lim (n : Nat) : List Nat := if h : n = 0 then [] else n % 4294967296 :: lim (n / 4294967296)
termination_by n
decreasing_by exact Nat.div_lt_self (by omega) (by omega)
theorem lim_zero : lim 0 = [] := by unfold lim; simp
theorem lim_pos {n : Nat} (h : n ≠ 0) : lim n = n % 4294967296 :: lim (n / 4294967296) := by
 rw [lim]
 simp [h]
theorem lim_ind {P : Nat → Prop} (h0 : P 0) (h1 : ∀ n, n ≠ 0 → P (n / 4294967296) → P n) (n : Nat) : P n := by
 induction n using Nat.strongRecOn with
 | _ n ih =>
  by_cases h : n = 0
  ·subst h; exact h0
  ·exact h1 n h (ih _ (Nat.div_lt_self (by omega) (by omega)))
theorem val_lim (n : Nat) : val (lim n) = n := by
 refine lim_ind (P := fun n => val (lim n) = n) ?_ ?_ n
 ·rw [lim_zero]; rfl
 ·intro n h ih
  rw [lim_pos h, val, ih]
  omega
theorem lim_ok (n : Nat) : OkL (lim n) := by
 refine lim_ind (P := fun n => OkL (lim n)) ?_ ?_ n
 ·rw [lim_zero]; intro x hx; cases hx
 ·intro n h ih
  rw [lim_pos h]
  intro x hx
  cases hx with
  | head => omega
  | tail _ hx => exact ih x hx
theorem okL_cons {x : Nat} {l : List Nat} : OkL (x :: l) ↔ x < 4294967296 ∧ OkL l := by
 unfold OkL
 simp
theorem okL_append {l m : List Nat} : OkL (l ++ m) ↔ OkL l ∧ OkL m := by
 unfold OkL
 simp only [List.mem_append]
 constructor
 ·intro h
  exact ⟨fun x hx => h x (.inl hx), fun x hx => h x (.inr hx)⟩
 ·rintro ⟨h1, h2⟩ x (hx | hx)
  ·exact h1 x hx
  ·exact h2 x hx
theorem okL_take {l : List Nat} (h : OkL l) (n : Nat) : OkL (l.take n) := fun x hx => h x (List.mem_of_mem_take hx)
theorem okL_drop {l : List Nat} (h : OkL l) (n : Nat) : OkL (l.drop n) := fun x hx => h x (List.mem_of_mem_drop hx)
theorem okL_get {l : List Nat} (h : OkL l) (k : Nat) : l.getD k 0 < 4294967296 := by
 by_cases hk : k < l.length
 ·have := h l[k] (List.getElem_mem hk)
  simpa [hk] using this
 ·simp [List.getD_eq_getElem?_getD, List.getElem?_eq_none (show l.length ≤ k by omega)]
theorem val_append (l m : List Nat) : val (l ++ m) = val l + 4294967296 ^ l.length * val m := by
 induction l with
 | nil => simp [val]
 | cons x l ih =>
  simp only [List.cons_append, val, ih, List.length_cons, Nat.pow_succ]
  rw [Nat.mul_add, ← Nat.add_assoc, ← Nat.mul_assoc, Nat.mul_comm 4294967296 (4294967296 ^ l.length)]
theorem val_lt {l : List Nat} (h : OkL l) : val l < 4294967296 ^ l.length := by
 induction l with
 | nil => simp [val]
 | cons x l ih =>
  rw [okL_cons] at h
  have := ih h.2
  simp only [val, List.length_cons, Nat.pow_succ]
  omega
theorem val_replicate (n : Nat) : val (List.replicate n 0) = 0 := by
 induction n with
 | zero => rfl
 | succ n ih => simp [List.replicate_succ, val, ih]
theorem val_zero {l : List Nat} (h : val l = 0) : l = List.replicate l.length 0 := by
 induction l with
 | nil => rfl
 | cons x l ih =>
  simp only [val] at h
  have h1 : x = 0 := by omega
  have h2 : val l = 0 := by omega
  rw [List.length_cons, List.replicate_succ, ← ih h2, h1]
theorem lim_val {l : List Nat} (h : OkL l) (hl : l = [] ∨ l.getLastD 0 ≠ 0) : lim (val l) = l := by
 induction l with
 | nil => exact lim_zero
 | cons x l ih =>
  rw [okL_cons] at h
  have hne : val (x :: l) ≠ 0 := by
   intro h0
   have hz := val_zero h0
   rcases hl with hl | hl
   ·cases hl
   ·apply hl
    rw [hz]
    simp [List.getLastD_eq_getLast?, List.getLast?_replicate]
  rw [lim_pos hne]
  have e1 : val (x :: l) % 4294967296 = x := by simp only [val]; omega
  have e2 : val (x :: l) / 4294967296 = val l := by simp only [val]; omega
  rw [e1, e2, ih h.2]
  rcases hl with hl | hl
  ·cases hl
  ·by_cases h0 : l = []
   ·exact .inl h0
   ·refine .inr ?_
    intro h1
    apply hl
    obtain ⟨y, m, rfl⟩ := List.exists_cons_of_ne_nil h0
    simpa [List.getLastD] using h1
theorem lim_length_le {n k : Nat} (h : n < 4294967296 ^ k) : (lim n).length ≤ k := by
 induction k generalizing n with
 | zero => simp at h; subst h; simp [lim_zero]
 | succ k ih =>
  by_cases h0 : n = 0
  ·subst h0; simp [lim_zero]
  ·rw [lim_pos h0, List.length_cons]
   have : n / 4294967296 < 4294967296 ^ k := by
    rw [Nat.pow_succ] at h
    exact Nat.div_lt_of_lt_mul (by rw [Nat.mul_comm]; exact h)
   have := ih this
   omega
theorem lt_pow_lim (n : Nat) : n < 4294967296 ^ (lim n).length := by
 have := val_lt (lim_ok n)
 rwa [val_lim] at this
theorem lim_mono {m n : Nat} (h : m ≤ n) : (lim m).length ≤ (lim n).length := lim_length_le (Nat.lt_of_le_of_lt h (lt_pow_lim n))
theorem lim_length_val {l : List Nat} (h : OkL l) : (lim (val l)).length ≤ l.length := lim_length_le (val_lt h)
theorem take_lim {l : List Nat} (h : OkL l) : l.take (lim (val l)).length = lim (val l) := by
 induction l with
 | nil => simp [val, lim_zero]
 | cons x l ih =>
  have h2 := okL_cons.1 h
  by_cases h0 : val (x :: l) = 0
  ·rw [h0, lim_zero]; rfl
  ·rw [lim_pos h0]
   have e1 : val (x :: l) % 4294967296 = x := by simp only [val]; omega
   have e2 : val (x :: l) / 4294967296 = val l := by simp only [val]; omega
   rw [e1, e2, List.length_cons, List.take_succ_cons, ih h2.2]
theorem val_take_succ (l : List Nat) (k : Nat) (h : k < l.length) : val (l.take (k + 1)) = val (l.take k) + 4294967296 ^ k * l.getD k 0 := by
 rw [List.take_succ_eq_append_getElem h, val_append]
 simp [val, h, Nat.min_eq_left (Nat.le_of_lt h)]
theorem val_drop (l : List Nat) (k : Nat) : val l = val (l.take k) + 4294967296 ^ (l.take k).length * val (l.drop k) := by
 rw [← val_append, List.take_append_drop]
def nl (x : Int) : Nat := (lim x.natAbs).length
theorem lim_mul (m n : Nat) : (lim (m * n)).length ≤ (lim m).length + (lim n).length := by
 refine lim_length_le ?_
 rw [Nat.pow_add]
 exact Nat.mul_lt_mul'' (lt_pow_lim m) (lt_pow_lim n)
theorem lim_one_le {n : Nat} (h : n < 4294967296) : (lim n).length ≤ 1 := lim_length_le (by simpa using h)
theorem val_lt_of {l m : List Nat} (hl : OkL l) (k : Nat) (hk : k < l.length) (hlen : l.length = m.length) (hd : l.drop (k + 1) = m.drop (k + 1)) (h : l.getD k 0 < m.getD k 0) : val l < val m := by
 have e1 := val_drop l (k + 1)
 have e2 := val_drop m (k + 1)
 rw [← hd] at e2
 have t1 : (l.take (k + 1)).length = k + 1 := by rw [List.length_take]; omega
 have t2 : (m.take (k + 1)).length = k + 1 := by rw [List.length_take]; omega
 rw [t1] at e1
 rw [t2] at e2
 have f1 := val_take_succ l k hk
 have f2 := val_take_succ m k (by omega)
 have g := val_lt (okL_take hl k)
 rw [List.length_take, Nat.min_eq_left (by omega)] at g
 have : 4294967296 ^ k * (l.getD k 0 + 1) ≤ 4294967296 ^ k * m.getD k 0 := Nat.mul_le_mul_left _ h
 rw [Nat.mul_add, Nat.mul_one] at this
 omega
theorem lt_of_lim_length {m n : Nat} (h : (lim m).length < (lim n).length) : m < n := by
 rcases Nat.lt_or_ge m n with h1 | h1
 ·exact h1
 ·have := lim_mono h1
  omega
def limV (l : List Nat) : List Value := l.map fun x : Nat => .int .u32 (x : Int)
theorem limV_length (l : List Nat) : (limV l).length = l.length := by simp [limV]
theorem limV_take (l : List Nat) (n : Nat) : limV (l.take n) = (limV l).take n := by simp [limV, List.map_take]
theorem limV_getD (l : List Nat) (j : Nat) (h : j < l.length) : (limV l).getD j undef = .int .u32 ((l.getD j 0 : Nat) : Int) := by simp [limV, h]
inductive FSpec where
 | val (c : Value)
 | pred (Φ : World → Value → Prop)
def FSpec.ok : FSpec → World → Value → Prop
 | .val c, _, v => v = c
 | .pred Φ, W, v => Φ W v
def givesV (P : Program) (S : World → Value → Prop) : Result Next → Prop
 | .ok (.value v) w => S w v
 | .ok .skip w => S w undef
 | .ok (.enter f args) w => Calls P f args w fun e w' => ∃ v, e = .returned v ∧ S w' v
 | _ => False
@[go_sem] theorem givesV_value (P : Program) (S : World → Value → Prop) (v : Value) (w : World) : givesV P S (.ok (.value v) w) = S w v := rfl
@[go_sem] theorem givesV_skip (P : Program) (S : World → Value → Prop) (w : World) : givesV P S (.ok .skip w) = S w undef := rfl
@[go_sem] theorem givesV_enter (P : Program) (S : World → Value → Prop) (f : FuncId) (args : Array Value) (w : World) : givesV P S (.ok (.enter f args) w) = Calls P f args w fun e w' => ∃ v, e = .returned v ∧ S w' v := rfl
theorem upon_of_gives {P : Program} {S : World → Value → Prop} {o : Oper} {a : Act} {K : Act → World → Prop} {Q : Exit → Act → World → Prop} {r : Result Next}
  (h : givesV P S r) (hK : ∀ w v, S w v → K (a.put o.dst v) w) : o.upon P a K Q r := by
 unfold givesV at h
 split at h
 ·exact hK _ _ h
 ·exact hK _ _ h
 ·refine Calls.mono h fun e w' he => ?_
  obtain ⟨v, rfl, hs⟩ := he
  exact hK _ _ hs
 ·exact h.elim
def leans (l : List Oper) (o : Oper) (j : Nat) : Bool :=
 match (l[j]?).bind (·.dst) with
 | some d => (o.looksAt l.toArray).contains d
 | none => false
def factsHold (sel : Nat → Bool) (W : World) : List (Nat × FSpec × Value) → Prop
 | [] => True
 | p :: F => (sel p.1 = true → p.2.1.ok W p.2.2) ∧ factsHold sel W F
theorem factsHold_of {sel : Nat → Bool} {W : World} : ∀ {F : List (Nat × FSpec × Value)}, (∀ p ∈ F, sel p.1 = true → p.2.1.ok W p.2.2) → factsHold sel W F
 | [], _ => trivial
 | p :: _, h => ⟨h p (List.mem_cons_self ..), factsHold_of fun q hq => h q (List.mem_cons_of_mem _ hq)⟩
def freeSteps (P : Program) (l0 : List Oper) (R : World → World → Prop) (w0 : World) (Q : Exit → Act → World → Prop) : Nat → List FSpec → List Oper → Act → List (Nat × FSpec × Value) → Prop
 | _, [], l, a, F => ∀ W, R w0 W → factsHold (fun _ => true) W F → wpList P l0.toArray Q l a W
 | _, _ :: _, [], _, _ => False
 | k, .val c :: ss, o :: l, a, F =>
  (∀ W, R w0 W → factsHold (leans l0 o) W F → if Region.wanted o (yielded l0.toArray a.tmps) then givesV P (fun W' v => R W W' ∧ v = c) ((execOp a.eval o).run P W) else undef = c) ∧
   freeSteps P l0 R w0 Q (k + 1) ss l (a.put o.dst c) F
 | k, .pred Φ :: ss, o :: l, a, F =>
  (∀ W, R w0 W → factsHold (leans l0 o) W F → if Region.wanted o (yielded l0.toArray a.tmps) then givesV P (fun W' v => R W W' ∧ Φ W' v) ((execOp a.eval o).run P W) else Φ W undef) ∧
   ∀ v, freeSteps P l0 R w0 Q (k + 1) ss l (a.put o.dst v) ((k, .pred Φ, v) :: F)
def hasEdge (o : Oper) (j : Nat) : Bool := o.after.toList.any fun e => Region.binds .any e && e.on == j
def ancB (l : List Oper) : Nat → Oper → Nat → Bool
 | 0, o, j => hasEdge o j
 | f + 1, o, j => hasEdge o j || o.after.toList.any fun e => Region.binds .any e && (match l[e.on]? with | some o' => ancB l f o' j | none => false)
def okOper (l : List Oper) (n i : Nat) (o : Oper) : Bool :=
 (o.after.toList.all fun e => !Region.binds .any e || decide (e.on < i)) &&
 (if i < n then
  o.dst.isSome && (List.range l.length).all fun j => match l[j]? with
   | some oj => (match oj.dst with
    | some d => (!(o.looksAt l.toArray).contains d || (decide (j < i) && hasEdge o j)) && (j == i || o.dst != some d)
    | none => true)
   | none => true
 else (List.range i).all fun j => ancB l 16 o j)
def okFree (n size : Nat) (l : List Oper) : Bool :=
 Region.noSelect l.toArray && decide (n ≤ l.length) && (l.all fun o => match o.dst with | some d => decide (d < size) | none => true) &&
  (List.range l.length).all fun i => match l[i]? with | some o => okOper l n i o | none => true
section
variable {P : Program} {l0 : List Oper} {R : World → World → Prop} {w0 : World} {Q : Exit → Act → World → Prop}
def frameAt (a0 : Act) (l : List Oper) (vs : Nat → Value) : Nat → Act
 | 0 => a0
 | k + 1 => match l[k]? with
  | some o => (frameAt a0 l vs k).put o.dst (vs k)
  | none => frameAt a0 l vs k
def factsAt (specs : List FSpec) (vs : Nat → Value) : Nat → List (Nat × FSpec × Value)
 | 0 => []
 | k + 1 => match specs[k]? with
  | some (.pred Φ) => (k, .pred Φ, vs k) :: factsAt specs vs k
  | _ => factsAt specs vs k
def fits (specs : List FSpec) (vs : Nat → Value) : Prop := ∀ k c, specs[k]? = some (.val c) → vs k = c
theorem steps_at {specs : List FSpec} {a0 : Act} (h : freeSteps P l0 R w0 Q 0 specs l0 a0 []) (vs : Nat → Value) (hv : fits specs vs) :
  ∀ k, k ≤ specs.length → freeSteps P l0 R w0 Q k (specs.drop k) (l0.drop k) (frameAt a0 l0 vs k) (factsAt specs vs k) := by
 intro k
 induction k with
 | zero => intro _; simpa [frameAt, factsAt] using h
 | succ k ih =>
  intro hk
  have ih := ih (by omega)
  rw [List.drop_eq_getElem_cons (show k < specs.length by omega)] at ih
  have hs : specs[k]? = some specs[k] := List.getElem?_eq_getElem (by omega)
  by_cases hl : k < l0.length
  ·rw [List.drop_eq_getElem_cons hl] at ih
   have ho : l0[k]? = some l0[k] := List.getElem?_eq_getElem hl
   generalize hsp : specs[k] = s at ih hs
   cases s with
   | val c =>
    have hc := hv k c hs
    simp only [freeSteps] at ih
    simp only [frameAt, ho, factsAt, hs, hc]
    exact ih.2
   | pred Φ =>
    simp only [freeSteps] at ih
    simp only [frameAt, ho, factsAt, hs]
    exact ih.2 (vs k)
  ·rw [List.drop_eq_nil_of_le (show l0.length ≤ k by omega)] at ih
   simp [freeSteps] at ih
theorem frameAt_defers (a0 : Act) (l : List Oper) (vs : Nat → Value) (k : Nat) : (frameAt a0 l vs k).defers = a0.defers := by
 induction k with
 | zero => rfl
 | succ k ih =>
  simp only [frameAt]
  split
  ·rename_i o _
   cases h : o.dst <;> simp [Act.put, ih]
  ·exact ih
theorem frameAt_size (a0 : Act) (l : List Oper) (vs : Nat → Value) (k : Nat) : (frameAt a0 l vs k).tmps.size = a0.tmps.size := by
 induction k with
 | zero => rfl
 | succ k ih =>
  simp only [frameAt]
  split
  ·rename_i o _
   cases h : o.dst <;> simp [Act.put, ih]
  ·exact ih
theorem frameAt_other (a0 : Act) (l : List Oper) (vs : Nat → Value) (k t : Nat) (h : ∀ j o, j < k → l[j]? = some o → o.dst ≠ some t) :
  (frameAt a0 l vs k).tmps[t]? = a0.tmps[t]? := by
 induction k with
 | zero => rfl
 | succ k ih =>
  have ih := ih fun j o hj => h j o (by omega)
  simp only [frameAt]
  split
  ·rename_i o ho
   have := h k o (by omega) ho
   cases hd : o.dst with
   | none => simpa [Act.put, hd] using ih
   | some d =>
    have hne : d ≠ t := fun e => this (by rw [hd, e])
    simp only [Act.put, Array.getElem?_setIfInBounds_ne hne]
    exact ih
  ·exact ih
theorem frameAt_own (a0 : Act) (l : List Oper) (vs : Nat → Value) (k t j : Nat) (o : Oper) (hj : j < k) (ho : l[j]? = some o) (hd : o.dst = some t) (ht : t < a0.tmps.size)
  (h : ∀ i o', i ≠ j → l[i]? = some o' → o'.dst ≠ some t) : (frameAt a0 l vs k).tmps[t]? = some (vs j) := by
 induction k with
 | zero => omega
 | succ k ih =>
  simp only [frameAt]
  by_cases hjk : j = k
  ·subst hjk
   rw [ho]
   simp only [Act.put, hd]
   rw [Array.getElem?_setIfInBounds_self_of_lt (by rw [frameAt_size]; exact ht)]
  ·have ih := ih (by omega)
   split
   ·rename_i o' ho'
    have := h k o' (fun e => hjk e.symm) ho'
    cases hd' : o'.dst with
    | none => simpa [Act.put, hd'] using ih
    | some d =>
     have hne : d ≠ t := fun e => this (by rw [hd', e])
     simp only [Act.put, Array.getElem?_setIfInBounds_ne hne]
     exact ih
   ·exact ih
theorem mem_factsAt {specs : List FSpec} {vs : Nat → Value} {k : Nat} {p : Nat × FSpec × Value} (h : p ∈ factsAt specs vs k) : p.1 < k ∧ specs[p.1]? = some p.2.1 ∧ p.2.2 = vs p.1 := by
 induction k with
 | zero => simp [factsAt] at h
 | succ k ih =>
  simp only [factsAt] at h
  split at h
  ·rename_i Φ hs
   rcases List.mem_cons.1 h with h | h
   ·subst h
    exact ⟨by simp, hs, rfl⟩
   ·have := ih h
    exact ⟨by omega, this.2⟩
  ·have := ih h
   exact ⟨by omega, this.2⟩
theorem filter_le {p q : Nat → Bool} : ∀ (l : List Nat), (∀ x ∈ l, q x = true → p x = true) → (l.filter q).length ≤ (l.filter p).length
 | [], _ => nR _
 | x :: l, h => by
  have ih := filter_le l fun y hy => h y (List.mem_cons_of_mem _ hy)
  by_cases hq : q x = true
  ·simp [hq, h x (List.mem_cons_self ..) hq, ih]
  ·by_cases hp : p x = true
   ·simp [hq, hp]; omega
   ·simp [hq, hp, ih]
theorem filter_lt {p q : Nat → Bool} {i : Nat} : ∀ (l : List Nat), (∀ x ∈ l, q x = true → p x = true) → i ∈ l → p i = true → q i = false → (l.filter q).length < (l.filter p).length
 | x :: l, h, hi, hp, hq => by
  have hl := filter_le l fun y hy => h y (List.mem_cons_of_mem _ hy)
  by_cases hx : x = i
  ·subst hx
   simp [hp, hq]
   omega
  ·have hi' : i ∈ l := by
    rcases List.mem_cons.1 hi with e | e
    ·exact absurd e.symm hx
    ·exact e
   have ih := filter_lt l (fun y hy => h y (List.mem_cons_of_mem _ hy)) hi' hp hq
   by_cases hqx : q x = true
   ·simp [hqx, h x (List.mem_cons_self ..) hqx, ih]
   ·by_cases hpx : p x = true
    ·simp [hqx, hpx]; omega
    ·simp [hqx, hpx, ih]
def left (l : List Oper) (listed : Array Bool) : Nat := ((List.range l.length).filter fun i => !listed.getD i true).length
theorem left_set {l : List Oper} {listed : Array Bool} {i : Nat} (hi : i < l.length) (h : listed.getD i true = false) : left l (listed.setIfInBounds i true) < left l listed := by
 refine filter_lt _ (fun x _ hx => ?_) (List.mem_range.2 hi) (by simpa using h) ?_
 ·by_cases e : i = x
  ·subst e; simpa using h
  ·rwa [getD_set_ne true e] at hx
 ·have hlt : i < listed.size := by
   rcases Nat.lt_or_ge i listed.size with h' | h'
   ·exact h'
   ·simp [Array.getElem?_eq_none h'] at h
  simp [hlt]
theorem left_ge {l : List Oper} {listed : Array Bool} {n : Nat} (h : ∀ i, n ≤ i → i < l.length → listed.getD i true = false) : l.length - n ≤ left l listed := by
 unfold left
 generalize l.length = L at h
 induction L with
 | zero => simp
 | succ L ih =>
  have ih := ih fun i h1 h2 => h i h1 (by omega)
  rw [List.range_succ, List.filter_append, List.length_append]
  by_cases hn : n ≤ L
  ·have := h L hn (by omega)
   have e : ([L].filter fun i => !listed.getD i true) = [L] := List.filter_eq_self.2 fun x hx => by
    simp only [List.mem_singleton] at hx
    rw [hx, this]; rfl
   rw [e, List.length_singleton]
   omega
  ·omega
theorem lt_of_unlisted {listed : Array Bool} {i : Nat} (h : listed.getD i true = false) : i < listed.size := by
 rcases Nat.lt_or_ge i listed.size with h' | h'
 ·exact h'
 ·simp [Array.getElem?_eq_none h'] at h
theorem listed_cases {listed : Array Bool} {i : Nat} (h : i < listed.size) : listed.getD i false = true ∨ listed.getD i true = false := by
 simp [h]
theorem listed_anc {listed : Array Bool} (hcl : ∀ i o, listed.getD i false = true → l0[i]? = some o → ∀ e ∈ o.after, Region.binds .any e = true → listed.getD e.on false = true) :
  ∀ (f : Nat) (o : Oper) (j : Nat), (∀ e ∈ o.after, Region.binds .any e = true → listed.getD e.on false = true) → ancB l0 f o j = true → listed.getD j false = true := by
 have direct : ∀ (o : Oper) (j : Nat), (∀ e ∈ o.after, Region.binds .any e = true → listed.getD e.on false = true) → hasEdge o j = true → listed.getD j false = true := by
  intro o j h he
  simp only [hasEdge, List.any_eq_true, Bool.and_eq_true, beq_iff_eq] at he
  obtain ⟨e, hm, hb, rfl⟩ := he
  exact h e (Array.mem_toList_iff.1 hm) hb
 intro f
 induction f with
 | zero => intro o j h ha; exact direct o j h ha
 | succ f ih =>
  intro o j h ha
  simp only [ancB, Bool.or_eq_true] at ha
  rcases ha with ha | ha
  ·exact direct o j h ha
  ·simp only [List.any_eq_true, Bool.and_eq_true] at ha
   obtain ⟨e, hm, hb, ha⟩ := ha
   split at ha
   ·rename_i o' ho'
    exact ih o' j (hcl e.on o' (h e (Array.mem_toList_iff.1 hm) hb) ho') ha
   ·cases ha
theorem tail_forced {n : Nat} (htail : ∀ i o, n ≤ i → l0[i]? = some o → ∀ j, j < i → ancB l0 16 o j = true) :
  ∀ (k m : Nat) (listed : Array Bool) (a : Act) (W : World) (fuel : Nat), n ≤ m → m + k = l0.length → k ≤ fuel → listed.size = l0.length →
   (∀ i o, listed.getD i false = true → l0[i]? = some o → ∀ e ∈ o.after, Region.binds .any e = true → listed.getD e.on false = true) →
   (∀ i, i < l0.length → (listed.getD i false = true ↔ i < m)) →
   (∀ i o, l0[i]? = some o → ∀ e ∈ o.after, Region.binds .any e = true → e.on < i) →
   wpList P l0.toArray Q (l0.drop m) a W → wpAny P .any l0.toArray Q fuel listed a W := by
 intro k
 induction k with
 | zero =>
  intro m listed a W fuel _ hmk _ hsz _ hlst _ h
  have hr : Region.ready .any l0.toArray listed = [] := by
   cases hr : Region.ready .any l0.toArray listed with
   | nil => rfl
   | cons i r =>
    have := (mem_ready (md := .any) (ops := l0.toArray) (listed := listed) (j := i)).1 (by rw [hr]; simp)
    have hlt := lt_of_unlisted this.1
    have h2 := (hlst i (by omega)).2 (by omega)
    have h3 := this.1
    simp [hlt] at h2 h3
    rw [h2] at h3
    cases h3
  rw [List.drop_eq_nil_of_le (show l0.length ≤ m by omega)] at h
  exact wpAny_done hr h fuel
 | succ k ih =>
  intro m listed a W fuel hnm hmk hfuel hsz hcl hlst hed h
  obtain ⟨fuel, rfl⟩ : ∃ f, fuel = f + 1 := ⟨fuel - 1, by omega⟩
  have hml : m < l0.length := by omega
  have ho : l0[m]? = some l0[m] := List.getElem?_eq_getElem hml
  have hun : listed.getD m true = false := by
   rcases listed_cases (listed := listed) (i := m) (by omega) with h1 | h1
   ·have := (hlst m hml).1 h1; omega
   ·exact h1
  have hready : m ∈ Region.ready .any l0.toArray listed := by
   rw [mem_ready]
   exact ⟨hun, _, by simp [hml], fun e he hb => (hlst e.on (by have := hed m _ ho e he hb; omega)).2 (hed m _ ho e he hb)⟩
  refine ⟨fun h0 => absurd (h0 ▸ hready) (by simp), fun i hi => ?_⟩
  have him : i = m := by
   obtain ⟨h1, o, ho', hall⟩ := mem_ready.1 hi
   have hlt := lt_of_unlisted h1
   rcases Nat.lt_trichotomy i m with hlt' | he | hgt
   ·have h2 := (hlst i (by omega)).2 hlt'
    simp [hlt] at h1 h2
    rw [h2] at h1; cases h1
   ·exact he
   ·have ho'' : l0[i]? = some o := by simpa using ho'
    have := listed_anc hcl 16 o m hall (htail i o (by omega) ho'' m hgt)
    have := (hlst m hml).1 this
    omega
  subst him
  unfold wpOp
  simp only [List.getElem?_toArray, ho]
  rw [List.drop_eq_getElem_cons hml] at h
  simp only [wpList] at h
  have next : ∀ a' W', wpList P l0.toArray Q (l0.drop (i + 1)) a' W' → wpAny P .any l0.toArray Q fuel (listed.setIfInBounds i true) a' W' := by
   intro a' W' h'
   refine ih (i + 1) _ a' W' fuel (by omega) (by omega) (by omega) (by simpa using hsz) ?_ ?_ hed h'
   ·intro j o hj hoj e he hb
    by_cases hij : i = j
    ·subst hij
     rw [ho] at hoj
     cases hoj
     exact getD_set_true ((hlst e.on (by have := hed i _ ho e he hb; omega)).2 (hed i _ ho e he hb))
    ·rw [getD_set_ne false hij] at hj
     exact getD_set_true (hcl j o hj hoj e he hb)
   ·intro j hj
    by_cases hij : i = j
    ·subst hij
     simp [show i < listed.size by omega]
    ·rw [getD_set_ne false hij, hlst j hj]
     omega
  split
  ·rename_i hw
   rw [if_pos hw] at h
   exact h.imp (Oper.wp_mono next) id
  ·rename_i hw
   rw [if_neg hw] at h
   exact next _ _ h
structure OkSpec (l : List Oper) (n size : Nat) : Prop where
 sel : ∀ (j : Nat) (o : Oper) cs b, l[j]? = some o → o.op ≠ .select cs b
 len : n ≤ l.length
 dst : ∀ (j : Nat) (o : Oper) (d : Tmp), l[j]? = some o → o.dst = some d → d < size
 edge : ∀ (i : Nat) (o : Oper), l[i]? = some o → ∀ e ∈ o.after, Region.binds .any e = true → e.on < i
 has : ∀ (i : Nat) (o : Oper), i < n → l[i]? = some o → o.dst.isSome = true
 look : ∀ (i : Nat) (o : Oper) (j : Nat) (oj : Oper) (d : Tmp), i < n → l[i]? = some o → l[j]? = some oj → oj.dst = some d → d ∈ o.looksAt l.toArray → j < i ∧ hasEdge o j = true
 one : ∀ (i : Nat) (o : Oper) (j : Nat) (oj : Oper) (d : Tmp), i < n → l[i]? = some o → l[j]? = some oj → oj.dst = some d → i ≠ j → o.dst ≠ some d
 tail : ∀ (i : Nat) (o : Oper), n ≤ i → l[i]? = some o → ∀ j, j < i → ancB l 16 o j = true
theorem okFree_spec {n size : Nat} {l : List Oper} (h : okFree n size l = true) : OkSpec l n size := by
 simp only [okFree, Bool.and_eq_true, decide_eq_true_eq, List.all_eq_true, List.mem_range] at h
 obtain ⟨⟨⟨h1, h2⟩, h3⟩, h4⟩ := h
 have at_ : ∀ i o, l[i]? = some o → okOper l n i o = true := by
  intro i o ho
  have := h4 i (List.getElem?_eq_some_iff.1 ho).1
  rwa [ho] at this
 refine ⟨fun j o cs b hj => Region.noSelect_spec h1 j o cs b (by simpa using hj), h2, ?_, ?_, ?_, ?_, ?_, ?_⟩
 ·intro j o d ho hd
  have := h3 o (List.mem_of_getElem? ho)
  simpa [hd] using this
 ·intro i o ho e he hb
  have := at_ i o ho
  simp only [okOper, Bool.and_eq_true, List.all_eq_true, Bool.or_eq_true, Bool.not_eq_true', decide_eq_true_eq] at this
  have := this.1 e (Array.mem_toList_iff.2 he)
  rcases this with h | h
  ·rw [h] at hb; cases hb
  ·exact h
 ·intro i o hi ho
  have := at_ i o ho
  simp only [okOper, Bool.and_eq_true, if_pos hi] at this
  exact this.2.1
 ·intro i o j oj d hi ho hj hd hm
  have := at_ i o ho
  simp only [okOper, Bool.and_eq_true, if_pos hi, List.all_eq_true, List.mem_range] at this
  have := this.2.2 j (List.getElem?_eq_some_iff.1 hj).1
  simp only [hj, hd, Bool.and_eq_true, Bool.or_eq_true, Bool.not_eq_true', decide_eq_true_eq] at this
  rcases this.1 with h | h
  ·have := List.contains_iff_mem.2 hm
   rw [h] at this; cases this
  ·exact h
 ·intro i o j oj d hi ho hj hd hne
  have := at_ i o ho
  simp only [okOper, Bool.and_eq_true, if_pos hi, List.all_eq_true, List.mem_range] at this
  have := this.2.2 j (List.getElem?_eq_some_iff.1 hj).1
  simp only [hj, hd, Bool.and_eq_true, Bool.or_eq_true, beq_iff_eq, bne_iff_ne, ne_eq] at this
  rcases this.2 with h | h
  ·exact absurd h.symm hne
  ·exact h
 ·intro i o hi ho j hj
  have := at_ i o ho
  simp only [okOper, Bool.and_eq_true, if_neg (Nat.not_lt.2 hi), List.all_eq_true, List.mem_range] at this
  exact this.2 j hj
structure Midway (l : List Oper) (specs : List FSpec) (R : World → World → Prop) (w0 : World) (a0 : Act) (listed : Array Bool) (a : Act) (W : World) : Prop where
 size : listed.size = l.length
 rel : R w0 W
 defers : a.defers = a0.defers
 tsize : a.tmps.size = a0.tmps.size
 closed : ∀ (i : Nat) (o : Oper), listed.getD i false = true → l[i]? = some o → ∀ e ∈ o.after, Region.binds .any e = true → listed.getD e.on false = true
 other : ∀ (t : Tmp), (∀ (j : Nat) (o : Oper), l[j]? = some o → listed.getD j false = true → o.dst ≠ some t) → a.tmps[t]? = a0.tmps[t]?
 fact : ∀ (j : Nat) (o : Oper) (d : Tmp) (s : FSpec), listed.getD j false = true → l[j]? = some o → o.dst = some d → specs[j]? = some s → s.ok W (a.tmps.getD d undef)
 late : ∀ (j : Nat), specs.length ≤ j → listed.getD j false = false
def valuesOf (l : List Oper) (specs : List FSpec) (a : Act) (j : Nat) : Value :=
 match specs[j]? with
 | some (.val c) => c
 | _ => match (l[j]?).bind (·.dst) with
  | some d => a.tmps.getD d undef
  | none => undef
theorem valuesOf_fits (l : List Oper) (specs : List FSpec) (a : Act) : fits specs (valuesOf l specs a) := by
 intro k c h
 simp [valuesOf, h]
theorem Midway.value {specs : List FSpec} {a0 a : Act} {listed : Array Bool} {W : World} (m : Midway l0 specs R w0 a0 listed a W) {j : Nat} {o : Oper} {d : Tmp} (hj : listed.getD j false = true) (ho : l0[j]? = some o) (hd : o.dst = some d) :
  a.tmps.getD d undef = valuesOf l0 specs a j := by
 have hlt : j < specs.length := by
  rcases Nat.lt_or_ge j specs.length with h | h
  ·exact h
  ·rw [m.late j h] at hj; cases hj
 have hs : specs[j]? = some specs[j] := List.getElem?_eq_getElem hlt
 have := m.fact j o d _ hj ho hd hs
 generalize specs[j] = s at this hs
 cases s with
 | val c => simp only [FSpec.ok] at this; simp [valuesOf, hs, this]
 | pred Φ => simp [valuesOf, hs, ho, hd]
theorem Midway.tmp {specs : List FSpec} {a0 a : Act} {listed : Array Bool} {W : World} (m : Midway l0 specs R w0 a0 listed a W) (ok : OkSpec l0 specs.length a0.tmps.size) (k t : Nat) (hk : k ≤ specs.length)
  (h : ∀ (j : Nat) (oj : Oper), l0[j]? = some oj → oj.dst = some t → j < k ∧ listed.getD j false = true) : (frameAt a0 l0 (valuesOf l0 specs a) k).tmps[t]? = a.tmps[t]? := by
 by_cases hex : ∃ (j : Nat) (oj : Oper), l0[j]? = some oj ∧ oj.dst = some t
 ·obtain ⟨j, oj, hj, hd⟩ := hex
  obtain ⟨hjk, hlj⟩ := h j oj hj hd
  have ht := ok.dst j oj t hj hd
  rw [frameAt_own a0 l0 _ k t j oj hjk hj hd ht fun i o' hne ho' hd' => by
   rcases Nat.lt_or_ge i specs.length with hi | hi
   ·exact ok.one i o' j oj t hi ho' hj hd hne hd'
   ·exact ok.one j oj i o' t (by omega) hj ho' hd' (Ne.symm hne) hd]
  rw [← m.value hlj hj hd]
  have : t < a.tmps.size := by rw [m.tsize]; exact ht
  simp [this]
 ·rw [frameAt_other a0 l0 _ k t fun j o _ ho hd => hex ⟨j, o, ho, hd⟩, m.other t fun j o ho _ hd => hex ⟨j, o, ho, hd⟩]
theorem eval_of_tmps {a b : Act} (o : Oper) (hs : ∀ cs b, o.op ≠ .select cs b) (h : ∀ t, t ∈ o.looksAt l0.toArray → a.tmps[t]? = b.tmps[t]?) : execOp a.eval o = execOp b.eval o := by
 refine execOp_congr o hs fun x hx => ?_
 cases x with
 | tmp t =>
  have := h t (List.mem_append_left _ (List.mem_filterMap.2 ⟨.tmp t, by simpa using hx, rfl⟩))
  simp [Act.eval, this]
 | _ => rfl
theorem wanted_of_tmps {a b : Act} (o : Oper) (h : ∀ t, t ∈ o.looksAt l0.toArray → a.tmps[t]? = b.tmps[t]?) : Region.wanted o (yielded l0.toArray a.tmps) = Region.wanted o (yielded l0.toArray b.tmps) := by
 unfold Region.wanted
 cases hg : o.guard with
 | none => rfl
 | some gw =>
  obtain ⟨g, want⟩ := gw
  have hy : yielded l0.toArray a.tmps g = yielded l0.toArray b.tmps g := by
   unfold yielded
   cases ht : (l0.toArray[g]?).bind (·.dst) with
   | none => rfl
   | some t =>
    have := h t (List.mem_append_right _ (by simp only [hg, ht]; simp))
    simp [this]
  simp only [hy]
theorem Midway.step {specs : List FSpec} {a0 a : Act} {listed : Array Bool} {W : World} (m : Midway l0 specs R w0 a0 listed a W) (ok : OkSpec l0 specs.length a0.tmps.size) (hrf : ∀ a, R a a) (htr : ∀ a b c, R a b → R b c → R a c)
  (hst : ∀ s ∈ specs, ∀ W W' v, R W W' → s.ok W v → s.ok W' v) (h : freeSteps P l0 R w0 Q 0 specs l0 a0 []) {i : Nat} (hi : i < specs.length) (hr : i ∈ Region.ready .any l0.toArray listed) :
  wpOp P l0.toArray Q i (fun a' W' => Midway l0 specs R w0 a0 (listed.setIfInBounds i true) a' W') a W := by
 obtain ⟨hun, o, ho', hedge⟩ := mem_ready.1 hr
 have ho : l0[i]? = some o := by simpa using ho'
 have hil : i < l0.length := (List.getElem?_eq_some_iff.1 ho).1
 have hlt : i < listed.size := by rw [m.size]; exact hil
 have hat := steps_at h (valuesOf l0 specs a) (valuesOf_fits l0 specs a) i (by omega)
 rw [List.drop_eq_getElem_cons hi, List.drop_eq_getElem_cons hil] at hat
 have hs : specs[i]? = some specs[i] := List.getElem?_eq_getElem hi
 have hoi : l0[i] = o := by
  have := List.getElem?_eq_getElem hil
  rw [ho] at this
  exact (Option.some.inj this).symm
 rw [hoi] at hat
 have hfacts : ∀ p ∈ factsAt specs (valuesOf l0 specs a) i, leans l0 o p.1 = true → p.2.1.ok W p.2.2 := by
  intro p hp hl
  obtain ⟨h1, h2, h3⟩ := mem_factsAt hp
  unfold leans at hl
  split at hl
  ·rename_i d hd
   obtain ⟨oj, hj, hdj⟩ := Option.bind_eq_some_iff.1 hd
   have hlook := ok.look i o p.1 oj d hi ho hj hdj (List.contains_iff_mem.1 hl)
   have hlj : listed.getD p.1 false = true := listed_anc (l0 := l0) m.closed 0 o p.1 hedge hlook.2
   have := m.fact p.1 oj d p.2.1 hlj hj hdj h2
   rw [h3, ← m.value hlj hj hdj]
   exact this
  ·cases hl
 have hsame : ∀ t, t ∈ o.looksAt l0.toArray → (frameAt a0 l0 (valuesOf l0 specs a) i).tmps[t]? = a.tmps[t]? := by
  intro t ht
  refine m.tmp ok i t (by omega) fun j oj hj hdj => ?_
  have hlook := ok.look i o j oj t hi ho hj hdj ht
  exact ⟨hlook.1, listed_anc (l0 := l0) m.closed 0 o j hedge hlook.2⟩
 have hev : execOp (frameAt a0 l0 (valuesOf l0 specs a) i).eval o = execOp a.eval o := eval_of_tmps o (fun cs b => ok.sel i o cs b ho) hsame
 have hwa : Region.wanted o (yielded l0.toArray (frameAt a0 l0 (valuesOf l0 specs a) i).tmps) = Region.wanted o (yielded l0.toArray a.tmps) := wanted_of_tmps o hsame
 -- what is left to show of each value
 have next : ∀ W' v, R W W' → specs[i].ok W' v → Midway l0 specs R w0 a0 (listed.setIfInBounds i true) (a.put o.dst v) W' := by
  intro W' v hR hv
  refine ⟨by simpa using m.size, htr _ _ _ m.rel hR, ?_, ?_, ?_, ?_, ?_, ?_⟩
  ·rw [← m.defers]; cases o.dst <;> rfl
  ·rw [← m.tsize]; cases hd : o.dst <;> simp [Act.put]
  ·intro j oj hj hoj e he hb
   by_cases hij : i = j
   ·subst hij
    rw [ho] at hoj; cases hoj
    exact getD_set_true (hedge e he hb)
   ·rw [getD_set_ne false hij] at hj
    exact getD_set_true (m.closed j oj hj hoj e he hb)
  ·intro t ht
   have hne : o.dst ≠ some t := ht i o ho (by simp [hlt])
   rw [← m.other t fun j oj hoj hj => ht j oj hoj (by
    by_cases hij : i = j
    ·subst hij; simp [hlt]
    ·rw [getD_set_ne false hij]; exact hj)]
   cases hd : o.dst with
   | none => rfl
   | some d =>
    have : d ≠ t := fun e => hne (by rw [hd, e])
    simp [Act.put, Array.getElem?_setIfInBounds_ne this]
  ·intro j oj d s hj hoj hdj hsj
   by_cases hij : i = j
   ·subst hij
    rw [ho] at hoj; cases hoj
    rw [hs] at hsj; cases hsj
    have hsz : d < a.tmps.size := by rw [m.tsize]; exact ok.dst i _ d ho hdj
    simpa [Act.put, hdj, hsz] using hv
   ·rw [getD_set_ne false hij] at hj
    have hf := m.fact j oj d s hj hoj hdj hsj
    have hf := hst s (List.mem_of_getElem? hsj) _ _ _ hR hf
    have hnd : o.dst ≠ some d := ok.one i o j oj d hi ho hoj hdj hij
    cases hd : o.dst with
    | none => simpa [Act.put] using hf
    | some e =>
     have : e ≠ d := fun e' => hnd (by rw [hd, e'])
     simpa [Act.put, Array.getElem?_setIfInBounds_ne this] using hf
  ·intro j hj
   rw [getD_set_ne false (show i ≠ j by omega)]
   exact m.late j hj
 unfold wpOp
 simp only [List.getElem?_toArray, ho]
 generalize hsp : specs[i] = s at hat next
 cases s with
 | val c =>
  simp only [freeSteps] at hat
  have hone := hat.1 W m.rel (factsHold_of hfacts)
  rw [hwa, hev] at hone
  split
  ·rename_i hw
   rw [if_pos hw] at hone
   refine .inl (upon_of_gives hone fun w' v hv => next _ _ hv.1 hv.2)
  ·rename_i hw
   rw [if_neg hw] at hone
   exact next W undef (hrf W) hone
 | pred Φ =>
  simp only [freeSteps] at hat
  have hone := hat.1 W m.rel (factsHold_of hfacts)
  rw [hwa, hev] at hone
  split
  ·rename_i hw
   rw [if_pos hw] at hone
   refine .inl (upon_of_gives hone fun w' v hv => next _ _ hv.1 hv.2)
  ·rename_i hw
   rw [if_neg hw] at hone
   exact next W undef (hrf W) hone
theorem Midway.done {specs : List FSpec} {a0 a : Act} {listed : Array Bool} {W : World} (m : Midway l0 specs R w0 a0 listed a W) (ok : OkSpec l0 specs.length a0.tmps.size) (hall : ∀ j, j < specs.length → listed.getD j false = true) :
  a = frameAt a0 l0 (valuesOf l0 specs a) specs.length ∧ ∀ p ∈ factsAt specs (valuesOf l0 specs a) specs.length, p.2.1.ok W p.2.2 := by
 refine ⟨?_, fun p hp => ?_⟩
 ·obtain ⟨tm, df⟩ := a
  have hdf := frameAt_defers a0 l0 (valuesOf l0 specs ⟨tm, df⟩) specs.length
  have htm : tm = (frameAt a0 l0 (valuesOf l0 specs ⟨tm, df⟩) specs.length).tmps := by
   refine Array.ext_getElem? fun t => ?_
   by_cases hex : ∃ (j : Nat) (oj : Oper), l0[j]? = some oj ∧ oj.dst = some t ∧ specs.length ≤ j
   ·obtain ⟨j, oj, hj, hd, hge⟩ := hex
    by_cases hin : ∃ (i : Nat) (oi : Oper), l0[i]? = some oi ∧ oi.dst = some t ∧ i < specs.length
    ·obtain ⟨i, oi, hi, hdi, hlt⟩ := hin
     exact absurd hdi (ok.one i oi j oj t hlt hi hj hd (by omega))
    ·rw [frameAt_other a0 l0 _ _ t fun i o hi ho hd' => hin ⟨i, o, ho, hd', hi⟩]
     refine m.other t fun i o ho hl hd' => ?_
     rcases Nat.lt_or_ge i specs.length with h | h
     ·exact hin ⟨i, o, ho, hd', h⟩
     ·rw [m.late i h] at hl; cases hl
   ·refine (m.tmp ok specs.length t (nR _) fun j oj hj hd => ?_).symm
    have hlt : j < specs.length := by
     rcases Nat.lt_or_ge j specs.length with h | h
     ·exact h
     ·exact absurd ⟨j, oj, hj, hd, h⟩ hex
    exact ⟨hlt, hall j hlt⟩
  have h1 : (frameAt a0 l0 (valuesOf l0 specs ⟨tm, df⟩) specs.length).defers = df := by rw [hdf, ← m.defers]
  generalize frameAt a0 l0 (valuesOf l0 specs ⟨tm, df⟩) specs.length = f at htm h1
  obtain ⟨ft, fd⟩ := f
  simp only at htm h1
  rw [htm, h1]
 ·obtain ⟨h1, h2, h3⟩ := mem_factsAt hp
  have hil : p.1 < l0.length := by have := ok.len; omega
  have ho : l0[p.1]? = some l0[p.1] := List.getElem?_eq_getElem hil
  rw [h3]
  cases hd : l0[p.1].dst with
  | some d =>
   rw [← m.value (hall p.1 h1) ho hd]
   exact m.fact p.1 _ d _ (hall p.1 h1) ho hd h2
  | none =>
   have := ok.has p.1 _ h1 ho
   simp [hd] at this
theorem free_any {specs : List FSpec} {a0 : Act} (ok : OkSpec l0 specs.length a0.tmps.size) (hrf : ∀ a, R a a) (htr : ∀ a b c, R a b → R b c → R a c)
  (hst : ∀ s ∈ specs, ∀ W W' v, R W W' → s.ok W v → s.ok W' v) (h : freeSteps P l0 R w0 Q 0 specs l0 a0 []) :
  ∀ (fuel : Nat) (listed : Array Bool) (a : Act) (W : World), left l0 listed ≤ fuel → Midway l0 specs R w0 a0 listed a W → wpAny P .any l0.toArray Q fuel listed a W := by
 have fin : ∀ (listed : Array Bool) (a : Act) (W : World), Midway l0 specs R w0 a0 listed a W → (∀ j, j < specs.length → listed.getD j false = true) → wpList P l0.toArray Q (l0.drop specs.length) a W := by
  intro listed a W m hall
  obtain ⟨he, hf⟩ := m.done ok hall
  have hat := steps_at h (valuesOf l0 specs a) (valuesOf_fits l0 specs a) specs.length (nR _)
  rw [List.drop_length] at hat
  simp only [freeSteps] at hat
  have := hat W m.rel (factsHold_of fun p hp _ => hf p hp)
  rwa [← he] at this
 have hlst : ∀ (listed : Array Bool) (a : Act) (W : World), Midway l0 specs R w0 a0 listed a W → (∀ j, j < specs.length → listed.getD j false = true) → ∀ i, i < l0.length → (listed.getD i false = true ↔ i < specs.length) := by
  intro listed a W m hall i hi
  constructor
  ·intro hl
   rcases Nat.lt_or_ge i specs.length with h | h
   ·exact h
   ·rw [m.late i h] at hl; cases hl
  ·exact hall i
 intro fuel
 induction fuel with
 | zero =>
  intro listed a W hl m
  have hnone : ∀ i, i < l0.length → listed.getD i true = true := by
   intro i hi
   have h0 : ((List.range l0.length).filter fun i => !listed.getD i true) = [] := List.eq_nil_of_length_eq_zero (by unfold left at hl; omega)
   have := List.filter_eq_nil_iff.1 h0 i (List.mem_range.2 hi)
   simpa using this
  have hall : ∀ j, j < specs.length → listed.getD j false = true := by
   intro j hj
   have h1 := hnone j (by have := ok.len; omega)
   rcases listed_cases (listed := listed) (i := j) (by rw [m.size]; have := ok.len; omega) with h2 | h2
   ·exact h2
   ·rw [h2] at h1; cases h1
  have hn : specs.length = l0.length := by
   rcases Nat.lt_or_ge specs.length l0.length with h1 | h1
   ·have h2 := hnone specs.length h1
    have h3 := m.late specs.length (nR _)
    rcases listed_cases (listed := listed) (i := specs.length) (by rw [m.size]; exact h1) with h4 | h4
    ·rw [h4] at h3; cases h3
    ·rw [h4] at h2; cases h2
   ·have := ok.len; omega
  exact tail_forced ok.tail 0 specs.length listed a W 0 (nR _) hn (nR _) m.size m.closed (hlst _ _ _ m hall) ok.edge (fin _ _ _ m hall)
 | succ fuel ih =>
  intro listed a W hl m
  by_cases hall : ∀ j, j < specs.length → listed.getD j false = true
  ·refine tail_forced ok.tail (l0.length - specs.length) specs.length listed a W (fuel + 1) (nR _) (by have := ok.len; omega) ?_ m.size m.closed (hlst _ _ _ m hall) ok.edge (fin _ _ _ m hall)
   have := left_ge (l := l0) (listed := listed) (n := specs.length) fun i h1 h2 => by
    have := m.late i h1
    have hlt : i < listed.size := by rw [m.size]; exact h2
    simpa [hlt] using this
   omega
  ·refine ⟨fun h0 => ?_, fun i hi => ?_⟩
   ·refine absurd (fun j => ?_) hall
    induction j using Nat.strongRecOn with
    | _ j ihj =>
     intro hj
     have hjl : j < l0.length := by have := ok.len; omega
     have hoj : l0[j]? = some l0[j] := List.getElem?_eq_getElem hjl
     rcases listed_cases (listed := listed) (i := j) (by rw [m.size]; exact hjl) with h1 | h1
     ·exact h1
     ·have hm : j ∈ Region.ready .any l0.toArray listed := mem_ready.2 ⟨h1, l0[j], by simp [hjl], fun e he hb => by
       have := ok.edge j _ hoj e he hb
       exact ihj e.on this (by omega)⟩
      rw [h0] at hm
      cases hm
   ·obtain ⟨hun, o, ho', hedge⟩ := mem_ready.1 hi
    have hil : i < l0.length := by have := lt_of_unlisted hun; rw [m.size] at this; exact this
    have hn : i < specs.length := by
     rcases Nat.lt_or_ge i specs.length with h1 | h1
     ·exact h1
     ·exact absurd (fun j hj => listed_anc m.closed 16 o j hedge (ok.tail i o h1 (by simpa using ho') j (by omega))) hall
    exact wpOp_mono (fun a' W' m' => ih _ a' W' (by have := left_set hil hun; omega) m') (m.step ok hrf htr hst h hn hi)
theorem region_free {id : Nat} {l : List Oper} {a : Act} {w : World} (R : World → World → Prop) (specs : List FSpec) (hm : P.follows .mixedOrders = true) (hok : okFree specs.length a.tmps.size l = true)
  (hrf : ∀ a, R a a) (htr : ∀ a b c, R a b → R b c → R a c) (hdr : ∀ a, R a a.drew) (hst : ∀ s ∈ specs, ∀ W W' v, R W W' → s.ok W v → s.ok W' v)
  (h : freeSteps P l R w Q 0 specs l a []) : (Code.region id l.toArray true).wp P Q a w := by
 refine wp_region_any hm ?_
 have hsz : l.toArray.size = l.length := by simp
 have hget : ∀ i : Nat, (Array.replicate l.toArray.size false).getD i false = false := by
  intro i
  rw [Array.getD_eq_getD_getElem?, Array.getElem?_replicate]
  split <;> rfl
 refine free_any (okFree_spec hok) hrf htr hst h _ _ _ _ ?_ ⟨by simp, hdr w, rfl, rfl, ?_, ?_, ?_, ?_⟩
 ·unfold left
  refine nT (List.length_filter_le _ _) ?_
  simp
 ·intro i o hi
  rw [hget] at hi; cases hi
 ·intro t _; rfl
 ·intro j o d s hj
  rw [hget] at hj; cases hj
 ·intro j _
  exact hget j
end
def Stable (R : World → World → Prop) (s : FSpec) : Prop := ∀ W W' v, R W W' → s.ok W v → s.ok W' v
def StableAll (R : World → World → Prop) : List FSpec → Prop
 | [] => True
 | s :: ss => Stable R s ∧ StableAll R ss
theorem stableAll_mem {R : World → World → Prop} : ∀ {ss : List FSpec}, StableAll R ss → ∀ s ∈ ss, ∀ W W' v, R W W' → s.ok W v → s.ok W' v
 | [], _, s, hs => by cases hs
 | s :: ss, h, s', hs => by
  rcases List.mem_cons.1 hs with rfl | hs
  ·exact h.1
  ·exact stableAll_mem h.2 s' hs
theorem stable_val {R : World → World → Prop} (c : Value) : Stable R (.val c) := fun _ _ _ _ h => h
theorem stable_vals {R : World → World → Prop} {ss : List FSpec} (c : Value) (h : StableAll R ss) : StableAll R (.val c :: ss) := ⟨stable_val c, h⟩
end Go.Proofs.YtjelnmokcpoofaaGreatDoor
namespace Go.Proofs.YtjelnmokcpoofaaGreatDoor
set_option maxRecDepth 100000
open Go Go.RowKit Go.Proofs
def Ext (w w' : World) : Prop := Below w.heap.size w w'
theorem Ext.refl (w : World) : Ext w w := Below.refl _ _
theorem xR (w : World) : Ext w w := Ext.refl w
theorem Ext.trans {a b c : World} (h : Ext a b) (k : Ext b c) : Ext a c := Below.trans h (Below.mono k h.size)
theorem Ext.size {a b : World} (h : Ext a b) : a.heap.size ≤ b.heap.size := Below.size h
theorem Ext.al {w w' : World} (h : Ext w w') (o : Obj) : Ext w (w'.alloc o) := Below.alloc h h.size o
theorem Ext.dr {w w' : World} (h : Ext w w') : Ext w w'.drew := Below.drew h
theorem Ext.drN {w w' : World} (h : Ext w w') (n : Nat) : Ext w (w'.drewN n) := ⟨h.os, h.tape, h.output, h.size, h.block⟩
theorem Ext.st {w w' : World} (h : Ext w w') {p : Addr} (hp : w.heap.size ≤ p.block) (u : Value) : Ext w (w'.setCell p u) := Below.setCell h hp u
theorem Ext.gr {a w w' : World} {row : Option Nat} (h : Ext a w) (hg : w.grownBy w' row) (hr : ∀ k, row = some k → a.heap.size ≤ k) : Ext a w' := Below.grown h hg h.size hr
theorem Ext.cell {w w' : World} (h : Ext w w') {p : Addr} {v : Value} (hv : w.cell? p = some v) : w'.cell? p = some v := by
 have hlt : p.block < w.heap.size := by
  unfold World.cell? at hv
  split at hv
  ·rename_i he
   exact (Array.getElem?_eq_some_iff.1 he).1
  ·cases hv
 rw [Below.cell h hlt]
 exact hv
theorem Ext.row {w w' : World} (h : Ext w w') {g : Nat} (hg : w.heap.size ≤ g) (cs : Array Value) : Ext w (w'.setRow g cs) := below_setRow h hg cs
theorem Ext.new {w w2 : World} {o : Obj} (h : Ext (w.alloc o) w2) : w2.heap[w.heap.size]? = some o := by
 rw [Below.block h w.heap.size (by simp)]
 exact heap_alloc_new w o
theorem Ext.blk {w w2 : World} (h : Ext w w2) {g : Nat} {o : Obj} (hg : w.heap[g]? = some o) : w2.heap[g]? = some o := by
 rw [Below.block h g (Array.getElem?_eq_some_iff.1 hg).1]
 exact hg
theorem heap_at (w : World) (o : Obj) (n : Nat) (h : n = w.heap.size) : (w.alloc o).heap[n]? = some o := by
 subst h
 exact heap_alloc_new w o
theorem Row.ext {w w' : World} {a : Option Addr} {xs : List Value} (h : Row w a xs) (e : Ext w w') : Row w' a xs := by
 obtain ⟨b, off, h1, h2⟩ := h
 exact ⟨b, off, h1, fun j hj => e.cell (h2 j hj)⟩
theorem Row.take {w : World} {a : Option Addr} {xs : List Value} (h : Row w a xs) (n : Nat) : Row w a (xs.take n) := by
 obtain ⟨b, off, h1, h2⟩ := h
 refine ⟨b, off, fun hne => h1 (fun h0 => hne (by rw [h0]; simp)), fun j hj => ?_⟩
 have hj' : j < n ∧ j < xs.length := by simpa [List.length_take, Nat.lt_min] using hj
 rw [h2 j hj'.2]
 simp [List.getD_eq_getElem?_getD, hj'.1]
theorem row_nil (w : World) : Row w none [] := ⟨0, 0, fun h => absurd rfl h, fun j hj => by simp at hj⟩
def MagR (w : World) (s : Value) (l : List Nat) : Prop := ∃ a c, s = .slice a l.length c ∧ l.length ≤ c ∧ Row w a (limV l)
def MagO (w : World) (base : Nat) (s : Value) (l : List Nat) : Prop := w.ownsRow base 140 1 s l.length (limV l)
theorem MagR.ext {w w' : World} {s : Value} {l : List Nat} (h : MagR w s l) (e : Ext w w') : MagR w' s l := by
 obtain ⟨a, c, h1, h0, h2⟩ := h
 exact ⟨a, c, h1, h0, h2.ext e⟩
theorem ownsRow_ext {w w' : World} {base E sz n : Nat} {v : Value} {xs : List Value} (h : w.ownsRow base E sz v n xs) (e : Ext w w') : w'.ownsRow base E sz v n xs := by
 obtain ⟨h1, h2⟩ := h
 refine ⟨h1, ?_⟩
 rcases h2 with h2 | ⟨g, cap, cur, a1, a2, a3, a4⟩
 ·exact .inl h2
 ·refine .inr ⟨g, cap, cur, a1, a2, ?_, a4⟩
  rw [Below.block e g (Array.getElem?_eq_some_iff.1 a3).1]
  exact a3
theorem ownsRow_mono {w : World} {base base' E sz n : Nat} {v : Value} {xs : List Value} (h : w.ownsRow base E sz v n xs) (hb : base' ≤ base) : w.ownsRow base' E sz v n xs := by
 obtain ⟨h1, h2⟩ := h
 refine ⟨h1, ?_⟩
 rcases h2 with h2 | ⟨g, cap, cur, a1, a2, a3⟩
 ·exact .inl h2
 ·exact .inr ⟨g, cap, cur, a1, by omega, a3⟩
theorem ownsRow_row {w : World} {base E sz n g : Nat} {v : Value} {xs : List Value} (h : w.ownsRow base E sz v n xs) (hg : g < base) (cs : Array Value) : (w.setRow g cs).ownsRow base E sz v n xs := by
 obtain ⟨h1, h2⟩ := h
 refine ⟨h1, ?_⟩
 rcases h2 with h2 | ⟨k, cap, cur, a1, a2, a3, a4⟩
 ·exact .inl h2
 ·refine .inr ⟨k, cap, cur, a1, a2, ?_, a4⟩
  rw [setRow_other _ _ _ _ (by omega)]
  exact a3
theorem row_of_owns {w : World} {base E n : Nat} {v : Value} {xs : List Value} (h : w.ownsRow base E 1 v n xs) : ∃ a c, v = .slice a n c ∧ n ≤ c ∧ Row w a xs := by
 obtain ⟨h1, h2⟩ := h
 rcases h2 with ⟨rfl, rfl⟩ | ⟨g, cap, cur, rfl, a2, a3, a4, a5, a6, a7⟩
 ·have : xs = [] := List.eq_nil_of_length_eq_zero (by simpa using h1)
  subst this
  exact ⟨none, 0, rfl, nR _, row_nil w⟩
 ·refine ⟨_, _, rfl, a4, g, 0, fun _ => rfl, fun j hj => ?_⟩
  have hj2 : j < cur.size := by omega
  have e : xs.getD j undef = cur[j] := by
   subst a7
   simp [List.getD_eq_getElem?_getD, show j < n by omega, hj2]
  rw [e]
  simp [World.cell?, a3, hj2]
theorem MagO.r {w : World} {base : Nat} {s : Value} {l : List Nat} (h : MagO w base s l) : MagR w s l := row_of_owns h
theorem MagO.ext {w w' : World} {base : Nat} {s : Value} {l : List Nat} (h : MagO w base s l) (e : Ext w w') : MagO w' base s l := ownsRow_ext h e
theorem MagO.mono {w : World} {base base' : Nat} {s : Value} {l : List Nat} (h : MagO w base s l) (hb : base' ≤ base) : MagO w base' s l := ownsRow_mono h hb
theorem magO_nil (w : World) (base : Nat) : MagO w base (.slice none 0 0) [] := World.ownsRow_nil _ _ _ _
theorem ownsRow_take {w : World} {base E n : Nat} {a : Option Addr} {c : Nat} {xs : List Value} (h : w.ownsRow base E 1 (.slice a n c) n xs) {m : Nat} (hm : m ≤ n) : w.ownsRow base E 1 (.slice a m c) m (xs.take m) := by
 obtain ⟨h1, h2⟩ := h
 refine ⟨by rw [List.length_take]; omega, ?_⟩
 rcases h2 with ⟨h2, h3⟩ | ⟨g, cap, cur, a1, a2, a3, a4, a5, a6, a7⟩
 ·cases h2
  exact .inl ⟨by rw [show m = 0 by omega], by omega⟩
 ·simp only [Value.slice.injEq] at a1
  obtain ⟨rfl, _, rfl⟩ := a1
  refine .inr ⟨g, c, cur, rfl, a2, a3, by omega, a5, a6, ?_⟩
  rw [← a7, List.take_take]
  congr 1
  omega
def IntR (w : World) (v : Value) (x : Int) : Prop := ∃ s, v = .agg #[.bool (decide (x < 0)), s] ∧ MagR w s (lim x.natAbs)
def IntO (w : World) (base : Nat) (v : Value) (x : Int) : Prop := ∃ s, v = .agg #[.bool (decide (x < 0)), s] ∧ MagO w base s (lim x.natAbs)
theorem IntO.r {w : World} {base : Nat} {v : Value} {x : Int} (h : IntO w base v x) : IntR w v x := by
 obtain ⟨s, h1, h2⟩ := h
 exact ⟨s, h1, h2.r⟩
theorem IntR.ext {w w' : World} {v : Value} {x : Int} (h : IntR w v x) (e : Ext w w') : IntR w' v x := by
 obtain ⟨s, h1, h2⟩ := h
 exact ⟨s, h1, h2.ext e⟩
theorem IntO.ext {w w' : World} {base : Nat} {v : Value} {x : Int} (h : IntO w base v x) (e : Ext w w') : IntO w' base v x := by
 obtain ⟨s, h1, h2⟩ := h
 exact ⟨s, h1, h2.ext e⟩
theorem IntO.row {w : World} {base g : Nat} {v : Value} {x : Int} (h : IntO w base v x) (hg : g < base) (cs : Array Value) : IntO (w.setRow g cs) base v x := by
 obtain ⟨s, h1, h2⟩ := h
 exact ⟨s, h1, ownsRow_row h2 hg cs⟩
theorem IntO.mono {w : World} {base base' : Nat} {v : Value} {x : Int} (h : IntO w base v x) (hb : base' ≤ base) : IntO w base' v x := by
 obtain ⟨s, h1, h2⟩ := h
 exact ⟨s, h1, h2.mono hb⟩
theorem MagR.shape {w : World} {s : Value} {l : List Nat} (h : MagR w s l) : ∃ a n c, s = .slice a n c := by
 obtain ⟨a, c, h1, _⟩ := h
 exact ⟨a, _, c, h1⟩
theorem IntR.shape {w : World} {v : Value} {x : Int} (h : IntR w v x) : ∃ b a n c, v = .agg #[.bool b, .slice a n c] := by
 obtain ⟨s, h1, h2⟩ := h
 obtain ⟨a, n, c, rfl⟩ := h2.shape
 exact ⟨_, a, n, c, h1⟩
def RawO (w : World) (base : Nat) (v : Value) (n : Nat) : Prop := ∃ r, MagO w base v r ∧ OkL r ∧ r.length ≤ 4294967296 ∧ val r = n
theorem RawO.ext {w w' : World} {base : Nat} {v : Value} {n : Nat} (h : RawO w base v n) (e : Ext w w') : RawO w' base v n := by
 obtain ⟨r, h1, h2⟩ := h
 exact ⟨r, h1.ext e, h2⟩
theorem RawO.mono {w : World} {base base' : Nat} {v : Value} {n : Nat} (h : RawO w base v n) (hb : base' ≤ base) : RawO w base' v n := by
 obtain ⟨r, h1, h2⟩ := h
 exact ⟨r, h1.mono hb, h2⟩
theorem mixed : Tryz.prog.follows .mixedOrders = true := by kernel_rfl
theorem region_ext {id : Nat} {l : List Oper} {a : Act} {w : World} {Q : Exit → Act → World → Prop} (specs : List FSpec) (hok : okFree specs.length a.tmps.size l = true) (hst : StableAll Ext specs)
  (h : freeSteps Tryz.prog l Ext w Q 0 specs l a []) : (Code.region id l.toArray true).wp Tryz.prog Q a w :=
 region_free Ext specs mixed hok Ext.refl (fun _ _ _ => Ext.trans) (fun w => (Ext.refl w).dr) (stableAll_mem hst) h
theorem st_intO {ss : List FSpec} (b : Nat) (x : Int) (h : StableAll Ext ss) : StableAll Ext (.pred (fun W v => IntO W b v x) :: ss) := ⟨fun _ _ _ e h => IntO.ext h e, h⟩
theorem st_rawO {ss : List FSpec} (b n : Nat) (h : StableAll Ext ss) : StableAll Ext (.pred (fun W v => RawO W b v n) :: ss) := ⟨fun _ _ _ e h => RawO.ext h e, h⟩
theorem limV_ne {l : List Nat} {k : Nat} (h : k < l.length) : limV l ≠ [] := by
 intro h0
 have := congrArg List.length h0
 simp [limV] at this
 subst this
 simp at h
set_option maxHeartbeats 800000 in
theorem trim_c (a : Option Addr) (l : List Nat) (c : Nat) (w : World) (hok : OkL l) (hlen : l.length ≤ 4294967296) (hcap : l.length ≤ c) (h : Row w a (limV l)) :
  Calls Tryz.prog 91 #[.slice a l.length c] w fun e w' => e = .returned (.slice a (lim (val l)).length c) ∧ w = w' := by
 obtain ⟨b, off, ha, hc⟩ := h
 replace hc := mK hc
 replace ha := mK ha
 go_enter Tryz.func91, Tryz.ntmps91
 go_wp2_with fail
 go_loop [0] (fun s => ∃ m : Nat, m ≤ l.length ∧ s = .slice a m c ∧ val (l.take m) = val l) (fun s => match s with | .slice _ n _ => n | _ => 0)
 case atStart => exact ⟨l.length, nR _, rfl, by rw [List.take_length]⟩
 case round =>
  obtain ⟨m, hm, rfl, hv⟩ := hrel
  replace hv := mK hv
  by_cases h0 : m = 0
  ·subst h0
   have e0 : lim (val l) = [] := by rw [← hv.out, List.take_zero]; exact lim_zero
   replace e0 := mK (congrArg List.length e0)
   go_wp2_with fail
   go_ret
   exact ⟨by rw [e0.out]; rfl, rfl⟩
  ·obtain ⟨k, rfl⟩ : ∃ k, m = k + 1 := ⟨m - 1, by omega⟩
   have hcell := hc.out k (by rw [limV_length]; omega)
   rw [limV_getD _ _ (by omega)] at hcell
   have ha2 := ha.out (limV_ne (show k < l.length by omega))
   by_cases hz : l.getD k 0 = 0
   ·have HV : Hid (val (l.take k) = val l) := by
     have := val_take_succ l k (by omega)
     rw [hz] at this
     exact mK (by rw [← hv.out, this]; simp)
    rw [hz] at hcell
    replace hz := mK hz
    rw [ha2]
    replace ha2 := mK ha2
    go_wp2_with fail
    go_round
    case rel => exact ⟨k, by omega, rfl, HV.out⟩
    case measure => simp
   ·have e0 : lim (val l) = l.take (k + 1) := by
     rw [← hv.out]
     refine lim_val (okL_take hok _) (.inr ?_)
     rw [List.take_succ_eq_append_getElem (by omega), List.getLastD_eq_getLast?, List.getLast?_append]
     simpa [show k < l.length by omega] using hz
    have hn : (lim (val l)).length = k + 1 := by rw [e0, List.length_take]; omega
    have hz2 : (((l.getD k 0 : Nat) : Int) == 0) = false := by simpa using hz
    replace e0 := mK e0
    replace hn := mK hn
    replace hz := mK hz
    generalize l.getD k 0 = y at hcell hz2
    rw [ha2]
    replace ha2 := mK ha2
    go_wp2_with fail
    go_ret
    exact ⟨by rw [hn.out, ha2.out]; rfl, rfl⟩
theorem Row.lim {w : World} {a : Option Addr} {l : List Nat} (h : Row w a (limV l)) (hok : OkL l) : Row w a (limV (lim (val l))) := by
 rw [← take_lim hok, limV_take]
 exact h.take _
theorem MagO.lim {w : World} {base : Nat} {a : Option Addr} {c : Nat} {l : List Nat} (h : MagO w base (.slice a l.length c) l) (hok : OkL l) : MagO w base (.slice a (lim (val l)).length c) (lim (val l)) := by
 unfold MagO at *
 have := ownsRow_take h (lim_length_val hok)
 rwa [← limV_take, take_lim hok] at this
def sg (neg : Bool) (n : Nat) : Int := if neg then -(n : Int) else n
theorem sg_natAbs (neg : Bool) (n : Nat) : (sg neg n).natAbs = n := by unfold sg; split <;> simp
theorem sg_neg (neg : Bool) (n : Nat) : decide (sg neg n < 0) = (neg && decide (n ≠ 0)) := by
 unfold sg
 cases neg
 ·simp
 ·rw [Bool.eq_iff_iff]
  simp
  omega
set_option maxHeartbeats 800000 in
theorem signed_c (neg : Bool) (base : Nat) (s : Value) (l : List Nat) (w : World) (hok : OkL l) (hlen : l.length ≤ 4294967296) (h : MagO w base s l) :
  Calls Tryz.prog 89 #[.bool neg, s] w fun e w' => ∃ v, e = .returned v ∧ IntO w' base v (sg neg (val l)) ∧ Ext w w' := by
 obtain ⟨a, c, rfl, hcap, hrow⟩ := row_of_owns h
 replace h := mK h
 replace hrow := mK hrow
 have HT := fun w' (e : Row w' a (limV l)) => trim_c a l c w' hok hlen hcap e
 by_cases h0 : val l = 0
 ·rw [h0, lim_zero] at HT
  have hr : ∀ w' : World, IntO w' base (.agg #[.bool false, .slice none 0 0]) (sg neg (val l)) := fun w' =>
   ⟨.slice none 0 0, by rw [sg_neg, h0]; simp, by rw [sg_natAbs, h0, lim_zero]; exact magO_nil _ _⟩
  replace HT := mK HT
  clear h0
  go_enter Tryz.func89, Tryz.ntmps89
  go_wp2_with fail
  refine (HT.out _ (hrow.out.ext ((xR _).al _))).mono ?_
  rintro e w' ⟨rfl, rfl⟩
  go_wp2_with fail
  exact bodyPost_ret (v := .agg #[.bool false, .slice none 0 0]) (by simp [results, Tryz.results89, go_sem]) rfl ⟨_, rfl, hr _, (xR _).al _⟩
 ·have hne : (((lim (val l)).length : Int) == 0) = false := by
   rw [lim_pos h0]
   simp
   omega
  have hr : ∀ w' : World, Ext w w' → IntO w' base (.agg #[.bool neg, .slice a (lim (val l)).length c]) (sg neg (val l)) := fun w' e =>
   ⟨.slice a (lim (val l)).length c, by rw [sg_neg]; simp [h0], by rw [sg_natAbs]; exact (h.out.lim hok).ext e⟩
  replace HT := mK HT
  clear h0
  go_enter Tryz.func89, Tryz.ntmps89
  go_wp2_with fail
  refine (HT.out _ (hrow.out.ext ((xR _).al _))).mono ?_
  rintro e w' ⟨rfl, rfl⟩
  go_wp2_with fail
  exact bodyPost_ret (v := .agg #[.bool neg, .slice a (lim (val l)).length c]) (by simp [results, Tryz.results89, go_sem]) rfl ⟨_, rfl, hr _ ((xR _).al _), (xR _).al _⟩
theorem u32_info : (Tryz.prog.info? 140).map (fun i => (i.zero, i.size, i.bytes)) = some (some (.int .u32 0), 1, 4) := by kernel_rfl
theorem u32_under : Tryz.prog.underlying 48 = some (.slice 140) := by kernel_rfl
theorem limV_one (l : List Nat) : ∀ u ∈ limV l, u.oneCell' = true := by
 intro u hu
 simp only [limV, List.mem_map] at hu
 obtain ⟨x, _, rfl⟩ := hu
 rfl
theorem row_cells {w : World} {b off : Nat} {xs : List Value} (h : ∀ j, j < xs.length → w.cell? ⟨b, off + j, none⟩ = some (xs.getD j undef)) :
  ∀ j u, xs[j]? = some u → w.cell? ((⟨b, off, none⟩ : Addr).add j) = some u := by
 intro j u hu
 have hj := (List.getElem?_eq_some_iff.1 hu).1
 have := h j hj
 have e : (⟨b, off, none⟩ : Addr).add j = ⟨b, off + j, none⟩ := by
  unfold Addr.add
  split
  ·rename_i h0; subst h0; rfl
  ·rfl
 rw [e, this]
 simp [List.getD_eq_getElem?_getD, hu]
set_option maxHeartbeats 800000 in
theorem clone_c (a : Option Addr) (l : List Nat) (c : Nat) (w : World) (hlen : l.length ≤ 4294967296) (h : Row w a (limV l)) :
  Calls Tryz.prog 90 #[.slice a l.length c] w fun e w' => ∃ v, e = .returned v ∧ MagO w' w.heap.size v l ∧ Ext w w' := by
 obtain ⟨b, off, ha, hc⟩ := h
 have hnil := fun w => Lib.run_eql_slice_nil (P := Tryz.prog) w 48 140 a l.length c 0 0 u32_under
 cases a with
 | none =>
  have hl : l = [] := by
   cases l with
   | nil => rfl
   | cons x l => exact absurd (ha (by simp [limV])) (by simp)
  subst hl
  clear ha hc hlen
  simp only [List.length_nil, Option.isNone_none] at hnil ⊢
  go_enter Tryz.func90, Tryz.ntmps90
  go_wp2_with fail
  go_ret
  exact ⟨_, rfl, magO_nil _ _, xR _⟩
 | some ad =>
  have hnews : ∀ j u, (limV l)[j]? = some u → w.cell? (ad.add j) = some u := by
   intro j u hu
   have hne : limV l ≠ [] := by
    intro h0
    rw [h0] at hu
    cases hu
   have := ha hne
   rw [Option.some.inj this]
   exact row_cells hc j u hu
  replace hnews := mK hnews
  clear ha hc
  obtain ⟨i0, hi, hz0, hz1, hz2⟩ := info_parts u32_info
  go_enter Tryz.func90, Tryz.ntmps90
  go_wp2_with (at_builtin; refine wpList_append_own _ rfl (.tmp 5) (.tmp 6) 48 rfl w.heap.size 140 i0 (.int .u32 0) 1 4 u32_under hi hz0 hz1 hz2 rfl (by decide) (.slice (some ⟨w.heap.size, 0, none⟩) 0 0) 0 [] rfl ?c0 ad l.length c (limV l) rfl ?c1 ?c2 ?c3 ?c4 ?c5 ?c6 ?_)
  case c0 => exact World.ownsRow_made _ _ _ (nR _) (by simp [maxLen]) (by simp)
  case c1 => simp [limV]
  case c2 => exact fun j u hu => ((xR w).al _).cell (hnews.out j u hu)
  case c3 => exact limV_one l
  case c4 => unfold maxLen; omega
  case c5 => omega
  case c6 => simp
  intro v' w1 hown hgrow _
  have hr : MagO w1 w.heap.size v' l := by
   simpa [MagO] using hown
  have he : Ext w w1 := ((xR w).al _).gr hgrow (fun k hk => by simp [Value.ownBlock] at hk; omega)
  clear hown hgrow
  go_wp2
  go_ret
  exact ⟨_, rfl, hr, he⟩
set_option maxHeartbeats 800000 in
theorem own_c (neg : Bool) (a : Option Addr) (l : List Nat) (c : Nat) (w : World) (hok : OkL l) (hlen : l.length ≤ 4294967296) (h : Row w a (limV l)) :
  Calls Tryz.prog 162 #[.bool neg, .slice a l.length c] w fun e w' => ∃ v, e = .returned v ∧ IntO w' w.heap.size v (sg neg (val l)) ∧ Ext w w' := by
 replace h := mK h
 go_enter Tryz.func162, Tryz.ntmps162
 go_wp2_with fail
 refine (clone_c a l c _ hlen (h.out.ext ((xR _).al _))).mono ?_
 rintro e w1 ⟨v1, rfl, hm, he⟩
 replace hm := mK hm
 replace he := mK he
 go_wp2_with fail
 refine (signed_c neg _ v1 l w1 hok hlen hm.out).mono ?_
 rintro e w2 ⟨v2, rfl, hi, he2⟩
 have hE : Ext w w2 := (((xR w).al _).trans he.out).trans he2
 have hB := Ext.new (he.out.trans he2)
 obtain ⟨nb, a2, n2, c2, rfl⟩ := hi.r.shape
 have hR : IntO (w2.setRow w.heap.size #[.bool nb, .slice a2 n2 c2]) w.heap.size (.agg #[.bool nb, .slice a2 n2 c2]) (sg neg (val l)) := (hi.row (by have := he.out.size; simp at this ⊢; try omega) _).mono (by have := he.out.size; simp at this ⊢; try omega)
 go_wp2_with (refine wpList_store_row rfl 50 (.tmp 4) (.tmp 8) rfl w.heap.size #[.bool nb, .slice a2 n2 c2] rfl rfl 50 _ hB (by kernel_rfl) rfl (by kernel_rfl) ?_)
 exact bodyPost_ret (results_cell_row rfl _ _ w.heap.size 50 #[.bool nb, .slice a2 n2 c2] (0, 0) _ rfl (setRow_heap _ _ _ _ _ _ hB) Tryz.underlying50 rfl (by kernel_rfl)) rfl ⟨_, rfl, hR, hE.row (nR _) _⟩
def SizeRes (r : Int) (m n : Nat) : Prop := (r < 0 ↔ m < n) ∧ (r = 0 ↔ m = n) ∧ -9223372036854775807 ≤ r ∧ r ≤ 9223372036854775807
theorem ne_cast {m n : Nat} (h : ¬ m = n) : ((m : Int) != (n : Int)) = true := by
 have : ¬ (m : Int) = n := by omega
 simpa using this
set_option maxHeartbeats 1600000 in
theorem size_c (a a' : Option Addr) (c c' : Nat) (m n : Nat) (w : World) (hl : (lim m).length ≤ 4294967296) (hl' : (lim n).length ≤ 4294967296)
  (h : Row w a (limV (lim m))) (h' : Row w a' (limV (lim n))) :
  Calls Tryz.prog 88 #[.slice a (lim m).length c, .slice a' (lim n).length c'] w fun e w' => ∃ r, e = .returned (.int .i64 r) ∧ SizeRes r m n ∧ Ext w w' := by
 obtain ⟨l, hlm⟩ : ∃ l, l = lim m := ⟨_, rfl⟩
 obtain ⟨l', hln⟩ : ∃ l', l' = lim n := ⟨_, rfl⟩
 have hok : OkL l := hlm ▸ lim_ok m
 have hok' : OkL l' := hln ▸ lim_ok n
 have hv : val l = m := by rw [hlm, val_lim]
 have hv' : val l' = n := by rw [hln, val_lim]
 rw [← hlm] at hl h ⊢
 rw [← hln] at hl' h' ⊢
 by_cases hlen : l.length = l'.length
 ·have hE : Hid (l.length = l'.length) := mK hlen
  obtain ⟨b, off, ha, hc⟩ := h
  obtain ⟨b', off', ha', hc'⟩ := h'
  replace ha := mK ha
  replace ha' := mK ha'
  replace hc := mK hc
  replace hc' := mK hc'
  replace hv := mK hv
  replace hv' := mK hv'
  rw [← hlen]
  clear hlm hln hl' hlen
  go_enter Tryz.func88, Tryz.ntmps88
  go_wp2_with fail
  go_loopw [5] (fun i wr => ∃ k : Nat, k ≤ l.length ∧ i = .int .i64 ((k : Int) - 1) ∧ l.drop k = l'.drop k ∧ Ext w wr) (fun i _ => (intOf i + 1).toNat)
  case atStart => exact ⟨l.length, nR _, rfl, by rw [List.drop_length, hE.out, List.drop_length], xR _⟩
  case round =>
   obtain ⟨k, hk, rfl, hd, he⟩ := hrel
   replace hd := mK hd
   replace he := mK he
   by_cases h0 : k = 0
   ·subst h0
    go_wp2_with fail
    go_ret
    have e : l = l' := by simpa using hd.out
    exact ⟨0, rfl, ⟨by rw [← hv.out, ← hv'.out, e]; omega, by rw [← hv.out, ← hv'.out, e]; simp, by omega, by omega⟩, he.out⟩
   ·obtain ⟨j, rfl⟩ : ∃ j, k = j + 1 := ⟨k - 1, by omega⟩
    have h1 := he.out.cell (hc.out j (by rw [limV_length]; omega))
    have h2 := he.out.cell (hc'.out j (by rw [limV_length]; have := hE.out; omega))
    rw [limV_getD _ _ (by omega)] at h1
    rw [limV_getD _ _ (by have := hE.out; omega)] at h2
    rw [ha.out (limV_ne (show j < l.length by omega)), ha'.out (limV_ne (show j < l'.length by have := hE.out; omega))]
    have hx1 : ((j + 1 : Nat) : Int) - 1 = (j : Int) := by omega
    rw [hx1]
    have d1 : l.drop j = l.getD j 0 :: l.drop (j + 1) := by
     rw [List.drop_eq_getElem_cons (show j < l.length by omega)]; simp [show j < l.length by omega]
    have d2 : l'.drop j = l'.getD j 0 :: l'.drop (j + 1) := by
     have := hE.out
     rw [List.drop_eq_getElem_cons (show j < l'.length by omega)]; simp [show j < l'.length by omega]
    by_cases hx : l.getD j 0 = l'.getD j 0
    ·have hdn : Hid (l.drop j = l'.drop j) := mK (by rw [d1, d2, hx, hd.out])
     rw [← hx] at h2
     generalize l.getD j 0 = y at h1 h2
     clear d1 d2 hx hx1
     go_wp2_with fail
     go_quiet (fail)
     go_wp2_with fail
     go_roundw
     case rel => exact ⟨j, by omega, by go_num, hdn.out, he.out.drN _⟩
     case measure => simp [intOf] <;> omega
    ·have hlt : (l.getD j 0 < l'.getD j 0 → val l < val l') ∧ (l'.getD j 0 < l.getD j 0 → val l' < val l) :=
      ⟨val_lt_of hok j (by omega) hE.out hd.out, val_lt_of hok' j (by have := hE.out; omega) hE.out.symm hd.out.symm⟩
     replace hlt := mK hlt
     clear d1 d2 hx1
     have hyb : (((l.getD j 0 : Nat) : Int) != ((l'.getD j 0 : Nat) : Int)) = true := ne_cast hx
     by_cases hy : l.getD j 0 < l'.getD j 0
     ·have hr := hlt.out.1 hy
      replace hr := mK hr
      have hy2 : (((l.getD j 0 : Nat) : Int)) < ((l'.getD j 0 : Nat) : Int) := by omega
      replace hx := mK hx
      replace hy := mK hy
      generalize l.getD j 0 = y at h1 hyb hy2
      generalize l'.getD j 0 = y' at h2 hyb hy2
      go_wp2_with fail
      go_quiet (fail)
      go_wp2_with fail
      go_quiet (fail)
      go_wp2_with fail
      go_ret
      exact ⟨-1, rfl, ⟨by rw [← hv.out, ← hv'.out]; simp [hr.out], by rw [← hv.out, ← hv'.out]; have := hr.out; omega, by omega, by omega⟩, (he.out.drN _).drN _⟩
     ·have hr := hlt.out.2 (by omega)
      replace hr := mK hr
      have hy2 : ¬ ((((l.getD j 0 : Nat) : Int)) < ((l'.getD j 0 : Nat) : Int)) := by omega
      replace hx := mK hx
      replace hy := mK hy
      generalize l.getD j 0 = y at h1 hyb hy2
      generalize l'.getD j 0 = y' at h2 hyb hy2
      go_wp2_with fail
      go_quiet (fail)
      go_wp2_with fail
      go_quiet (fail)
      go_wp2_with fail
      go_ret
      exact ⟨1, rfl, ⟨by rw [← hv.out, ← hv'.out]; have := hr.out; omega, by rw [← hv.out, ← hv'.out]; have := hr.out; omega, by omega, by omega⟩, (he.out.drN _).drN _⟩
 ·have hr : SizeRes ((l.length : Int) - l'.length) m n := by
   subst hlm
   subst hln
   refine ⟨⟨fun h => lt_of_lim_length (by omega), fun h => ?_⟩, ⟨fun h => absurd (by omega) hlen, fun h => ?_⟩, by omega, by omega⟩
   ·have := lim_mono (Nat.le_of_lt h); omega
   ·subst h; omega
  have hne : (((l.length : Nat) : Int) != ((l'.length : Nat) : Int)) = true := ne_cast hlen
  replace hr := mK hr
  clear hlm hln hok hok' hv hv' h h' hlen
  go_enter Tryz.func88, Tryz.ntmps88
  go_wp2_with fail
  go_ret
  exact ⟨_, rfl, hr.out, xR _⟩
set_option maxHeartbeats 800000 in
theorem add32_c (x y z : Nat) (w : World) (hx : x < 4294967296) (hy : y < 4294967296) (hz : z ≤ 1) :
  Calls Tryz.prog 203 #[.int .u32 x, .int .u32 y, .int .u32 z] w fun e w' => e = .returned (.tuple #[.int .u32 ((x + y + z) % 4294967296 : Nat), .int .u32 ((x + y + z) / 4294967296 : Nat)]) ∧ w = w' := by
 go_enter Tryz.func203, Tryz.ntmps203
 go_wp2_with fail
 go_ret2
 refine ⟨?_, rfl⟩
 have e1 : (((x + y + z) % 4294967296 : Nat) : Int) = ((x : Int) + y + z) % 4294967296 := by omega
 have e2 : (((x + y + z) / 4294967296 : Nat) : Int) = ((x : Int) + y + z) / 4294967296 := by omega
 exact ret2_eq e1.symm e2.symm
theorem wraps_u32 (n : Int) (h₀ : 0 ≤ n) (h₁ : n < 2 ^ 32) : IntKind.u32.wrap n = n := by rw [IntKind.wrap_u32]; omega
theorem and32 (a b : Nat) (ha : a < 4294967296) (hb : b < 4294967296) : bits .and .u32 a b = ((a &&& b : Nat) : Int) := (bits_nat .u32 32 (by decide) wraps_u32 a b ha hb).1
theorem or32 (a b : Nat) (ha : a < 4294967296) (hb : b < 4294967296) : bits .or .u32 a b = ((a ||| b : Nat) : Int) := (bits_nat .u32 32 (by decide) wraps_u32 a b ha hb).2
theorem xor32 (a b : Nat) (ha : a < 4294967296) (hb : b < 4294967296) : bits .xor .u32 a b = ((a ^^^ b : Nat) : Int) := by
 have e : IntKind.u32.bits = 32 := rfl
 have hlt : a ^^^ b < 2 ^ 32 := Nat.xor_lt_two_pow (n := 32) ha hb
 simp only [bits, BitVec.ofInt_natCast, BitVec.toNat_xor, BitVec.toNat_ofNat, e]
 rw [Nat.mod_eq_of_lt (show a < 2 ^ 32 from ha), Nat.mod_eq_of_lt (show b < 2 ^ 32 from hb)]
 exact wraps_u32 _ (Int.natCast_nonneg _) (by exact_mod_cast hlt)
theorem bit31 (a : Nat) (ha : a < 4294967296) : a.testBit 31 = decide (2147483648 ≤ a) := by
 rw [Nat.testBit_eq_decide_div_mod_eq]
 rw [decide_eq_decide]
 omega
theorem top32 (a : Nat) (ha : a < 4294967296) : a / 2147483648 = if a.testBit 31 = true then 1 else 0 := by
 rw [bit31 a ha]
 by_cases h : 2147483648 ≤ a <;> simp [h] <;> omega
theorem borrow32 (x y z : Nat) (hx : x < 4294967296) (hy : y < 4294967296) (hz : z ≤ 1) :
  (((4294967295 ^^^ x) &&& y) ||| ((4294967295 ^^^ (x ^^^ y)) &&& ((x + 4294967296 - y - z) % 4294967296))) / 2147483648 = 1 - (x + 4294967296 - y - z) / 4294967296 := by
 obtain ⟨d, hd⟩ : ∃ d, d = (x + 4294967296 - y - z) % 4294967296 := ⟨_, rfl⟩
 rw [← hd]
 have hdl : d < 4294967296 := by omega
 have a1 : (4294967295 ^^^ x) &&& y < 2 ^ 32 := Nat.and_lt_two_pow _ hy
 have a2 : (4294967295 ^^^ (x ^^^ y)) &&& d < 2 ^ 32 := Nat.and_lt_two_pow _ hdl
 rw [top32 _ (Nat.or_lt_two_pow a1 a2)]
 simp only [Nat.testBit_or, Nat.testBit_and, Nat.testBit_xor, bit31 x hx, bit31 y hy, bit31 d hdl, show Nat.testBit 4294967295 31 = true from by decide]
 by_cases h1 : 2147483648 ≤ x <;> by_cases h2 : 2147483648 ≤ y <;> by_cases h3 : 2147483648 ≤ d <;> simp [h1, h2, h3] <;> omega
set_option maxHeartbeats 800000 in
theorem sub32_c (x y z : Nat) (w : World) (hx : x < 4294967296) (hy : y < 4294967296) (hz : z ≤ 1) :
  Calls Tryz.prog 204 #[.int .u32 x, .int .u32 y, .int .u32 z] w fun e w' => e = .returned (.tuple #[.int .u32 ((x + 4294967296 - y - z) % 4294967296 : Nat), .int .u32 (1 - (x + 4294967296 - y - z) / 4294967296 : Nat)]) ∧ w = w' := by
 go_enter Tryz.func204, Tryz.ntmps204
 go_wp2_with fail
 go_ret2
 refine ⟨?_, rfl⟩
 have m : IntKind.u32.max = ((4294967295 : Nat) : Int) := rfl
 have d : ((x : Int) - y - z) % 4294967296 = (((x + 4294967296 - y - z) % 4294967296 : Nat) : Int) := by omega
 have dl : (x + 4294967296 - y - z) % 4294967296 < 4294967296 := Nat.mod_lt _ (by omega)
 have l1 : 4294967295 ^^^ x < 2 ^ 32 := Nat.xor_lt_two_pow (n := 32) (by omega) hx
 have l2 : x ^^^ y < 2 ^ 32 := Nat.xor_lt_two_pow (n := 32) hx hy
 have l3 : 4294967295 ^^^ (x ^^^ y) < 2 ^ 32 := Nat.xor_lt_two_pow (n := 32) (by omega) l2
 have b : bits .or .u32 (bits .and .u32 (bits .xor .u32 IntKind.u32.max x) y) (bits .and .u32 (bits .xor .u32 IntKind.u32.max (bits .xor .u32 x y)) (((x : Int) - y - z) % 4294967296)) / 2147483648 =
   ((1 - (x + 4294967296 - y - z) / 4294967296 : Nat) : Int) := by
  rw [m, d, xor32 _ _ (by omega) hx, and32 _ _ l1 hy, xor32 _ _ hx hy, xor32 _ _ (by omega) l2, and32 _ _ l3 dl, or32 _ _ (Nat.and_lt_two_pow (n := 32) _ hy) (Nat.and_lt_two_pow (n := 32) _ dl), ← borrow32 x y z hx hy hz]
  simp
 exact ret2_eq d b
theorem limV_set (q : List Nat) (k v : Nat) : (limV q).set k (.int .u32 (v : Int)) = limV (q.set k v) := by simp [limV, List.map_set]
theorem limV_arr_set (q : List Nat) (k v : Nat) : (limV q).toArray.setIfInBounds k (.int .u32 (v : Int)) = (limV (q.set k v)).toArray := by
 rw [← limV_set]
 simp
theorem okL_set {q : List Nat} (h : OkL q) {k v : Nat} (hv : v < 4294967296) : OkL (q.set k v) := by
 intro x hx
 rcases List.mem_or_eq_of_mem_set hx with h1 | h1
 ·exact h x h1
 ·omega
theorem take_set (q : List Nat) (k v : Nat) (hk : k < q.length) : (q.set k v).take (k + 1) = q.take k ++ [v] := by
 rw [List.take_succ_eq_append_getElem (by simpa using hk)]
 simp [List.take_set_of_le]
theorem val_take_set (q : List Nat) (k v : Nat) (hk : k < q.length) : val ((q.set k v).take (k + 1)) = val (q.take k) + 4294967296 ^ k * v := by
 rw [take_set q k v hk, val_append]
 simp [val, Nat.min_eq_left (Nat.le_of_lt hk)]
theorem make32 (n : Nat) (w : World) (h : n ≤ 70368744177664) : (Instr.makeSlice 48 (.int .i64 n) (.int .i64 n)).run Tryz.prog w = .ok (.slice (some ⟨w.heap.size, 0, none⟩) n n) (w.alloc (.cells (limV (List.replicate n 0)).toArray 140)) := by
 obtain ⟨i0, hi, hz0, hz1, hz2⟩ := info_parts u32_info
 have := run_make w 48 140 i0 _ u32_under hi hz0 .i64 .i64 n n (by omega) (by omega) (by rw [hz2]; omega) (by omega)
 rw [this, hz1]
 have e : madeCells #[Value.int IntKind.u32 0] (n * 1) = (limV (List.replicate n 0)).toArray := by
  simp [madeCells, limV, Array.ext_iff, Nat.mod_one]
 simp only [Int.toNat_natCast, Value.cells, e]
theorem magO_block {w : World} {q : List Nat} (hl : q.length ≤ 4294967296) : MagO (w.alloc (.cells (limV q).toArray 140)) w.heap.size (.slice (some ⟨w.heap.size, 0, none⟩) q.length q.length) q := by
 refine ⟨by simp [limV], .inr ⟨w.heap.size, q.length, _, rfl, nR _, heap_alloc_new w _, nR _, by unfold maxLen; omega, by simp [limV], ?_⟩⟩
 rw [Nat.mul_one, List.take_of_length_le (by simp [limV])]
def Adding (l m q : List Nat) (k c : Nat) : Prop := q.length = l.length + 1 ∧ OkL q ∧ c ≤ 1 ∧ val (q.take k) + 4294967296 ^ k * c = val (l.take k) + val (m.take k)
theorem val_take_ge (m : List Nat) (k : Nat) : val (m.take (k + 1)) = val (m.take k) + 4294967296 ^ k * (if k < m.length then m.getD k 0 else 0) := by
 by_cases h : k < m.length
 ·rw [if_pos h]; exact val_take_succ m k h
 ·rw [if_neg h, List.take_of_length_le (by omega), List.take_of_length_le (by omega)]; simp
theorem adding_step {l m q : List Nat} {k c y : Nat} (h : Adding l m q k c) (hl : OkL l) (hm : OkL m) (hk : k < l.length) (hy : y = if k < m.length then m.getD k 0 else 0) :
  Adding l m (q.set k ((l.getD k 0 + y + c) % 4294967296)) (k + 1) ((l.getD k 0 + y + c) / 4294967296) := by
 obtain ⟨h1, h2, h3, h4⟩ := h
 have hx := okL_get hl k
 have hy2 : y < 4294967296 := by
  rw [hy]; split
  ·exact okL_get hm k
  ·omega
 refine ⟨by simpa using h1, okL_set h2 (Nat.mod_lt _ (by omega)), by omega, ?_⟩
 rw [val_take_set _ _ _ (by omega), val_take_succ l k hk, val_take_ge m k, ← hy, Nat.pow_succ]
 have e : l.getD k 0 + y + c = (l.getD k 0 + y + c) % 4294967296 + 4294967296 * ((l.getD k 0 + y + c) / 4294967296) := (Nat.mod_add_div _ _).symm
 generalize (l.getD k 0 + y + c) % 4294967296 = r at *
 generalize (l.getD k 0 + y + c) / 4294967296 = s at *
 generalize 4294967296 ^ k = p at *
 have e2 : p * (l.getD k 0 + y + c) = p * (r + 4294967296 * s) := by rw [e]
 simp only [Nat.mul_add] at e2
 rw [← Nat.mul_assoc] at e2
 omega
theorem adding_start (l m : List Nat) : Adding l m (List.replicate (l.length + 1) 0) 0 0 :=
 ⟨by simp, fun x hx => by rw [List.eq_of_mem_replicate hx]; omega, by omega, by simp [val]⟩
theorem adding_end {l m q : List Nat} {c : Nat} (h : Adding l m q l.length c) (hm : m.length ≤ l.length) : (q.set l.length c).length = l.length + 1 ∧ OkL (q.set l.length c) ∧ val (q.set l.length c) = val l + val m := by
 obtain ⟨h1, h2, h3, h4⟩ := h
 refine ⟨by simpa using h1, okL_set h2 (by omega), ?_⟩
 have := val_take_set q l.length c (by omega)
 rw [List.take_of_length_le (by simp; omega)] at this
 rw [this, h4, List.take_length, List.take_of_length_le hm]
theorem arr_get {q : List Nat} {k : Nat} (h : k < q.length) : (limV q).toArray[k]? = some (.int .u32 ((q.getD k 0 : Nat) : Int)) := by simp [limV, h]
theorem row_at {w : World} {b off : Nat} {l : List Nat} (hc : ∀ j, j < (limV l).length → w.cell? ⟨b, off + j, none⟩ = some ((limV l).getD j undef)) {k : Nat} (hk : k < l.length) :
  w.cell? ⟨b, off + k, none⟩ = some (.int .u32 ((l.getD k 0 : Nat) : Int)) := by
 rw [hc k (by rw [limV_length]; exact hk), limV_getD _ _ hk]
set_option maxHeartbeats 3200000 in
theorem add_c (a a' : Option Addr) (c c' : Nat) (l m : List Nat) (w : World) (hl : l.length ≤ 2147483648) (hm : m.length ≤ 2147483648) (okl : OkL l) (okm : OkL m)
  (h : Row w a (limV l)) (h' : Row w a' (limV m)) :
  Calls Tryz.prog 160 #[.slice a l.length c, .slice a' m.length c'] w fun e w' => ∃ v r, e = .returned v ∧ MagO w' w.heap.size v r ∧ OkL r ∧ r.length = max l.length m.length + 1 ∧ val r = val l + val m ∧ Ext w w' := by
 obtain ⟨b, off, ha, hc⟩ := h
 obtain ⟨b', off', ha', hc'⟩ := h'
 replace ha := mK ha
 replace hc := mK hc
 replace ha' := mK ha'
 replace hc' := mK hc'
 by_cases hlt : l.length < m.length
 ·have hlt2 : ((l.length : Int) < m.length) := by omega
  have hmk := fun w => make32 (m.length + 1) w (by omega)
  rw [show (((m.length + 1 : Nat)) : Int) = (m.length : Int) + 1 by omega] at hmk
  have hst := mK (adding_start m l)
  go_enter Tryz.func160, Tryz.ntmps160
  go_wp2_with fail
  go_loopw [22, 6] (fun i s wr => ∃ k cr q, k ≤ m.length ∧ i = .int .i64 (k : Nat) ∧ s = .int .u32 (cr : Nat) ∧ wr = w.alloc (.cells (limV q).toArray 140) ∧ Adding m l q k cr) (fun i _ _ => m.length - (intOf i).toNat)
  case atStart => exact ⟨0, 0, _, Nat.zero_le _, rfl, rfl, rfl, hst.out⟩
  case round =>
   obtain ⟨k, cr, q, hk, rfl, rfl, rfl, had⟩ := hrel
   have hq1 := had.1
   have hcr := had.2.2.1
   by_cases hkl : k < m.length
   ·have h1 := fun o => ((xR w).al o).cell (row_at hc'.out hkl)
    have hA := ha'.out (limV_ne hkl)
    have hxl := okL_get okm k
    have hold := arr_get (q := q) (k := k) (by omega)
    by_cases hkm : k < l.length
    ·have h2 := fun o => ((xR w).al o).cell (row_at hc.out hkm)
     have hA' := ha.out (limV_ne hkm)
     have hyl := okL_get okl k
     have hnext := mK (adding_step (y := l.getD k 0) had okm okl hkl (by rw [if_pos hkm]))
     rw [hA, hA']
     replace hA := mK hA
     replace hA' := mK hA'
     replace had := mK had
     have hset := limV_arr_set q k ((m.getD k 0 + l.getD k 0 + cr) % 4294967296)
     replace hset := mK hset
     generalize m.getD k 0 = x at *
     generalize l.getD k 0 = y at *
     generalize hArr : (limV q).toArray = arr at *
     replace hArr := mK hArr
     go_wp2_with (go_at_call 203; refine (add32_c x y cr _ (by assumption) (by assumption) (by assumption)).mono ?_; rintro e w' ⟨rfl, rfl⟩)
     go_roundw
     case rel => exact ⟨k + 1, _, _, by omega, by go_num, rfl, by rw [← hset.out]; simp, hnext.out⟩
     case measure => simp [intOf] <;> omega
    ·have hnext := mK (adding_step (y := 0) had okm okl hkl (by rw [if_neg hkm]))
     have hyl : 0 < 4294967296 := by omega
     rw [hA]
     replace hA := mK hA
     replace had := mK had
     have hset := limV_arr_set q k ((m.getD k 0 + 0 + cr) % 4294967296)
     replace hset := mK hset
     generalize m.getD k 0 = x at *
     obtain ⟨y, hy⟩ : ∃ y, y = 0 := ⟨0, rfl⟩
     generalize hArr : (limV q).toArray = arr at *
     replace hArr := mK hArr
     clear hy
     go_wp2_with (go_at_call 203; refine (add32_c x 0 cr _ (by assumption) (by assumption) (by assumption)).mono ?_; rintro e w' ⟨rfl, rfl⟩)
     go_roundw
     case rel => exact ⟨k + 1, _, _, by omega, by go_num, rfl, by rw [← hset.out]; simp, hnext.out⟩
     case measure => simp [intOf] <;> omega
   ·obtain rfl : k = m.length := by omega
    have hend := mK (adding_end had (by omega))
    have hold := arr_get (q := q) (k := m.length) (by omega)
    have hset := mK (limV_arr_set q m.length cr)
    replace had := mK had
    generalize hArr : (limV q).toArray = arr at *
    replace hArr := mK hArr
    go_wp2_with fail
    go_ret
    have hb := magO_block (w := w) (q := q.set m.length cr) (by rw [hend.out.1]; omega)
    rw [hend.out.1, ← hset.out] at hb
    exact ⟨_, _, rfl, hb, hend.out.2.1, by rw [hend.out.1]; omega, by rw [hend.out.2.2]; try omega, (xR w).al _⟩
 ·have hlt2 : ¬ ((l.length : Int) < m.length) := by omega
  have hmk := fun w => make32 (l.length + 1) w (by omega)
  rw [show (((l.length + 1 : Nat)) : Int) = (l.length : Int) + 1 by omega] at hmk
  have hst := mK (adding_start l m)
  go_enter Tryz.func160, Tryz.ntmps160
  go_wp2_with fail
  go_loopw [22, 6] (fun i s wr => ∃ k cr q, k ≤ l.length ∧ i = .int .i64 (k : Nat) ∧ s = .int .u32 (cr : Nat) ∧ wr = w.alloc (.cells (limV q).toArray 140) ∧ Adding l m q k cr) (fun i _ _ => l.length - (intOf i).toNat)
  case atStart => exact ⟨0, 0, _, Nat.zero_le _, rfl, rfl, rfl, hst.out⟩
  case round =>
   obtain ⟨k, cr, q, hk, rfl, rfl, rfl, had⟩ := hrel
   have hq1 := had.1
   have hcr := had.2.2.1
   by_cases hkl : k < l.length
   ·have h1 := fun o => ((xR w).al o).cell (row_at hc.out hkl)
    have hA := ha.out (limV_ne hkl)
    have hxl := okL_get okl k
    have hold := arr_get (q := q) (k := k) (by omega)
    by_cases hkm : k < m.length
    ·have h2 := fun o => ((xR w).al o).cell (row_at hc'.out hkm)
     have hA' := ha'.out (limV_ne hkm)
     have hyl := okL_get okm k
     have hnext := mK (adding_step (y := m.getD k 0) had okl okm hkl (by rw [if_pos hkm]))
     rw [hA, hA']
     replace hA := mK hA
     replace hA' := mK hA'
     replace had := mK had
     have hset := limV_arr_set q k ((l.getD k 0 + m.getD k 0 + cr) % 4294967296)
     replace hset := mK hset
     generalize l.getD k 0 = x at *
     generalize m.getD k 0 = y at *
     generalize hArr : (limV q).toArray = arr at *
     replace hArr := mK hArr
     go_wp2_with (go_at_call 203; refine (add32_c x y cr _ (by assumption) (by assumption) (by assumption)).mono ?_; rintro e w' ⟨rfl, rfl⟩)
     go_roundw
     case rel => exact ⟨k + 1, _, _, by omega, by go_num, rfl, by rw [← hset.out]; simp, hnext.out⟩
     case measure => simp [intOf] <;> omega
    ·have hnext := mK (adding_step (y := 0) had okl okm hkl (by rw [if_neg hkm]))
     have hyl : 0 < 4294967296 := by omega
     rw [hA]
     replace hA := mK hA
     replace had := mK had
     have hset := limV_arr_set q k ((l.getD k 0 + 0 + cr) % 4294967296)
     replace hset := mK hset
     generalize l.getD k 0 = x at *
     obtain ⟨y, hy⟩ : ∃ y, y = 0 := ⟨0, rfl⟩
     generalize hArr : (limV q).toArray = arr at *
     replace hArr := mK hArr
     clear hy
     go_wp2_with (go_at_call 203; refine (add32_c x 0 cr _ (by assumption) (by assumption) (by assumption)).mono ?_; rintro e w' ⟨rfl, rfl⟩)
     go_roundw
     case rel => exact ⟨k + 1, _, _, by omega, by go_num, rfl, by rw [← hset.out]; simp, hnext.out⟩
     case measure => simp [intOf] <;> omega
   ·obtain rfl : k = l.length := by omega
    have hend := mK (adding_end had (by omega))
    have hold := arr_get (q := q) (k := l.length) (by omega)
    have hset := mK (limV_arr_set q l.length cr)
    replace had := mK had
    generalize hArr : (limV q).toArray = arr at *
    replace hArr := mK hArr
    go_wp2_with fail
    go_ret
    have hb := magO_block (w := w) (q := q.set l.length cr) (by rw [hend.out.1]; omega)
    rw [hend.out.1, ← hset.out] at hb
    exact ⟨_, _, rfl, hb, hend.out.2.1, by rw [hend.out.1]; omega, by rw [hend.out.2.2]; try omega, (xR w).al _⟩
def Subbing (l m q : List Nat) (k c : Nat) : Prop := q.length = l.length ∧ OkL q ∧ c ≤ 1 ∧ val (q.take k) + val (m.take k) = val (l.take k) + 4294967296 ^ k * c
theorem subbing_start (l m : List Nat) : Subbing l m (List.replicate l.length 0) 0 0 :=
 ⟨by simp, fun x hx => by rw [List.eq_of_mem_replicate hx]; omega, by omega, by simp [val]⟩
theorem subbing_step {l m q : List Nat} {k c y : Nat} (h : Subbing l m q k c) (hl : OkL l) (hm : OkL m) (hk : k < l.length) (hy : y = if k < m.length then m.getD k 0 else 0) :
  Subbing l m (q.set k ((l.getD k 0 + 4294967296 - y - c) % 4294967296)) (k + 1) (1 - (l.getD k 0 + 4294967296 - y - c) / 4294967296) := by
 obtain ⟨h1, h2, h3, h4⟩ := h
 have hx := okL_get hl k
 have hy2 : y < 4294967296 := by
  rw [hy]; split
  ·exact okL_get hm k
  ·omega
 refine ⟨by simpa using h1, okL_set h2 (Nat.mod_lt _ (by omega)), by omega, ?_⟩
 rw [val_take_set _ _ _ (by omega), val_take_succ l k hk, val_take_ge m k, ← hy, Nat.pow_succ]
 have e : (l.getD k 0 + 4294967296 - y - c) % 4294967296 + y + c = l.getD k 0 + 4294967296 * (1 - (l.getD k 0 + 4294967296 - y - c) / 4294967296) := by omega
 generalize (l.getD k 0 + 4294967296 - y - c) % 4294967296 = r at *
 generalize 1 - (l.getD k 0 + 4294967296 - y - c) / 4294967296 = s at *
 generalize 4294967296 ^ k = p at *
 have e2 : p * (r + y + c) = p * (l.getD k 0 + 4294967296 * s) := by rw [e]
 simp only [Nat.mul_add] at e2
 rw [← Nat.mul_assoc] at e2
 omega
theorem subbing_end {l m q : List Nat} {c : Nat} (h : Subbing l m q l.length c) (hm : m.length ≤ l.length) (hv : val m ≤ val l) : val q = val l - val m := by
 obtain ⟨h1, h2, h3, h4⟩ := h
 rw [List.take_length, List.take_of_length_le (by omega), List.take_of_length_le hm] at h4
 have hq := val_lt h2
 rw [h1] at hq
 have : c = 0 ∨ c = 1 := by omega
 rcases this with rfl | rfl <;> simp at h4 <;> omega
set_option maxHeartbeats 3200000 in
theorem sub_c (a a' : Option Addr) (c c' : Nat) (l m : List Nat) (w : World) (hl : l.length ≤ 2147483648) (hml : m.length ≤ l.length) (okl : OkL l) (okm : OkL m) (hv : val m ≤ val l)
  (h : Row w a (limV l)) (h' : Row w a' (limV m)) :
  Calls Tryz.prog 161 #[.slice a l.length c, .slice a' m.length c'] w fun e w' => ∃ v, e = .returned v ∧ MagO w' w.heap.size v (lim (val l - val m)) ∧ Ext w w' := by
 obtain ⟨b, off, ha, hc⟩ := h
 obtain ⟨b', off', ha', hc'⟩ := h'
 replace ha := mK ha
 replace hc := mK hc
 replace ha' := mK ha'
 replace hc' := mK hc'
 replace hv := mK hv
 have hmk := fun w => make32 l.length w (by omega)
 have hst := mK (subbing_start l m)
 go_enter Tryz.func161, Tryz.ntmps161
 go_wp2_with fail
 go_loopw [14, 6] (fun i s wr => ∃ k cr q, k ≤ l.length ∧ i = .int .i64 (k : Nat) ∧ s = .int .u32 (cr : Nat) ∧ wr = w.alloc (.cells (limV q).toArray 140) ∧ Subbing l m q k cr) (fun i _ _ => l.length - (intOf i).toNat)
 case atStart => exact ⟨0, 0, _, Nat.zero_le _, rfl, rfl, rfl, hst.out⟩
 case round =>
  obtain ⟨k, cr, q, hk, rfl, rfl, rfl, had⟩ := hrel
  have hq1 := had.1
  have hcr := had.2.2.1
  by_cases hkl : k < l.length
  ·have h1 := fun o => ((xR w).al o).cell (row_at hc.out hkl)
   have hA := ha.out (limV_ne hkl)
   have hxl := okL_get okl k
   have hold := arr_get (q := q) (k := k) (by omega)
   by_cases hkm : k < m.length
   ·have h2 := fun o => ((xR w).al o).cell (row_at hc'.out hkm)
    have hA' := ha'.out (limV_ne hkm)
    have hyl := okL_get okm k
    have hnext := mK (subbing_step (y := m.getD k 0) had okl okm hkl (by rw [if_pos hkm]))
    rw [hA, hA']
    replace hA := mK hA
    replace hA' := mK hA'
    replace had := mK had
    have hset := limV_arr_set q k ((l.getD k 0 + 4294967296 - m.getD k 0 - cr) % 4294967296)
    replace hset := mK hset
    generalize l.getD k 0 = x at *
    generalize m.getD k 0 = y at *
    generalize hArr : (limV q).toArray = arr at *
    replace hArr := mK hArr
    obtain ⟨r, hr⟩ : ∃ r, r = (x + 4294967296 - y - cr) % 4294967296 := ⟨_, rfl⟩
    obtain ⟨s, hs⟩ : ∃ s, s = 1 - (x + 4294967296 - y - cr) / 4294967296 := ⟨_, rfl⟩
    have hcall := fun w => sub32_c x y cr w hxl hyl hcr
    rw [← hr, ← hs] at hcall
    rw [← hr] at hset
    rw [← hr, ← hs] at hnext
    have hs1 : s ≤ 1 := by omega
    clear hr hs
    replace hcall := mK hcall
    go_wp2_with (go_at_call 204; refine (hcall.out _).mono ?_; rintro e w' ⟨rfl, rfl⟩)
    go_roundw
    case rel => exact ⟨k + 1, _, _, by omega, by go_num, rfl, by rw [← hset.out], hnext.out⟩
    case measure => simp [intOf] <;> omega
   ·have hnext := mK (subbing_step (y := 0) had okl okm hkl (by rw [if_neg hkm]))
    rw [hA]
    replace hA := mK hA
    replace had := mK had
    have hset := limV_arr_set q k ((l.getD k 0 + 4294967296 - 0 - cr) % 4294967296)
    replace hset := mK hset
    generalize l.getD k 0 = x at *
    generalize hArr : (limV q).toArray = arr at *
    replace hArr := mK hArr
    obtain ⟨r, hr⟩ : ∃ r, r = (x + 4294967296 - 0 - cr) % 4294967296 := ⟨_, rfl⟩
    obtain ⟨s, hs⟩ : ∃ s, s = 1 - (x + 4294967296 - 0 - cr) / 4294967296 := ⟨_, rfl⟩
    have hcall := fun w => sub32_c x 0 cr w hxl (by omega) hcr
    rw [← hr, ← hs] at hcall
    rw [← hr] at hset
    rw [← hr, ← hs] at hnext
    have hs1 : s ≤ 1 := by omega
    clear hr hs
    replace hcall := mK hcall
    go_wp2_with (go_at_call 204; refine (hcall.out _).mono ?_; rintro e w' ⟨rfl, rfl⟩)
    go_roundw
    case rel => exact ⟨k + 1, _, _, by omega, by go_num, rfl, by rw [← hset.out], hnext.out⟩
    case measure => simp [intOf] <;> omega
  ·obtain rfl : k = l.length := by omega
   have hend := subbing_end had hml hv.out
   have hokq := had.2.1
   have hb := magO_block (w := w) (q := q) (by rw [hq1]; omega)
   have hrow := hb
   rw [hq1] at hb hrow
   obtain ⟨aa, cc, he, hle, hrow⟩ := row_of_owns hrow
   simp only [Value.slice.injEq] at he
   obtain ⟨rfl, -, rfl⟩ := he
   have hb2 := hb
   rw [← hq1] at hb2
   have hres := (show MagO _ _ (.slice _ q.length l.length) q from by rw [hq1]; exact hb).lim hokq
   rw [hend] at hres
   have hcall := fun w' (e : Row w' (some ⟨w.heap.size, 0, none⟩) (limV q)) => trim_c (some ⟨w.heap.size, 0, none⟩) q l.length w' hokq (by omega) (by omega) e
   rw [hend, hq1] at hcall
   replace hcall := mK hcall
   replace hres := mK hres
   replace hb := mK hb
   replace hb2 := mK hb2
   replace hrow := mK hrow
   replace had := mK had
   replace hend := mK hend
   replace hq1 := mK hq1
   generalize hArr : (limV q).toArray = arr at *
   replace hArr := mK hArr
   go_wp2_with fail
   refine (hcall.out _ hrow.out).mono ?_
   rintro e w' ⟨rfl, rfl⟩
   go_wp2_with fail
   go_ret
   exact ⟨_, rfl, hres.out, (xR w).al _⟩
end Go.Proofs.YtjelnmokcpoofaaGreatDoor
