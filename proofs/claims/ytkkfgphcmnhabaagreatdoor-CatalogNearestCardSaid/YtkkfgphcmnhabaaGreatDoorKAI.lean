/-
  Regions that draw their order, in which one operation that changes no memory may come late, behind operations of the tail: no program. Printed by tools/gen_late.py out of XPre. The catalogue's New, gone, Put, Drop, Get. The catalogue's Put, where it lets a part in. Parts that are handed back: a list of one's own, each part in rows of its own. Names in their order. What goes into a catalogue, in plain words: of a list of parts, those that go in, in their order; the catalogue has just these. period: Power: printed by tools/gen_pow.py. law01: IntSize, FracSize, Lowest, FracCost. law01: MatrixCost, RayCost, Beyond, Whole, Trips: printed by tools/gen_cost.py. PeriodPell, walked: printed by tools/gen_pell.py. What comes in, opened: a fraction, a matrix, a ray as data. What comes in, opened: an element, a part, an op as data: printed by tools/gen_opens.py. What comes in: a list of parts as data. Loads out of the middle of a row whose cells are known one by one: no program.
-/
import Derived.Test.YtkkfgphcmnhabaaGreatDoorKAH
import Derived.Test.YtkkfgphcmnhabaaGreatDoorKAA
import Derived.Test.YtkkfgphcmnhabaaGreatDoorKAG
import Derived.Test.YtkkfgphcmnhabaaGreatDoorKAD
import Derived.Maps.AppendAt
import Derived.Sort.KeysCollected
import Derived.ProofKit
import Derived.OpenShut
import Derived.Lib.SmallJoins
import Derived.Carry
import Derived.Deep.Slices
import Derived.SizedLaws
import Derived.Deep.MidRow
namespace Go.Proofs.YtkkfgphcmnhabaaGreatDoor.Late
set_option maxRecDepth 100000
open Go Go.RowKit Go.Proofs.YtkkfgphcmnhabaaGreatDoor
def okOper (pre : List Nat) (l : List Oper) (n i : Nat) (o : Oper) : Bool :=
  (o.after.toList.all fun e => !Region.binds .any e || decide (e.on < i)) &&
  (if i < n then
    o.dst.isSome && (List.range l.length).all fun j => match l[j]? with
      | some oj => (match oj.dst with
        | some d => (!(o.looksAt l.toArray).contains d || (decide (j < i) && hasEdge o j)) && (j == i || o.dst != some d)
        | none => true)
      | none => true
  else (List.range i).all fun j => pre.contains j || ancB l 16 o j)
def okFree (pre : List Nat) (n size : Nat) (l : List Oper) : Bool :=
  Region.noSelect l.toArray && decide (n ≤ l.length) && (l.all fun o => match o.dst with | some d => decide (d < size) | none => true) &&
    (List.range l.length).all fun i => match l[i]? with | some o => okOper pre l n i o | none => true
section
variable {pre : List Nat} {P : Program} {l0 : List Oper} {R : World → World → Prop} {w0 : World} {Q : Exit → Act → World → Prop}
theorem tail_forced {n : Nat} (htail : ∀ i o, n ≤ i → l0[i]? = some o → ∀ j, j < i → j ∈ pre ∨ ancB l0 16 o j = true) :
    ∀ (k m : Nat) (listed : Array Bool) (a : Act) (W : World) (fuel : Nat), n ≤ m → m + k = l0.length → k ≤ fuel → listed.size = l0.length → (∀ j ∈ pre, listed.getD j false = true) →
      (∀ i o, listed.getD i false = true → l0[i]? = some o → ∀ e ∈ o.after, Region.binds .any e = true → listed.getD e.on false = true) →
      (∀ i, i < l0.length → (listed.getD i false = true ↔ i < m)) →
      (∀ i o, l0[i]? = some o → ∀ e ∈ o.after, Region.binds .any e = true → e.on < i) →
      wpList P l0.toArray Q (l0.drop m) a W → wpAny P .any l0.toArray Q fuel listed a W := by
  intro k
  induction k with
  | zero =>
    intro m listed a W fuel _ hmk _ hsz _ _ hlst _ h
    have hr : Region.ready .any l0.toArray listed = [] := by
      cases hr : Region.ready .any l0.toArray listed with
      | nil => rfl
      | cons i r =>
        have := (mem_ready (md := .any) (ops := l0.toArray) (listed := listed) (j := i)).1 (by rw [hr]; simp)
        have hlt := lt_of_unlisted this.1
        have h2 := (hlst i (by omega)).2 (by omega)
        have h3 := this.1
        simp [hlt] at h2 h3
        rw [h2] at h3
        cases h3
    rw [List.drop_eq_nil_of_le (show l0.length ≤ m by omega)] at h
    exact wpAny_done hr h fuel
  | succ k ih =>
    intro m listed a W fuel hnm hmk hfuel hsz hpre hcl hlst hed h
    obtain ⟨fuel, rfl⟩ : ∃ f, fuel = f + 1 := ⟨fuel - 1, by omega⟩
    have hml : m < l0.length := by omega
    have ho : l0[m]? = some l0[m] := List.getElem?_eq_getElem hml
    have hun : listed.getD m true = false := by
      rcases listed_cases (listed := listed) (i := m) (by omega) with h1 | h1
      · have := (hlst m hml).1 h1; omega
      · exact h1
    have hready : m ∈ Region.ready .any l0.toArray listed := by
      rw [mem_ready]
      exact ⟨hun, _, by simp [hml], fun e he hb => (hlst e.on (by have := hed m _ ho e he hb; omega)).2 (hed m _ ho e he hb)⟩
    refine ⟨fun h0 => absurd (h0 ▸ hready) (by simp), fun i hi => ?_⟩
    have him : i = m := by
      obtain ⟨h1, o, ho', hall⟩ := mem_ready.1 hi
      have hlt := lt_of_unlisted h1
      rcases Nat.lt_trichotomy i m with hlt' | he | hgt
      · have h2 := (hlst i (by omega)).2 hlt'
        simp [hlt] at h1 h2
        rw [h2] at h1; cases h1
      · exact he
      · have ho'' : l0[i]? = some o := by simpa using ho'
        have := (htail i o (by omega) ho'' m hgt).elim (fun hp => hpre m hp) (listed_anc hcl 16 o m hall)
        have := (hlst m hml).1 this
        omega
    subst him
    unfold wpOp
    simp only [List.getElem?_toArray, ho]
    rw [List.drop_eq_getElem_cons hml] at h
    simp only [wpList] at h
    have next : ∀ a' W', wpList P l0.toArray Q (l0.drop (i + 1)) a' W' → wpAny P .any l0.toArray Q fuel (listed.setIfInBounds i true) a' W' := by
      intro a' W' h'
      refine ih (i + 1) _ a' W' fuel (by omega) (by omega) (by omega) (by simpa using hsz) (fun j hj => getD_set_true (hpre j hj)) ?_ ?_ hed h'
      · intro j o hj hoj e he hb
        by_cases hij : i = j
        · subst hij
          rw [ho] at hoj
          cases hoj
          exact getD_set_true ((hlst e.on (by have := hed i _ ho e he hb; omega)).2 (hed i _ ho e he hb))
        · rw [getD_set_ne false hij] at hj
          exact getD_set_true (hcl j o hj hoj e he hb)
      · intro j hj
        by_cases hij : i = j
        · subst hij
          simp [show i < listed.size by omega]
        · rw [getD_set_ne false hij, hlst j hj]
          omega
    split
    · rename_i hw
      rw [if_pos hw] at h
      exact h.imp (Oper.wp_mono next) id
    · rename_i hw
      rw [if_neg hw] at h
      exact next _ _ h
structure OkSpec (pre : List Nat) (l : List Oper) (n size : Nat) : Prop where
  sel : ∀ (j : Nat) (o : Oper) cs b, l[j]? = some o → o.op ≠ .select cs b
  len : n ≤ l.length
  dst : ∀ (j : Nat) (o : Oper) (d : Tmp), l[j]? = some o → o.dst = some d → d < size
  edge : ∀ (i : Nat) (o : Oper), l[i]? = some o → ∀ e ∈ o.after, Region.binds .any e = true → e.on < i
  has : ∀ (i : Nat) (o : Oper), i < n → l[i]? = some o → o.dst.isSome = true
  look : ∀ (i : Nat) (o : Oper) (j : Nat) (oj : Oper) (d : Tmp), i < n → l[i]? = some o → l[j]? = some oj → oj.dst = some d → d ∈ o.looksAt l.toArray → j < i ∧ hasEdge o j = true
  one : ∀ (i : Nat) (o : Oper) (j : Nat) (oj : Oper) (d : Tmp), i < n → l[i]? = some o → l[j]? = some oj → oj.dst = some d → i ≠ j → o.dst ≠ some d
  tail : ∀ (i : Nat) (o : Oper), n ≤ i → l[i]? = some o → ∀ j, j < i → j ∈ pre ∨ ancB l 16 o j = true
theorem okFree_spec {n size : Nat} {l : List Oper} (h : okFree pre n size l = true) : OkSpec pre l n size := by
  simp only [okFree, Bool.and_eq_true, decide_eq_true_eq, List.all_eq_true, List.mem_range] at h
  obtain ⟨⟨⟨h1, h2⟩, h3⟩, h4⟩ := h
  have at_ : ∀ i o, l[i]? = some o → okOper pre l n i o = true := by
    intro i o ho
    have := h4 i (List.getElem?_eq_some_iff.1 ho).1
    rwa [ho] at this
  refine ⟨fun j o cs b hj => Region.noSelect_spec h1 j o cs b (by simpa using hj), h2, ?_, ?_, ?_, ?_, ?_, ?_⟩
  · intro j o d ho hd
    have := h3 o (List.mem_of_getElem? ho)
    simpa [hd] using this
  · intro i o ho e he hb
    have := at_ i o ho
    simp only [okOper, Bool.and_eq_true, List.all_eq_true, Bool.or_eq_true, Bool.not_eq_true', decide_eq_true_eq] at this
    have := this.1 e (Array.mem_toList_iff.2 he)
    rcases this with h | h
    · rw [h] at hb; cases hb
    · exact h
  · intro i o hi ho
    have := at_ i o ho
    simp only [okOper, Bool.and_eq_true, if_pos hi] at this
    exact this.2.1
  · intro i o j oj d hi ho hj hd hm
    have := at_ i o ho
    simp only [okOper, Bool.and_eq_true, if_pos hi, List.all_eq_true, List.mem_range] at this
    have := this.2.2 j (List.getElem?_eq_some_iff.1 hj).1
    simp only [hj, hd, Bool.and_eq_true, Bool.or_eq_true, Bool.not_eq_true', decide_eq_true_eq] at this
    rcases this.1 with h | h
    · have := List.contains_iff_mem.2 hm
      rw [h] at this; cases this
    · exact h
  · intro i o j oj d hi ho hj hd hne
    have := at_ i o ho
    simp only [okOper, Bool.and_eq_true, if_pos hi, List.all_eq_true, List.mem_range] at this
    have := this.2.2 j (List.getElem?_eq_some_iff.1 hj).1
    simp only [hj, hd, Bool.and_eq_true, Bool.or_eq_true, beq_iff_eq, bne_iff_ne, ne_eq] at this
    rcases this.2 with h | h
    · exact absurd h.symm hne
    · exact h
  · intro i o hi ho j hj
    have := at_ i o ho
    simp only [okOper, Bool.and_eq_true, if_neg (Nat.not_lt.2 hi), List.all_eq_true, List.mem_range] at this
    have := this.2 j hj
    rw [Bool.or_eq_true] at this
    exact this.imp (fun h => List.contains_iff_mem.1 h) id
/-- Where a region stands, whatever came first. -/
structure Midway (pre : List Nat) (l : List Oper) (specs : List FSpec) (R : World → World → Prop) (w0 : World) (a0 : Act) (listed : Array Bool) (a : Act) (W : World) : Prop where
  size : listed.size = l.length
  rel : R w0 W
  defers : a.defers = a0.defers
  tsize : a.tmps.size = a0.tmps.size
  closed : ∀ (i : Nat) (o : Oper), listed.getD i false = true → l[i]? = some o → ∀ e ∈ o.after, Region.binds .any e = true → listed.getD e.on false = true
  other : ∀ (t : Tmp), (∀ (j : Nat) (o : Oper), l[j]? = some o → listed.getD j false = true → o.dst ≠ some t) → a.tmps[t]? = a0.tmps[t]?
  fact : ∀ (j : Nat) (o : Oper) (d : Tmp) (s : FSpec), listed.getD j false = true → l[j]? = some o → o.dst = some d → specs[j]? = some s → s.ok W (a.tmps.getD d undef)
  late : ∀ (j : Nat), specs.length ≤ j → listed.getD j false = false
theorem Midway.value {specs : List FSpec} {a0 a : Act} {listed : Array Bool} {W : World} (m : Midway pre l0 specs R w0 a0 listed a W) {j : Nat} {o : Oper} {d : Tmp} (hj : listed.getD j false = true) (ho : l0[j]? = some o) (hd : o.dst = some d) :
    a.tmps.getD d undef = valuesOf l0 specs a j := by
  have hlt : j < specs.length := by
    rcases Nat.lt_or_ge j specs.length with h | h
    · exact h
    · rw [m.late j h] at hj; cases hj
  have hs : specs[j]? = some specs[j] := List.getElem?_eq_getElem hlt
  have := m.fact j o d _ hj ho hd hs
  generalize specs[j] = s at this hs
  cases s with
  | val c => simp only [FSpec.ok] at this; simp [valuesOf, hs, this]
  | pred Φ => simp [valuesOf, hs, ho, hd]
theorem Midway.tmp {specs : List FSpec} {a0 a : Act} {listed : Array Bool} {W : World} (m : Midway pre l0 specs R w0 a0 listed a W) (ok : OkSpec pre l0 specs.length a0.tmps.size) (k t : Nat) (hk : k ≤ specs.length)
    (h : ∀ (j : Nat) (oj : Oper), l0[j]? = some oj → oj.dst = some t → j < k ∧ listed.getD j false = true) : (frameAt a0 l0 (valuesOf l0 specs a) k).tmps[t]? = a.tmps[t]? := by
  by_cases hex : ∃ (j : Nat) (oj : Oper), l0[j]? = some oj ∧ oj.dst = some t
  · obtain ⟨j, oj, hj, hd⟩ := hex
    obtain ⟨hjk, hlj⟩ := h j oj hj hd
    have ht := ok.dst j oj t hj hd
    rw [frameAt_own a0 l0 _ k t j oj hjk hj hd ht fun i o' hne ho' hd' => by
      rcases Nat.lt_or_ge i specs.length with hi | hi
      · exact ok.one i o' j oj t hi ho' hj hd hne hd'
      · exact ok.one j oj i o' t (by omega) hj ho' hd' (Ne.symm hne) hd]
    rw [← m.value hlj hj hd]
    have : t < a.tmps.size := by rw [m.tsize]; exact ht
    simp [this]
  · rw [frameAt_other a0 l0 _ k t fun j o _ ho hd => hex ⟨j, o, ho, hd⟩, m.other t fun j o ho _ hd => hex ⟨j, o, ho, hd⟩]
theorem Midway.next {specs : List FSpec} {a0 a : Act} {listed : Array Bool} {W : World} (m : Midway pre l0 specs R w0 a0 listed a W) (ok : OkSpec pre l0 specs.length a0.tmps.size) (htr : ∀ a b c, R a b → R b c → R a c)
    (hst : ∀ s ∈ specs, ∀ W W' v, R W W' → s.ok W v → s.ok W' v) {i : Nat} {o : Oper} (hi : i < specs.length) (ho : l0[i]? = some o) (hedge : ∀ e ∈ o.after, Region.binds .any e = true → listed.getD e.on false = true) :
    ∀ W' v, R W W' → specs[i].ok W' v → Midway pre l0 specs R w0 a0 (listed.setIfInBounds i true) (a.put o.dst v) W' := by
  have hil : i < l0.length := (List.getElem?_eq_some_iff.1 ho).1
  have hlt : i < listed.size := by rw [m.size]; exact hil
  have hs : specs[i]? = some specs[i] := List.getElem?_eq_getElem hi
  intro W' v hR hv
  refine ⟨by simpa using m.size, htr _ _ _ m.rel hR, ?_, ?_, ?_, ?_, ?_, ?_⟩
  · rw [← m.defers]; cases o.dst <;> rfl
  · rw [← m.tsize]; cases hd : o.dst <;> simp [Act.put]
  · intro j oj hj hoj e he hb
    by_cases hij : i = j
    · subst hij
      rw [ho] at hoj; cases hoj
      exact getD_set_true (hedge e he hb)
    · rw [getD_set_ne false hij] at hj
      exact getD_set_true (m.closed j oj hj hoj e he hb)
  · intro t ht
    have hne : o.dst ≠ some t := ht i o ho (by simp [hlt])
    rw [← m.other t fun j oj hoj hj => ht j oj hoj (by
      by_cases hij : i = j
      · subst hij; simp [hlt]
      · rw [getD_set_ne false hij]; exact hj)]
    cases hd : o.dst with
    | none => rfl
    | some d =>
      have : d ≠ t := fun e => hne (by rw [hd, e])
      simp [Act.put, Array.getElem?_setIfInBounds_ne this]
  · intro j oj d s hj hoj hdj hsj
    by_cases hij : i = j
    · subst hij
      rw [ho] at hoj; cases hoj
      rw [hs] at hsj; cases hsj
      have hsz : d < a.tmps.size := by rw [m.tsize]; exact ok.dst i _ d ho hdj
      simpa [Act.put, hdj, hsz] using hv
    · rw [getD_set_ne false hij] at hj
      have hf := m.fact j oj d s hj hoj hdj hsj
      have hf := hst s (List.mem_of_getElem? hsj) _ _ _ hR hf
      have hnd : o.dst ≠ some d := ok.one i o j oj d hi ho hoj hdj hij
      cases hd : o.dst with
      | none => simpa [Act.put] using hf
      | some e =>
        have : e ≠ d := fun e' => hnd (by rw [hd, e'])
        simpa [Act.put, Array.getElem?_setIfInBounds_ne this] using hf
  · intro j hj
    rw [getD_set_ne false (show i ≠ j by omega)]
    exact m.late j hj
/-- One operation more, none of the tail. -/
theorem Midway.step {specs : List FSpec} {a0 a : Act} {listed : Array Bool} {W : World} (m : Midway pre l0 specs R w0 a0 listed a W) (ok : OkSpec pre l0 specs.length a0.tmps.size) (hrf : ∀ a, R a a) (htr : ∀ a b c, R a b → R b c → R a c)
    (hst : ∀ s ∈ specs, ∀ W W' v, R W W' → s.ok W v → s.ok W' v) (h : freeSteps P l0 R w0 Q 0 specs l0 a0 []) {i : Nat} (hi : i < specs.length) (hr : i ∈ Region.ready .any l0.toArray listed) :
    wpOp P l0.toArray Q i (fun a' W' => Midway pre l0 specs R w0 a0 (listed.setIfInBounds i true) a' W') a W := by
  obtain ⟨hun, o, ho', hedge⟩ := mem_ready.1 hr
  have ho : l0[i]? = some o := by simpa using ho'
  have hil : i < l0.length := (List.getElem?_eq_some_iff.1 ho).1
  have hlt : i < listed.size := by rw [m.size]; exact hil
  have hat := steps_at h (valuesOf l0 specs a) (valuesOf_fits l0 specs a) i (by omega)
  rw [List.drop_eq_getElem_cons hi, List.drop_eq_getElem_cons hil] at hat
  have hs : specs[i]? = some specs[i] := List.getElem?_eq_getElem hi
  have hoi : l0[i] = o := by
    have := List.getElem?_eq_getElem hil
    rw [ho] at this
    exact (Option.some.inj this).symm
  rw [hoi] at hat
  have hfacts : ∀ p ∈ factsAt specs (valuesOf l0 specs a) i, leans l0 o p.1 = true → p.2.1.ok W p.2.2 := by
    intro p hp hl
    obtain ⟨h1, h2, h3⟩ := mem_factsAt hp
    unfold leans at hl
    split at hl
    · rename_i d hd
      obtain ⟨oj, hj, hdj⟩ := Option.bind_eq_some_iff.1 hd
      have hlook := ok.look i o p.1 oj d hi ho hj hdj (List.contains_iff_mem.1 hl)
      have hlj : listed.getD p.1 false = true := listed_anc (l0 := l0) m.closed 0 o p.1 hedge hlook.2
      have := m.fact p.1 oj d p.2.1 hlj hj hdj h2
      rw [h3, ← m.value hlj hj hdj]
      exact this
    · cases hl
  have hsame : ∀ t, t ∈ o.looksAt l0.toArray → (frameAt a0 l0 (valuesOf l0 specs a) i).tmps[t]? = a.tmps[t]? := by
    intro t ht
    refine m.tmp ok i t (by omega) fun j oj hj hdj => ?_
    have hlook := ok.look i o j oj t hi ho hj hdj ht
    exact ⟨hlook.1, listed_anc (l0 := l0) m.closed 0 o j hedge hlook.2⟩
  have hev : execOp (frameAt a0 l0 (valuesOf l0 specs a) i).eval o = execOp a.eval o := eval_of_tmps o (fun cs b => ok.sel i o cs b ho) hsame
  have hwa : Region.wanted o (yielded l0.toArray (frameAt a0 l0 (valuesOf l0 specs a) i).tmps) = Region.wanted o (yielded l0.toArray a.tmps) := wanted_of_tmps o hsame
  -- what is left to show of each value
  have next : ∀ W' v, R W W' → specs[i].ok W' v → Midway pre l0 specs R w0 a0 (listed.setIfInBounds i true) (a.put o.dst v) W' := by
    intro W' v hR hv
    refine ⟨by simpa using m.size, htr _ _ _ m.rel hR, ?_, ?_, ?_, ?_, ?_, ?_⟩
    · rw [← m.defers]; cases o.dst <;> rfl
    · rw [← m.tsize]; cases hd : o.dst <;> simp [Act.put]
    · intro j oj hj hoj e he hb
      by_cases hij : i = j
      · subst hij
        rw [ho] at hoj; cases hoj
        exact getD_set_true (hedge e he hb)
      · rw [getD_set_ne false hij] at hj
        exact getD_set_true (m.closed j oj hj hoj e he hb)
    · intro t ht
      have hne : o.dst ≠ some t := ht i o ho (by simp [hlt])
      rw [← m.other t fun j oj hoj hj => ht j oj hoj (by
        by_cases hij : i = j
        · subst hij; simp [hlt]
        · rw [getD_set_ne false hij]; exact hj)]
      cases hd : o.dst with
      | none => rfl
      | some d =>
        have : d ≠ t := fun e => hne (by rw [hd, e])
        simp [Act.put, Array.getElem?_setIfInBounds_ne this]
    · intro j oj d s hj hoj hdj hsj
      by_cases hij : i = j
      · subst hij
        rw [ho] at hoj; cases hoj
        rw [hs] at hsj; cases hsj
        have hsz : d < a.tmps.size := by rw [m.tsize]; exact ok.dst i _ d ho hdj
        simpa [Act.put, hdj, hsz] using hv
      · rw [getD_set_ne false hij] at hj
        have hf := m.fact j oj d s hj hoj hdj hsj
        have hf := hst s (List.mem_of_getElem? hsj) _ _ _ hR hf
        have hnd : o.dst ≠ some d := ok.one i o j oj d hi ho hoj hdj hij
        cases hd : o.dst with
        | none => simpa [Act.put] using hf
        | some e =>
          have : e ≠ d := fun e' => hnd (by rw [hd, e'])
          simpa [Act.put, Array.getElem?_setIfInBounds_ne this] using hf
    · intro j hj
      rw [getD_set_ne false (show i ≠ j by omega)]
      exact m.late j hj
  unfold wpOp
  simp only [List.getElem?_toArray, ho]
  generalize hsp : specs[i] = s at hat next
  cases s with
  | val c =>
    simp only [freeSteps] at hat
    have hone := hat.1 W m.rel (factsHold_of hfacts)
    rw [hwa, hev] at hone
    split
    · rename_i hw
      rw [if_pos hw] at hone
      refine .inl (upon_of_gives hone fun w' v hv => next _ _ hv.1 hv.2)
    · rename_i hw
      rw [if_neg hw] at hone
      exact next W undef (hrf W) hone
  | pred Φ =>
    simp only [freeSteps] at hat
    have hone := hat.1 W m.rel (factsHold_of hfacts)
    rw [hwa, hev] at hone
    split
    · rename_i hw
      rw [if_pos hw] at hone
      refine .inl (upon_of_gives hone fun w' v hv => next _ _ hv.1 hv.2)
    · rename_i hw
      rw [if_neg hw] at hone
      exact next W undef (hrf W) hone
/-- All of the front is done, and nothing else: the frame is the lexical walk's. -/
theorem Midway.done {specs : List FSpec} {a0 a : Act} {listed : Array Bool} {W : World} (m : Midway pre l0 specs R w0 a0 listed a W) (ok : OkSpec pre l0 specs.length a0.tmps.size) (hall : ∀ j, j < specs.length → listed.getD j false = true) :
    a = frameAt a0 l0 (valuesOf l0 specs a) specs.length ∧ ∀ p ∈ factsAt specs (valuesOf l0 specs a) specs.length, p.2.1.ok W p.2.2 := by
  refine ⟨?_, fun p hp => ?_⟩
  · obtain ⟨tm, df⟩ := a
    have hdf := frameAt_defers a0 l0 (valuesOf l0 specs ⟨tm, df⟩) specs.length
    have htm : tm = (frameAt a0 l0 (valuesOf l0 specs ⟨tm, df⟩) specs.length).tmps := by
      refine Array.ext_getElem? fun t => ?_
      by_cases hex : ∃ (j : Nat) (oj : Oper), l0[j]? = some oj ∧ oj.dst = some t ∧ specs.length ≤ j
      · obtain ⟨j, oj, hj, hd, hge⟩ := hex
        by_cases hin : ∃ (i : Nat) (oi : Oper), l0[i]? = some oi ∧ oi.dst = some t ∧ i < specs.length
        · obtain ⟨i, oi, hi, hdi, hlt⟩ := hin
          exact absurd hdi (ok.one i oi j oj t hlt hi hj hd (by omega))
        · rw [frameAt_other a0 l0 _ _ t fun i o hi ho hd' => hin ⟨i, o, ho, hd', hi⟩]
          refine m.other t fun i o ho hl hd' => ?_
          rcases Nat.lt_or_ge i specs.length with h | h
          · exact hin ⟨i, o, ho, hd', h⟩
          · rw [m.late i h] at hl; cases hl
      · refine (m.tmp ok specs.length t (Nat.le_refl _) fun j oj hj hd => ?_).symm
        have hlt : j < specs.length := by
          rcases Nat.lt_or_ge j specs.length with h | h
          · exact h
          · exact absurd ⟨j, oj, hj, hd, h⟩ hex
        exact ⟨hlt, hall j hlt⟩
    have h1 : (frameAt a0 l0 (valuesOf l0 specs ⟨tm, df⟩) specs.length).defers = df := by rw [hdf, ← m.defers]
    generalize frameAt a0 l0 (valuesOf l0 specs ⟨tm, df⟩) specs.length = f at htm h1
    obtain ⟨ft, fd⟩ := f
    simp only at htm h1
    rw [htm, h1]
  · obtain ⟨h1, h2, h3⟩ := mem_factsAt hp
    have hil : p.1 < l0.length := by have := ok.len; omega
    have ho : l0[p.1]? = some l0[p.1] := List.getElem?_eq_getElem hil
    rw [h3]
    cases hd : l0[p.1].dst with
    | some d =>
      rw [← m.value (hall p.1 h1) ho hd]
      exact m.fact p.1 _ d _ (hall p.1 h1) ho hd h2
    | none =>
      have := ok.has p.1 _ h1 ho
      simp [hd] at this
theorem free_mono {md : Region.Mode} {ops : Array Oper} {listed : Array Bool} {i : Nat} (f : Nat → Bool) (hl : ∀ j, f j = true → listed.getD j true = true) (h : Region.free md ops (((List.range ops.size).map f).toArray) i = true) : Region.free md ops listed i = true := by
  unfold Region.free at *
  split at h
  · cases h
  · rw [List.all_eq_true] at *
    intro j hj
    have := h j hj
    have hjl : j < ops.size := List.mem_range.1 hj
    have e : (((List.range ops.size).map f).toArray).getD j true = f j := by simp [hjl]
    rw [e] at this
    cases h2 : listed.getD j true with
    | true => simp
    | false =>
      have h3 : f j = false := by
        cases h4 : f j with
        | false => rfl
        | true => rw [hl j h4] at h2; cases h2
      rw [h3] at this
      exact this
theorem free_any {specs : List FSpec} {a0 : Act} {k : Nat} {ok' : Oper} {d : Tmp} {v : Value} (hpk : pre = [k]) (hk : l0[k]? = some ok') (_hkd : ok'.dst = some d) (hks : specs[k]? = some (.val v)) (hns : Region.noSelect l0.toArray = true)
    (hf : Region.free .any l0.toArray (((List.range l0.toArray.size).map fun j => hasEdge ok' j).toArray) k = true) (hQ : ∀ c a w, Q (.panic c) (a.put ok'.dst v) w → Q (.panic c) a w)
    (hy : ∀ (a : Act) (W : World), R w0 W → (∀ j s oj dj, specs[j]? = some s → l0[j]? = some oj → oj.dst = some dj → hasEdge ok' j = true → s.ok W (a.tmps.getD dj undef)) → Yields P l0.toArray ok' v a)
    (ok : OkSpec pre l0 specs.length a0.tmps.size) (hrf : ∀ a, R a a) (htr : ∀ a b c, R a b → R b c → R a c)
    (hst : ∀ s ∈ specs, ∀ W W' v, R W W' → s.ok W v → s.ok W' v) (h : freeSteps P l0 R w0 Q 0 specs l0 a0 []) :
    ∀ (fuel : Nat) (listed : Array Bool) (a : Act) (W : World), left l0 listed ≤ fuel → Midway pre l0 specs R w0 a0 listed a W → wpAny P .any l0.toArray Q fuel listed a W := by
  have fin : ∀ (listed : Array Bool) (a : Act) (W : World), Midway pre l0 specs R w0 a0 listed a W → (∀ j, j < specs.length → listed.getD j false = true) → wpList P l0.toArray Q (l0.drop specs.length) a W := by
    intro listed a W m hall
    obtain ⟨he, hf⟩ := m.done ok hall
    have hat := steps_at h (valuesOf l0 specs a) (valuesOf_fits l0 specs a) specs.length (Nat.le_refl _)
    rw [List.drop_length] at hat
    simp only [freeSteps] at hat
    have := hat W m.rel (factsHold_of fun p hp _ => hf p hp)
    rwa [← he] at this
  have hkn : k < specs.length := (List.getElem?_eq_some_iff.1 hks).1
  have hpre : ∀ (listed : Array Bool), (∀ j, j < specs.length → listed.getD j false = true) → ∀ j ∈ pre, listed.getD j false = true := by
    intro listed hall j hj
    rw [hpk] at hj
    obtain rfl := List.mem_singleton.1 hj
    exact hall _ hkn
  have hlst : ∀ (listed : Array Bool) (a : Act) (W : World), Midway pre l0 specs R w0 a0 listed a W → (∀ j, j < specs.length → listed.getD j false = true) → ∀ i, i < l0.length → (listed.getD i false = true ↔ i < specs.length) := by
    intro listed a W m hall i hi
    constructor
    · intro hl
      rcases Nat.lt_or_ge i specs.length with h | h
      · exact h
      · rw [m.late i h] at hl; cases hl
    · exact hall i
  intro fuel
  induction fuel with
  | zero =>
    intro listed a W hl m
    have hnone : ∀ i, i < l0.length → listed.getD i true = true := by
      intro i hi
      have h0 : ((List.range l0.length).filter fun i => !listed.getD i true) = [] := List.eq_nil_of_length_eq_zero (by unfold left at hl; omega)
      have := List.filter_eq_nil_iff.1 h0 i (List.mem_range.2 hi)
      simpa using this
    have hall : ∀ j, j < specs.length → listed.getD j false = true := by
      intro j hj
      have h1 := hnone j (by have := ok.len; omega)
      rcases listed_cases (listed := listed) (i := j) (by rw [m.size]; have := ok.len; omega) with h2 | h2
      · exact h2
      · rw [h2] at h1; cases h1
    have hn : specs.length = l0.length := by
      rcases Nat.lt_or_ge specs.length l0.length with h1 | h1
      · have h2 := hnone specs.length h1
        have h3 := m.late specs.length (Nat.le_refl _)
        rcases listed_cases (listed := listed) (i := specs.length) (by rw [m.size]; exact h1) with h4 | h4
        · rw [h4] at h3; cases h3
        · rw [h4] at h2; cases h2
      · have := ok.len; omega
    exact tail_forced ok.tail 0 specs.length listed a W 0 (Nat.le_refl _) hn (Nat.le_refl _) m.size (hpre _ hall) m.closed (hlst _ _ _ m hall) ok.edge (fin _ _ _ m hall)
  | succ fuel ih =>
    intro listed a W hl m
    by_cases hall : ∀ j, j < specs.length → listed.getD j false = true
    · refine tail_forced ok.tail (l0.length - specs.length) specs.length listed a W (fuel + 1) (Nat.le_refl _) (by have := ok.len; omega) ?_ m.size (hpre _ hall) m.closed (hlst _ _ _ m hall) ok.edge (fin _ _ _ m hall)
      have := left_ge (l := l0) (listed := listed) (n := specs.length) fun i h1 h2 => by
        have := m.late i h1
        have hlt : i < listed.size := by rw [m.size]; exact h2
        simpa [hlt] using this
      omega
    · by_cases hrk : k ∈ Region.ready .any l0.toArray listed
      · obtain ⟨hun, o, ho', hedge⟩ := mem_ready.1 hrk
        have ho : l0[k]? = some o := by simpa using ho'
        rw [hk] at ho; cases ho
        have hed : ∀ j, hasEdge ok' j = true → listed.getD j false = true := fun j he => by
          obtain ⟨e, he1, he2⟩ := List.any_eq_true.1 he
          simp only [Bool.and_eq_true, beq_iff_eq] at he2
          have := hedge e (Array.mem_toList_iff.1 he1) he2.1
          rwa [he2.2] at this
        have hle : ∀ j, hasEdge ok' j = true → listed.getD j true = true := fun j he => by
          have h1 := hed j he
          rcases Nat.lt_or_ge j listed.size with h2 | h2
          · simpa [h2] using h1
          · simp [h2]
        have hyy : Yields P l0.toArray ok' v a := hy a W m.rel fun j s oj dj hs hj hd he => by
          exact m.fact j oj dj s (hed j he) hj hd hs
        refine wpAny_take (i := k) (by simpa using hk) hns (free_mono _ hle hf) (List.contains_iff_mem.2 hrk) hQ hyy ?_
        have hil : k < l0.length := (List.getElem?_eq_some_iff.1 hk).1
        have hsk : specs[k] = .val v := by
          have := List.getElem?_eq_getElem hkn
          rw [hks] at this
          exact (Option.some.inj this).symm
        exact ih _ _ W (by have := left_set hil hun; omega) (m.next ok htr hst hkn hk hedge W v (hrf W) (by rw [hsk]; rfl))
      have hkl : ∀ i o, specs.length ≤ i → l0[i]? = some o → (∀ e ∈ o.after, Region.binds .any e = true → listed.getD e.on false = true) → ∀ j ∈ pre, listed.getD j false = true := by
        intro i o hi ho hedge j hj
        rw [hpk] at hj
        obtain rfl := List.mem_singleton.1 hj
        have hil : j < l0.length := (List.getElem?_eq_some_iff.1 hk).1
        rcases listed_cases (listed := listed) (i := j) (by rw [m.size]; exact hil) with h1 | h1
        · exact h1
        · refine absurd (mem_ready.2 ⟨h1, ok', by simpa using hk, fun e he hb => ?_⟩) hrk
          have hlt := ok.edge j ok' hk e he hb
          have := ok.tail i o hi ho e.on (by omega)
          rcases this with h2 | h2
          · rw [hpk] at h2
            have := List.mem_singleton.1 h2
            omega
          · exact listed_anc m.closed 16 o e.on hedge h2
      refine ⟨fun h0 => ?_, fun i hi => ?_⟩
      · refine absurd (fun j => ?_) hall
        induction j using Nat.strongRecOn with
        | _ j ihj =>
          intro hj
          have hjl : j < l0.length := by have := ok.len; omega
          have hoj : l0[j]? = some l0[j] := List.getElem?_eq_getElem hjl
          rcases listed_cases (listed := listed) (i := j) (by rw [m.size]; exact hjl) with h1 | h1
          · exact h1
          · have hm : j ∈ Region.ready .any l0.toArray listed := mem_ready.2 ⟨h1, l0[j], by simp [hjl], fun e he hb => by
              have := ok.edge j _ hoj e he hb
              exact ihj e.on this (by omega)⟩
            rw [h0] at hm
            cases hm
      · obtain ⟨hun, o, ho', hedge⟩ := mem_ready.1 hi
        have hil : i < l0.length := by have := lt_of_unlisted hun; rw [m.size] at this; exact this
        have hn : i < specs.length := by
          rcases Nat.lt_or_ge i specs.length with h1 | h1
          · exact h1
          · exact absurd (fun j hj => (ok.tail i o h1 (by simpa using ho') j (by omega)).elim (fun hp => hkl i o h1 (by simpa using ho') hedge j hp) (listed_anc m.closed 16 o j hedge)) hall
        exact wpOp_mono (fun a' W' m' => ih _ a' W' (by have := left_set hil hun; omega) m') (m.step ok hrf htr hst h hn hi)
theorem region_late {id : Nat} {l : List Oper} {a : Act} {w : World} (R : World → World → Prop) (specs : List FSpec) (k : Nat) (ok : Oper) (d : Tmp) (v : Value) (hm : P.follows .mixedOrders = true) (hok : okFree [k] specs.length a.tmps.size l = true)
    (hk : l[k]? = some ok) (hd : ok.dst = some d) (hs : specs[k]? = some (.val v)) (hns : Region.noSelect l.toArray = true)
    (hf : Region.free .any l.toArray (((List.range l.toArray.size).map fun j => hasEdge ok j).toArray) k = true) (hQ : ∀ c a w, Q (.panic c) (a.put ok.dst v) w → Q (.panic c) a w)
    (hy : ∀ (a : Act) (W : World), R w W → (∀ j s oj dj, specs[j]? = some s → l[j]? = some oj → oj.dst = some dj → hasEdge ok j = true → s.ok W (a.tmps.getD dj undef)) → Yields P l.toArray ok v a)
    (hrf : ∀ a, R a a) (htr : ∀ a b c, R a b → R b c → R a c) (hdr : ∀ a, R a a.drew) (hst : ∀ s ∈ specs, ∀ W W' v, R W W' → s.ok W v → s.ok W' v)
    (h : freeSteps P l R w Q 0 specs l a []) : (Code.region id l.toArray true).wp P Q a w := by
  refine wp_region_any hm ?_
  have hget : ∀ i : Nat, (Array.replicate l.toArray.size false).getD i false = false := by
    intro i
    rw [Array.getD_eq_getD_getElem?, Array.getElem?_replicate]
    split <;> rfl
  refine free_any rfl hk hd hs hns hf hQ hy (okFree_spec hok) hrf htr hst h _ _ _ _ ?_ ⟨by simp, hdr w, rfl, rfl, ?_, ?_, ?_, ?_⟩
  · unfold left
    refine Nat.le_trans (List.length_filter_le _ _) ?_
    simp
  · intro i o hi
    rw [hget] at hi; cases hi
  · intro t _; rfl
  · intro j o d s hj
    rw [hget] at hj; cases hj
  · intro j _
    exact hget j
end
end Go.Proofs.YtkkfgphcmnhabaaGreatDoor.Late
namespace Go.Proofs.YtkkfgphcmnhabaaGreatDoor
set_option maxRecDepth 100000
open Go Go.RowKit Go.Proofs
theorem gone_l (g M : Nat) (w : World) (h : w.heap[g]? = some (.cells #[.map (some M)] 72 (0, 0))) :
    Calls Tryz.prog 27 #[.pointer (some ⟨g, 0, none⟩)] w fun e w' => e = .returned (.bool false) ∧ w = w' := by
  have k0 := cell0 h
  clear h
  have hm : ∀ W, Sem.run Tryz.prog (binOp BinOp.eql 70 (Value.map (some M)) (Value.map none)) W = Result.ok (.bool false) W := fun W => by kernel_rfl
  go_enter Tryz.func27, Tryz.ntmps27
  go_wp2_with fail
  go_ret
  exact ⟨rfl, rfl⟩
theorem new_c (w : World) : Calls Tryz.prog 21 #[] w fun e w' => ∃ g M, e = .returned (.pointer (some ⟨g, 0, none⟩)) ∧ Cat w' g M [] ∧ Ext w w' ∧ w.heap.size ≤ g ∧ w.heap.size ≤ M := by
  have hmm := @run_makeMap Tryz.prog
  go_enter Tryz.func21, Tryz.ntmps21
  go_wp2_with fail
  go_ret
  refine ⟨_, _, rfl, ⟨heap_at _ _ _ (by simp), (mapP_made w).blk (heap_alloc_old _ _ (by simp)), by simp, by simp, by simp, by simp, by simp⟩, ((Ext.refl w).al _).al _, by omega, Nat.le_refl _⟩
end Go.Proofs.YtkkfgphcmnhabaaGreatDoor
namespace Go.Proofs.YtkkfgphcmnhabaaGreatDoor
set_option maxRecDepth 100000
open Go Go.RowKit Go.Proofs
theorem st_varM {ss : List FSpec} (b : Nat) (cs : Array Value) (T : TypeId) (h : StableAll Ext ss) : StableAll Ext (.pred (VarAt b cs T) :: ss) := ⟨fun _ _ _ e h => VarAt.ext h e, h⟩
theorem st_partK {ss : List FSpec} (lo : Nat) (d : PD) (h : StableAll Ext ss) : StableAll Ext (.pred (fun W v => PartK lo W v d) :: ss) := ⟨fun _ _ _ e h => PartK.ext h e, h⟩
set_option maxHeartbeats 1600000 in
theorem put_ok (p q : FV) (d : PD) (w : World) (g M : Nat) (es : List (PD × Value)) (h : Cat w g M es) (h1 : FracR w (.agg #[.bool p.b1, .slice p.a1 p.n1 p.c1, .bool p.b2, .slice p.a2 p.n2 p.c2]) d.p) (h2 : FracR w (.agg #[.bool q.b1, .slice q.a1 q.n1 q.c1, .bool q.b2, .slice q.a2 q.n2 q.c2]) d.q) (hd : okPD d) (hs : d.nm.size ≤ 9223372036854775807) (hf : findP d.nm es = none) (hl : es.length < 64) :
    Calls Tryz.prog 14 #[.pointer (some ⟨g, 0, none⟩), .agg #[.string d.nm, .int .u8 d.kd, .bool p.b1, .slice p.a1 p.n1 p.c1, .bool p.b2, .slice p.a2 p.n2 p.c2, .bool q.b1, .slice q.a1 q.n1 q.c1, .bool q.b2, .slice q.a2 q.n2 q.c2, .int .i64 d.co]] w fun e w' => e = .returned (.int .i64 0) ∧ ∃ v, PartK w.heap.size w' v d ∧ Cat w' g M (insP (d, v) es) ∧ Chg w w' (· = M) := by
  obtain ⟨wb, hwb⟩ : ∃ wb, wb = w.alloc (.cells #[.string d.nm, .int .u8 d.kd, .bool p.b1, .slice p.a1 p.n1 p.c1, .bool p.b2, .slice p.a2 p.n2 p.c2, .bool q.b1, .slice q.a1 q.n1 q.c1, .bool q.b2, .slice q.a2 q.n2 q.c2, .int .i64 d.co] 38) := ⟨_, rfl⟩
  have hE : Ext w wb := by rw [hwb]; exact (Ext.refl w).al _
  have z0 : wb.heap[w.heap.size]? = some (.cells #[.string d.nm, .int .u8 d.kd, .bool p.b1, .slice p.a1 p.n1 p.c1, .bool p.b2, .slice p.a2 p.n2 p.c2, .bool q.b1, .slice q.a1 q.n1 q.c1, .bool q.b2, .slice q.a2 q.n2 q.c2, .int .i64 d.co] 38 (0, 0)) := by rw [hwb]; exact heap_alloc_new _ _
  have hsz : wb.heap.size = w.heap.size + 1 := by rw [hwb]; simp
  have hC := mkHid (fun W (e : Ext wb W) => h.ext (hE.trans e))
  have hM : M < w.heap.size := h.map.lt
  have hG := mkHid (fun W (e : Ext wb W) => gone_l g M W (h.ext (hE.trans e)).str)
  have hN := fun W => named_c d.nm W hs
  rw [hd.2.2.1] at hN
  have hY := fun W (e : Ext wb W) => may_v d.nm d.kd d.co p q (some d.p) (some d.q) W (by have := (h1.ext (hE.trans e)).any (Nat.le_trans hd.1 (by decide)); rwa [if_pos hd.1] at this) (by have := (h2.ext (hE.trans e)).any (Nat.le_trans hd.2.1 (by decide)); rwa [if_pos hd.2.1] at this)
  rw [hd.2.2.2] at hY
  replace hN := mkHid hN
  replace hY := mkHid hY
  have hK := mkHid (fun W (e : Ext wb W) => copied_k (.agg #[.string d.nm, .int .u8 d.kd, .bool p.b1, .slice p.a1 p.n1 p.c1, .bool p.b2, .slice p.a2 p.n2 p.c2, .bool q.b1, .slice q.a1 q.n1 q.c1, .bool q.b2, .slice q.a2 q.n2 q.c2, .int .i64 d.co]) d W (Nat.le_trans hd.1 (by decide)) (Nat.le_trans hd.2.1 (by decide)) (PartR.mk (h1.ext (hE.trans e)) (h2.ext (hE.trans e))))
  have c0 : ∀ W, Ext wb W → W.cell? ⟨w.heap.size, 0, none⟩ = some (.string d.nm) := fun W e => row16_cells (e.blk z0) 0
  have cg : ∀ W, Ext wb W → W.cell? ⟨g, 0, none⟩ = some (.map (some M)) := fun W e => cell0 (hC.out W e).str
  have hL : ∀ W, Ext wb W → (Instr.lookup 70 (.map (some M)) (.string d.nm) true).run Tryz.prog W = .ok (.tuple #[zeroPart, .bool false]) W := fun W e => by
    have := (hC.out W e).map.look d.nm hs
    rw [hf] at this
    exact this
  replace hd := mkHid hd
  replace hf := mkHid hf
  replace hs := mkHid hs
  replace hE := mkHid hE
  replace z0 := mkHid z0
  replace hwb := mkHid hwb
  replace hsz := mkHid hsz
  replace hL := mkHid hL
  replace c0 := mkHid c0
  replace cg := mkHid cg
  clear h h1 h2
  go_enter Tryz.func14, Tryz.ntmps14
  have tok : Tok 0 := .mk _
  go_wp2_with (first
    | ((have _t : Tok 0 := tok); clear _t; clear tok; (have tok : Tok 1 := .mk _); go_at_call 27; rw [← hwb.out]; refine (hG.out _ (Ext.refl _)).mono ?_; rintro e w1 ⟨rfl, rfl⟩; (have y0 := c0.out _ (Ext.refl _)))
    | ((have _t : Tok 1 := tok); clear _t; clear tok; (have tok : Tok 2 := .mk _); go_at_call 33; refine (hN.out _).mono ?_; rintro e w2 ⟨rfl, hE2⟩; clear y0; replace hE2 := mkHid hE2)
    | ((have _t : Tok 2 := tok); clear _t; clear tok; (have tok : Tok 3 := .mk _); refine wpList_load_row (by rfl) 38 (.tmp 3) rfl w.heap.size rfl 38 #[.string d.nm, .int .u8 d.kd, .bool p.b1, .slice p.a1 p.n1 p.c1, .bool p.b2, .slice p.a2 p.n2 p.c2, .bool q.b1, .slice q.a1 q.n1 q.c1, .bool q.b2, .slice q.a2 q.n2 q.c2, .int .i64 d.co] (0, 0) _ (hE2.out.blk z0.out) Tryz.underlying38 rfl (by kernel_rfl) ?_)
    | ((have _t : Tok 3 := tok); clear _t; clear tok; (have tok : Tok 4 := .mk _); go_at_call 34; refine (hY.out _ hE2.out).mono ?_; rintro e w3 ⟨rfl, hx⟩; replace hE2 := mkHid (hE2.out.trans hx); clear hx))
  clear tok
  apply Late.region_late Ext [.val (.pointer (some ⟨g, 0, none⟩)), .val (.pointer (some ⟨g, 0, none⟩)), .val (.pointer (some ⟨g, 0, none⟩)), .val (.map (some M)), .val (.pointer (some ⟨w.heap.size, 0, none⟩)), .val (.string d.nm), .val (.tuple #[zeroPart, .bool false]), .val (.tuple #[zeroPart, .bool false]), .val zeroPart, .val (.bool false), .pred (VarAt wb.heap.size #[.string ⟨#[]⟩, .int .u8 0, .bool false, .slice none 0 0, .bool false, .slice none 0 0, .bool false, .slice none 0 0, .bool false, .slice none 0 0, .int .i64 0] 38)] 9 _ 28 (.bool false) mixed (by kernel_rfl) rfl rfl rfl (by kernel_rfl) (by kernel_rfl) (fun _ _ _ h => h)
    (fun a W _ hf => by
      have h7 : a.tmps.getD 19 undef = .tuple #[zeroPart, .bool false] := hf 7 _ _ _ rfl rfl rfl (by kernel_rfl)
      refine .inl ⟨rfl, fun w => ?_⟩
      simp only [execOp, Act.eval, h7]
      rfl)
    Ext.refl (fun _ _ _ => Ext.trans) (fun w => (Ext.refl w).dr) (stableAll_mem (stable_vals _ (stable_vals _ (stable_vals _ (stable_vals _ (stable_vals _ (stable_vals _ (stable_vals _ (stable_vals _ (stable_vals _ (stable_vals _ (st_varM _ _ _ trivial))))))))))))
  iterate 3 (refine ⟨fun W hW _ => by go_simp; first | exact ⟨Ext.refl _, rfl⟩ | exact Ext.refl _, ?_⟩)
  refine ⟨fun W hW _ => by have := cg.out W (hE2.out.trans hW); go_simp; first | exact ⟨Ext.refl _, rfl⟩ | exact Ext.refl _, ?_⟩
  refine ⟨fun W hW _ => by go_simp; first | exact ⟨Ext.refl _, rfl⟩ | exact Ext.refl _, ?_⟩
  refine ⟨fun W hW _ => by have := c0.out W (hE2.out.trans hW); go_simp; first | exact ⟨Ext.refl _, rfl⟩ | exact Ext.refl _, ?_⟩
  refine ⟨fun W hW _ => by have := hL.out W (hE2.out.trans hW); go_simp; first | exact ⟨Ext.refl _, rfl⟩ | exact Ext.refl _, ?_⟩
  iterate 3 (refine ⟨fun W hW _ => by go_simp; first | exact ⟨Ext.refl _, rfl⟩ | exact Ext.refl _, ?_⟩)
  refine ⟨fun W hW hF => ?al, fun v10 => fun W hW hF => ?fin⟩
  case al =>
    have hnv := new_var (b := wb.heap.size) (cs := #[.string ⟨#[]⟩, .int .u8 0, .bool false, .slice none 0 0, .bool false, .slice none 0 0, .bool false, .slice none 0 0, .bool false, .slice none 0 0, .int .i64 0]) (T := 38) W (hE2.out.trans hW).size
    replace hnv := mkHid hnv
    go_simp
    exact ⟨hnv.out.1, hnv.out.2.1⟩
  case fin =>
    obtain ⟨gd, rfl, hgb, hgd⟩ := hF.1 rfl
    have hE3 : Ext wb (W.setRow gd #[.string ⟨#[]⟩, .int .u8 0, .bool false, .slice none 0 0, .bool false, .slice none 0 0, .bool false, .slice none 0 0, .bool false, .slice none 0 0, .int .i64 0]) := (hE2.out.trans hW).row hgb _
    obtain ⟨w4, hw4⟩ : ∃ w4, w4 = W.setRow gd #[.string ⟨#[]⟩, .int .u8 0, .bool false, .slice none 0 0, .bool false, .slice none 0 0, .bool false, .slice none 0 0, .bool false, .slice none 0 0, .int .i64 0] := ⟨_, rfl⟩
    rw [← hw4] at hE3
    replace hE3 := mkHid hE3
    replace hw4 := mkHid hw4
    replace hgd := mkHid hgd
    have y1 := cg.out w4 hE3.out
    have y2 := fun ty => (hC.out w4 hE3.out).map.len ty
    have y3 : ((es.length : Int) < 64) := by omega
    clear hF hW hE2
    go_simp
    go_wp2_with (refine wpList_store_row rfl 38 (.tmp 5) (.tmp 27) rfl gd #[.string ⟨#[]⟩, .int .u8 0, .bool false, .slice none 0 0, .bool false, .slice none 0 0, .bool false, .slice none 0 0, .bool false, .slice none 0 0, .int .i64 0] rfl rfl 38 _ hgd.out (by kernel_rfl) rfl (by kernel_rfl) ?_; rw [← hw4.out])
    clear y1 y2
    apply region_ext [.val (.pointer (some ⟨g, 0, none⟩)), .val (.pointer (some ⟨g, 0, none⟩)), .val (.pointer (some ⟨g, 0, none⟩)), .val (.map (some M)), .val (.pointer (some ⟨w.heap.size, 0, none⟩)), .val (.string d.nm), .val (.agg #[.string d.nm, .int .u8 d.kd, .bool p.b1, .slice p.a1 p.n1 p.c1, .bool p.b2, .slice p.a2 p.n2 p.c2, .bool q.b1, .slice q.a1 q.n1 q.c1, .bool q.b2, .slice q.a2 q.n2 q.c2, .int .i64 d.co]), .pred (fun W v => PartK wb.heap.size W v d)] (by kernel_rfl) (stable_vals _ (stable_vals _ (stable_vals _ (stable_vals _ (stable_vals _ (stable_vals _ (stable_vals _ (st_partK _ _ trivial))))))))
    iterate 3 (refine ⟨fun W hW _ => by go_simp; first | exact ⟨Ext.refl _, rfl⟩ | exact Ext.refl _, ?_⟩)
    refine ⟨fun W hW _ => by have := cg.out W (hE3.out.trans hW); go_simp; first | exact ⟨Ext.refl _, rfl⟩ | exact Ext.refl _, ?_⟩
    refine ⟨fun W hW _ => by go_simp; first | exact ⟨Ext.refl _, rfl⟩ | exact Ext.refl _, ?_⟩
    refine ⟨fun W hW _ => by have := c0.out W (hE3.out.trans hW); go_simp; first | exact ⟨Ext.refl _, rfl⟩ | exact Ext.refl _, ?_⟩
    refine ⟨?ld, ?_⟩
    case ld =>
      intro W hW hF
      have hr := hW.blk (hE3.out.blk z0.out)
      with_reducible refine fr_load ?zhw 38 (.tmp 3) ?zho w.heap.size ?zhx 38 #[.string d.nm, .int .u8 d.kd, .bool p.b1, .slice p.a1 p.n1 p.c1, .bool p.b2, .slice p.a2 p.n2 p.c2, .bool q.b1, .slice q.a1 q.n1 q.c1, .bool q.b2, .slice q.a2 q.n2 q.c2, .int .i64 d.co] (0, 0) _ hr Tryz.underlying38 ?zhd ?zhi ?zh
      case zhw => kernel_rfl
      case zho => rfl
      case zhx => kernel_rfl
      case zhd => rfl
      case zhi => kernel_rfl
      case zh => exact ⟨Ext.refl _, rfl⟩
    refine ⟨fun W hW hF => ?cp, fun v7 => fun W hW hF => ?fin2⟩
    case cp =>
      clear hF
      go_simp
      refine (hK.out W (hE3.out.trans hW)).mono ?_
      rintro e w' ⟨v, rfl, h1, h2⟩
      exact ⟨v, rfl, h1, h2.mono (hE3.out.trans hW).size⟩
    case fin2 =>
      have hv : PartK wb.heap.size W v7 d := hF.1 rfl
      have hE5 := hE3.out.trans hW
      obtain ⟨w6, r1, r2, r3⟩ := (hC.out W hE5).map.store (d, v7) hs.out (by unfold maxLen; omega) hf.out
      have hcat := (hC.out W hE5).put r2 r3 (hv.mono (show w.heap.size ≤ wb.heap.size from hE.out.size)) hM hd.out hl
      have hk : PartK w.heap.size w6 v7 d := by
        have hg := r3.grown
        have hb : ∀ k, k < W.heap.size → k ≠ M → w6.heap[k]? = W.heap[k]? := fun k hk hne => hg.block k hk (fun e => hne (Option.some.inj e))
        have hs' := hE.out.size
        refine (hv.mono hE.out.size).near fun k hk => hb k (hv.span k hk).2 (by have := (hv.span k hk).1; omega)
      have hch : Chg w w6 (· = M) := (Chg.of_ext (hE.out.trans hE5) _).trans (Cat.turned r3)
      clear hF hv hW r2 r3 hE5
      replace hcat := mkHid hcat
      replace hk := mkHid hk
      replace hch := mkHid hch
      go_simp
      go_wp2_with fail
      go_ret
      exact ⟨rfl, _, hk.out, hcat.out, hch.out⟩
end Go.Proofs.YtkkfgphcmnhabaaGreatDoor
namespace Go.Proofs.YtkkfgphcmnhabaaGreatDoor
set_option maxRecDepth 100000
open Go Go.RowKit Go.Proofs
theorem infoPart : (Tryz.prog.info? 38).map (fun i => (i.zero, i.size, i.bytes)) = some (some zeroPart, 11, 160) := by kernel_rfl
def cellsP (os : List (PD × Value)) : List Value := os.flatMap fun x => x.2.cells.toList
def blksP (os : List (PD × Value)) : List Nat := os.flatMap fun x => Aloof.blks x.2
/-- A list of parts of one's own, from block lo on. -/
structure OutP (lo : Nat) (w : World) (s : Value) (os : List (PD × Value)) : Prop where
  row : w.ownsRow lo 38 11 s os.length (cellsP os)
  part : ∀ x ∈ os, PartK lo w x.2 x.1
  nod : (blksP os).Nodup
  own : ∀ g, s.ownBlock = some g → g ∉ blksP os
theorem outP_nil (lo : Nat) (w : World) : OutP lo w (.slice none 0 0) [] :=
  ⟨World.ownsRow_nil _ _ _ _, by simp, List.nodup_nil, by intro g h; cases h⟩
theorem OutP.ext {lo : Nat} {w w' : World} {s : Value} {os : List (PD × Value)} (h : OutP lo w s os) (e : Ext w w') : OutP lo w' s os :=
  ⟨ownsRow_ext h.row e, fun x hx => (h.part x hx).ext e, h.nod, h.own⟩
theorem OutP.mono {lo lo' : Nat} {w : World} {s : Value} {os : List (PD × Value)} (h : OutP lo w s os) (e : lo' ≤ lo) : OutP lo' w s os :=
  ⟨ownsRow_mono h.row e, fun x hx => (h.part x hx).mono e, h.nod, h.own⟩
theorem OutP.span {lo : Nat} {w : World} {s : Value} {os : List (PD × Value)} (h : OutP lo w s os) : ∀ g ∈ blksP os, lo ≤ g ∧ g < w.heap.size := by
  intro g hg
  obtain ⟨x, hx, hk⟩ := List.mem_flatMap.1 hg
  exact (h.part x hx).span g hk
theorem OutP.ownLt {lo : Nat} {w : World} {s : Value} {os : List (PD × Value)} (h : OutP lo w s os) : ∀ g, s.ownBlock = some g → lo ≤ g ∧ g < w.heap.size := by
  intro g hg
  rcases h.row.2 with ⟨e, _⟩ | ⟨k, cap, cur, e, h1, h2, _⟩
  · rw [e] at hg
    cases hg
  · rw [e] at hg
    cases hg
    exact ⟨h1, (Array.getElem?_eq_some_iff.1 h2).1⟩
/-- One part more: w the world before the part was made, w1 behind that, w2 behind the append. -/
theorem OutP.snoc {lo : Nat} {w w1 w2 : World} {s s' : Value} {os : List (PD × Value)} {d : PD} {v : Value} (h : OutP lo w s os) (hlo : lo ≤ w.heap.size) (hx : Ext w w1) (hv : PartK w.heap.size w1 v d)
    (hr : w2.ownsRow lo 38 11 s' (os.length + 1) (cellsP os ++ v.cells.toList)) (hg : w1.grownBy w2 s.ownBlock) (ha : s'.ownBlock = s.ownBlock ∨ s'.ownBlock = some w1.heap.size) : OutP lo w2 s' (os ++ [(d, v)]) := by
  have hb : ∀ k, k < w1.heap.size → s.ownBlock ≠ some k → w2.heap[k]? = w1.heap[k]? := fun k hk hne => hg.block k hk (fun e => hne e.symm)
  have hsp := (h.ext hx).span
  have hol := h.ownLt
  refine ⟨by simpa [cellsP] using hr, fun x hxm => ?_, ?_, fun g hgo hm => ?_⟩
  · rcases List.mem_append.1 hxm with hm | hm
    · refine ((h.part x hm).ext hx).near fun k hk => hb k (hsp k (List.mem_flatMap.2 ⟨x, hm, hk⟩)).2 fun e => h.own k e (List.mem_flatMap.2 ⟨x, hm, hk⟩)
    · rw [List.mem_singleton] at hm
      subst hm
      refine (hv.mono hlo).near fun k hk => hb k (hv.span k hk).2 fun e => ?_
      have := (hol k e).2
      have := (hv.span k hk).1
      omega
  · rw [show blksP (os ++ [(d, v)]) = blksP os ++ Aloof.blks v by simp [blksP]]
    refine List.nodup_append.2 ⟨h.nod, ?_, fun a ha' b hb' e => ?_⟩
    · obtain ⟨b1, a1, n1, c1, b2, a2, n2, c2, b3, a3, n3, c3, b4, a4, n4, c4, e, h1, h2, h3⟩ := hv
      exact h3
    · have := (h.span a ha').2
      have := (hv.span b hb').1
      omega
  · rw [show blksP (os ++ [(d, v)]) = blksP os ++ Aloof.blks v by simp [blksP]] at hm
    rcases ha with ha | ha
    · rw [ha] at hgo
      rcases List.mem_append.1 hm with hm | hm
      · exact h.own g hgo hm
      · have := (hol g hgo).2
        have := (hv.span g hm).1
        omega
    · rw [ha] at hgo
      cases hgo
      rcases List.mem_append.1 hm with hm | hm
      · have := (hsp _ hm).2
        omega
      · have := (hv.span _ hm).2
        omega
theorem before_lt : ∀ (a b : List UInt8), bytesBefore a b = true → a < b
  | [], [], h => by simp [bytesBefore] at h
  | [], _ :: _, _ => List.nil_lt_cons ..
  | _ :: _, [], h => by simp [bytesBefore] at h
  | a :: r, b :: s, h => by
    simp only [bytesBefore, Bool.or_eq_true, decide_eq_true_eq, Bool.and_eq_true, beq_iff_eq] at h
    rw [List.cons_lt_cons_iff]
    rcases h with h | ⟨rfl, h⟩
    · exact .inl h
    · exact .inr ⟨rfl, before_lt r s h⟩
/-- The names, sorted, are the names as the list has them. -/
theorem names_sorted {es : List (PD × Value)} (hr : Rising es) {ss : List (List UInt8)} (hp : ss.Perm (strKeys (.map (es.map entM)))) : ss.mergeSort (fun x y => decide (x ≤ y)) = es.map fun x => x.1.nm.data.toList := by
  have e : strKeys (.map (es.map entM)) = es.map fun x => x.1.nm.data.toList := by
    show (es.map entM).map (fun p => strOf p.1) = _
    rw [List.map_map]
    rfl
  rw [e] at hp
  have h1 := mergeSort_of_perm hp
  show ss.mergeSort leB = _
  rw [h1]
  refine List.mergeSort_of_pairwise ?_
  rw [List.pairwise_map]
  exact hr.imp fun {a b} hab => by
    simp only [decide_eq_true_eq]
    exact List.le_of_lt (before_lt _ _ hab)
theorem findP_mem {es : List (PD × Value)} (hr : Rising es) : ∀ {x}, x ∈ es → findP x.1.nm es = some x := by
  induction es with
  | nil => intro x hx; cases hx
  | cons y r ih =>
    intro x hx
    obtain ⟨h1, h2⟩ := List.pairwise_cons.1 hr
    unfold findP
    rw [List.find?_cons]
    by_cases hn : nameIs x.1.nm y = true
    · rw [hn]
      rcases List.mem_cons.1 hx with rfl | hx
      · rfl
      · have := h1 x hx
        unfold nameIs at hn
        rw [beq_iff_eq] at hn
        rw [hn, WideAt.bytes_irrefl] at this
        cases this
    · rw [Bool.not_eq_true] at hn
      rw [hn]
      rcases List.mem_cons.1 hx with rfl | hx
      · unfold nameIs at hn
        simp at hn
      · exact ih h2 hx
theorem news_cells (w : World) (cs : List Value) (T : TypeId) : ∀ j u, cs[j]? = some u → (w.alloc (.cells cs.toArray T)).cell? (Addr.add ⟨w.heap.size, 0, none⟩ j) = some u := by
  intro j u hj
  have h : (w.alloc (.cells cs.toArray T)).heap[w.heap.size]? = some (.cells cs.toArray T (0, 0)) := heap_alloc_new _ _
  have e : (Addr.add ⟨w.heap.size, 0, none⟩ j) = ⟨w.heap.size, j, none⟩ := by
    unfold Addr.add
    by_cases h0 : j = 0
    · subst h0; rfl
    · simp [h0]
  rw [e]
  have := row16_cells h j
  rw [this]
  simpa using hj
theorem part_one (d : PD) (p q : FV) : ∀ u ∈ ([.string d.nm, .int .u8 d.kd, .bool p.b1, .slice p.a1 p.n1 p.c1, .bool p.b2, .slice p.a2 p.n2 p.c2, .bool q.b1, .slice q.a1 q.n1 q.c1, .bool q.b2, .slice q.a2 q.n2 q.c2, .int .i64 d.co] : List Value), u.oneCell' = true := by
  intro u hu
  simp only [List.mem_cons, List.not_mem_nil, or_false] at hu
  rcases hu with rfl | rfl | rfl | rfl | rfl | rfl | rfl | rfl | rfl | rfl | rfl <;> rfl
end Go.Proofs.YtkkfgphcmnhabaaGreatDoor
namespace Go.Proofs.YtkkfgphcmnhabaaGreatDoor
set_option maxRecDepth 100000
open Go Go.RowKit Go.Proofs
/-- A part as it may come in. -/
structure RD where
  nm : ByteArray
  kd : Int
  co : Int
  op : Option Rat
  oq : Option Rat
def goesD (r : RD) : Option PD := match r.op, r.oq with
  | some p, some q => if nameB r.nm.data.toList && mayP r.kd r.co (some p) (some q) then some ⟨r.nm, r.kd, p, q, r.co⟩ else none
  | _, _ => none
def sameN (d : PD) (x : PD) : Bool := x.nm.data.toList == d.nm.data.toList
def stepIn (ins : List PD) (r : RD) : List PD := match goesD r with
  | none => ins
  | some d => if ins.any (sameN d) then ins else if 64 ≤ ins.length then ins else ins ++ [d]
def fillD (rs : List RD) : List PD := rs.foldl stepIn []
theorem fillD_snoc (rs : List RD) (r : RD) : fillD (rs ++ [r]) = stepIn (fillD rs) r := by simp [fillD, List.foldl_append]
theorem find_perm {es : List (PD × Value)} {ins : List PD} (h : (es.map (·.1)).Perm ins) (d : PD) : (findP d.nm es).isSome = ins.any (sameN d) := by
  rw [← h.any_eq, List.any_map]
  unfold findP
  rw [List.isSome_find?]
  rfl
theorem insP_perm (x : PD × Value) : ∀ es : List (PD × Value), (insP x es).Perm (x :: es)
  | [] => by unfold insP; exact List.Perm.refl _
  | y :: r => by
    unfold insP
    split
    · exact List.Perm.refl _
    · exact ((insP_perm x r).cons y).trans (List.Perm.swap ..)
theorem ins_perm {es : List (PD × Value)} {ins : List PD} (h : (es.map (·.1)).Perm ins) (d : PD) (v : Value) : ((insP (d, v) es).map (·.1)).Perm (ins ++ [d]) := by
  refine ((insP_perm (d, v) es).map (·.1)).trans ?_
  rw [List.map_cons]
  exact (h.cons d).trans (List.perm_append_singleton d ins).symm
theorem find_at {es : List (PD × Value)} {ins : List PD} (hr : Rising es) (h : (es.map (·.1)).Perm ins) {d : PD} (hd : d ∈ ins) : ∃ v, findP d.nm es = some (d, v) ∧ (d, v) ∈ es := by
  obtain ⟨⟨d', v⟩, hx, e⟩ := List.mem_map.1 (h.mem_iff.2 hd)
  simp only at e
  subst e
  exact ⟨v, findP_mem hr hx, hx⟩
end Go.Proofs.YtkkfgphcmnhabaaGreatDoor
namespace Go.Proofs.YtkkfgphcmnhabaaGreatDoor
set_option maxRecDepth 100000
open Go Go.RowKit Go.Proofs
/-- A matrix of four fractions that reads so. -/
def MatR (w : World) (v : Value) (a b c d : Rat) : Prop :=
  ∃ P1 P2 P3 P4 P5 P6 P7 P8 Q1 Q2 Q3 Q4 Q5 Q6 Q7 Q8 S1 S2 S3 S4 S5 S6 S7 S8 T1 T2 T3 T4 T5 T6 T7 T8, v = .agg #[.bool P1, .slice P2 P3 P4, .bool P5, .slice P6 P7 P8, .bool Q1, .slice Q2 Q3 Q4, .bool Q5, .slice Q6 Q7 Q8, .bool S1, .slice S2 S3 S4, .bool S5, .slice S6 S7 S8, .bool T1, .slice T2 T3 T4, .bool T5, .slice T6 T7 T8] ∧ FracR w (.agg #[.bool P1, .slice P2 P3 P4, .bool P5, .slice P6 P7 P8]) a ∧ FracR w (.agg #[.bool Q1, .slice Q2 Q3 Q4, .bool Q5, .slice Q6 Q7 Q8]) b ∧ FracR w (.agg #[.bool S1, .slice S2 S3 S4, .bool S5, .slice S6 S7 S8]) c ∧ FracR w (.agg #[.bool T1, .slice T2 T3 T4, .bool T5, .slice T6 T7 T8]) d
theorem MatR.ext {w w' : World} {v : Value} {a b c d : Rat} (h : MatR w v a b c d) (e : Ext w w') : MatR w' v a b c d := by
  obtain ⟨P1, P2, P3, P4, P5, P6, P7, P8, Q1, Q2, Q3, Q4, Q5, Q6, Q7, Q8, S1, S2, S3, S4, S5, S6, S7, S8, T1, T2, T3, T4, T5, T6, T7, T8, h0, h1, h2, h3, h4⟩ := h
  exact ⟨P1, P2, P3, P4, P5, P6, P7, P8, Q1, Q2, Q3, Q4, Q5, Q6, Q7, Q8, S1, S2, S3, S4, S5, S6, S7, S8, T1, T2, T3, T4, T5, T6, T7, T8, h0, h1.ext e, h2.ext e, h3.ext e, h4.ext e⟩
end Go.Proofs.YtkkfgphcmnhabaaGreatDoor
namespace Go.Proofs.YtkkfgphcmnhabaaGreatDoor
set_option maxRecDepth 100000
open Go Go.RowKit Go.Proofs
set_option maxHeartbeats 1600000 in
theorem intSize_c (b : Bool) (a : Option Addr) (n c : Nat) (w : World) (hn : n ≤ 140737488355328) :
    Calls Tryz.prog 68 #[.agg #[.bool b, .slice a n c]] w fun e w' => e = .returned (.int .i64 (1 + n)) ∧ Ext w w' := by
  have FE := mkHid ((Ext.refl w).al (.cells #[.bool b, .slice a n c] 32))
  go_enter Tryz.func68, Tryz.ntmps68
  go_wp2_with fail
  go_ret
  exact ⟨by trivial, FE.out⟩
def lowV (n m : Nat) : Int := Int.tdiv ((min (n : Int) 1048576) * (min (m : Int) 1048576)) 16 * 1024
theorem lowV_b (n m : Nat) : 0 ≤ lowV n m ∧ lowV n m ≤ 70368744177664 := by
  unfold lowV
  obtain ⟨x, hx⟩ : ∃ x : Int, x = min (n : Int) 1048576 := ⟨_, rfl⟩
  obtain ⟨y, hy⟩ : ∃ y : Int, y = min (m : Int) 1048576 := ⟨_, rfl⟩
  rw [← hx, ← hy]
  have h1 : 0 ≤ x ∧ x ≤ 1048576 := by omega
  have h2 : 0 ≤ y ∧ y ≤ 1048576 := by omega
  have h3 : 0 ≤ x * y := Int.mul_nonneg h1.1 h2.1
  have h4 : x * y ≤ 1048576 * 1048576 := Int.mul_le_mul h1.2 h2.2 h2.1 (by omega)
  rw [Int.tdiv_eq_ediv_of_nonneg h3]
  omega
theorem low_wrap (n m : Nat) : RowKit.wrap64 (RowKit.wrap64 ((RowKit.wrap64 (min (n : Int) 1048576 * min (m : Int) 1048576)).tdiv 16) * 1024) = lowV n m := by
  have hb := lowV_b n m
  unfold lowV at *
  have h1 : 0 ≤ min (n : Int) 1048576 ∧ min (n : Int) 1048576 ≤ 1048576 := by omega
  have h2 : 0 ≤ min (m : Int) 1048576 ∧ min (m : Int) 1048576 ≤ 1048576 := by omega
  generalize min (n : Int) 1048576 = x at *
  generalize min (m : Int) 1048576 = y at *
  have h3 : 0 ≤ x * y := Int.mul_nonneg h1.1 h2.1
  have h4 : x * y ≤ 1048576 * 1048576 := Int.mul_le_mul h1.2 h2.2 h2.1 (by omega)
  have e : (x * y).tdiv 16 = x * y / 16 := Int.tdiv_eq_ediv_of_nonneg h3
  rw [e] at hb ⊢
  rw [IntWalk.wrap64_in (x * y) (by omega), e, IntWalk.wrap64_in (x * y / 16) (by omega), IntWalk.wrap64_in _ (by omega)]
set_option maxHeartbeats 1600000 in
theorem lowest_c (b b' : Bool) (a a' : Option Addr) (n c n' c' : Nat) (w : World) (_hn : n ≤ 140737488355328) (_hn' : n' ≤ 140737488355328) :
    Calls Tryz.prog 36 #[.agg #[.bool b, .slice a n c], .agg #[.bool b', .slice a' n' c']] w fun e w' => e = .returned (.int .i64 (lowV n n')) ∧ Ext w w' := by
  have FE := mkHid (((Ext.refl w).al (.cells #[.bool b, .slice a n c] 32)).al (.cells #[.bool b', .slice a' n' c'] 32))
  go_enter Tryz.func36, Tryz.ntmps36
  go_wp2_with fail
  go_ret
  exact ⟨ret1_eq (low_wrap n n'), FE.out⟩
set_option maxHeartbeats 1600000 in
theorem fracSize_c (b b' : Bool) (a a' : Option Addr) (n c n' c' : Nat) (w : World) (hn : n ≤ 140737488355328) (hn' : n' ≤ 140737488355328) :
    Calls Tryz.prog 35 #[.agg #[.bool b, .slice a n c, .bool b', .slice a' n' c']] w fun e w' => e = .returned (.int .i64 (1 + n + (1 + n'))) ∧ Ext w w' := by
  have k1 := mkHid (fun w => intSize_c b a n c w hn)
  have k2 := mkHid (fun w => intSize_c b' a' n' c' w hn')
  go_enter Tryz.func35, Tryz.ntmps35
  go_wp2_with fail
  obtain ⟨wb, hwb⟩ : ∃ wb, wb = w.alloc (.cells #[.bool b, .slice a n c, .bool b', .slice a' n' c'] 34) := ⟨_, rfl⟩
  have hE : Ext w wb := by rw [hwb]; exact (Ext.refl w).al _
  have c0 : ∀ W, Ext wb W → W.cell? ⟨w.heap.size, 0, none⟩ = some (.bool b) := fun W e => e.cell (by rw [hwb]; go_simp)
  have c1 : ∀ W, Ext wb W → W.cell? ⟨w.heap.size, 1, none⟩ = some (.slice a n c) := fun W e => e.cell (by rw [hwb]; go_simp)
  have c2 : ∀ W, Ext wb W → W.cell? ⟨w.heap.size, 2, none⟩ = some (.bool b') := fun W e => e.cell (by rw [hwb]; go_simp)
  have c3 : ∀ W, Ext wb W → W.cell? ⟨w.heap.size, 3, none⟩ = some (.slice a' n' c') := fun W e => e.cell (by rw [hwb]; go_simp)
  rw [← hwb]
  replace hE := mkHid hE
  clear hwb
  apply region_ext [.val _, .val _, .val (.int .i64 (1 + n)), .val _, .val _, .val (.int .i64 (1 + n')), .val (.int .i64 (1 + n + (1 + n')))] (by kernel_rfl) (stable_vals _ (stable_vals _ (stable_vals _ (stable_vals _ (stable_vals _ (stable_vals _ (stable_vals _ trivial)))))))
  iterate 2 (refine ⟨fun W hW _ => by go_simp; exact ⟨Ext.refl _, rfl⟩, ?_⟩)
  refine ⟨fun W hW _ => ?g2, ?_⟩
  case g2 =>
    go_simp
    refine (k1.out W).mono ?_
    rintro e w' ⟨rfl, h1⟩
    exact ⟨rfl, h1⟩
  iterate 2 (refine ⟨fun W hW _ => by go_simp; exact ⟨Ext.refl _, rfl⟩, ?_⟩)
  refine ⟨fun W hW _ => ?g5, ⟨fun W hW _ => by go_simp; exact ⟨Ext.refl _, by rw [IntKind.wrap_i64]; omega⟩, ?_⟩⟩
  case g5 =>
    go_simp
    refine (k2.out W).mono ?_
    rintro e w' ⟨rfl, h1⟩
    exact ⟨rfl, h1⟩
  intro W hW _
  clear c0 c1 c2 c3
  replace hE := mkHid (hE.out.trans hW)
  clear hW
  go_simp
  go_wp2_with fail
  go_ret
  exact ⟨by trivial, hE.out⟩
/-- What a fraction of these lengths costs. -/
def costV (n n' : Nat) : Int := 1 + n + (1 + n') + lowV n n'
set_option maxHeartbeats 1600000 in
theorem fracCost_c (b b' : Bool) (a a' : Option Addr) (n c n' c' : Nat) (w : World) (hn : n ≤ 140737488355328) (hn' : n' ≤ 140737488355328) :
    Calls Tryz.prog 16 #[.agg #[.bool b, .slice a n c, .bool b', .slice a' n' c']] w fun e w' => e = .returned (.int .i64 (costV n n')) ∧ Ext w w' := by
  have k1 := mkHid (fun w => fracSize_c b b' a a' n c n' c' w hn hn')
  have k2 := mkHid (fun w => lowest_c b b' a a' n c n' c' w hn hn')
  obtain ⟨S, hS⟩ : ∃ S : Int, S = 1 + n + (1 + n') := ⟨_, rfl⟩
  have hb := lowV_b n n'
  unfold costV
  rw [← hS] at k1
  rw [← hS]
  generalize lowV n n' = L at *
  have hS0 : 0 ≤ S ∧ S ≤ 562949953421312 := by omega
  clear hS hn hn'
  obtain ⟨hb1, hb2⟩ := hb
  obtain ⟨hS1, hS2⟩ := hS0
  go_enter Tryz.func16, Tryz.ntmps16
  go_wp2_with fail
  obtain ⟨wb, hwb⟩ : ∃ wb, wb = w.alloc (.cells #[.bool b, .slice a n c, .bool b', .slice a' n' c'] 34) := ⟨_, rfl⟩
  have hE : Ext w wb := by rw [hwb]; exact (Ext.refl w).al _
  have c0 : ∀ W, Ext wb W → W.cell? ⟨w.heap.size, 0, none⟩ = some (.bool b) := fun W e => e.cell (by rw [hwb]; go_simp)
  have c1 : ∀ W, Ext wb W → W.cell? ⟨w.heap.size, 1, none⟩ = some (.slice a n c) := fun W e => e.cell (by rw [hwb]; go_simp)
  have c2 : ∀ W, Ext wb W → W.cell? ⟨w.heap.size, 2, none⟩ = some (.bool b') := fun W e => e.cell (by rw [hwb]; go_simp)
  have c3 : ∀ W, Ext wb W → W.cell? ⟨w.heap.size, 3, none⟩ = some (.slice a' n' c') := fun W e => e.cell (by rw [hwb]; go_simp)
  rw [← hwb]
  replace hE := mkHid hE
  clear hwb
  apply region_ext [.val _, .val (.int .i64 S), .val _, .val _, .val _, .val _, .val (.int .i64 L), .val (.int .i64 (S + L))] (by kernel_rfl) (stable_vals _ (stable_vals _ (stable_vals _ (stable_vals _ (stable_vals _ (stable_vals _ (stable_vals _ (stable_vals _ trivial))))))))
  refine ⟨fun W hW _ => by go_simp; exact ⟨Ext.refl _, rfl⟩, ⟨fun W hW _ => ?g1, ?_⟩⟩
  case g1 =>
    go_simp
    refine (k1.out W).mono ?_
    rintro e w' ⟨rfl, h1⟩
    exact ⟨rfl, h1⟩
  iterate 4 (refine ⟨fun W hW _ => by go_simp; exact ⟨Ext.refl _, rfl⟩, ?_⟩)
  refine ⟨fun W hW _ => ?g5, ⟨fun W hW _ => by go_simp; exact ⟨Ext.refl _, by rw [IntKind.wrap_i64]; omega⟩, ?_⟩⟩
  case g5 =>
    go_simp
    refine (k2.out W).mono ?_
    rintro e w' ⟨rfl, h1⟩
    exact ⟨rfl, h1⟩
  intro W hW _
  clear c0 c1 c2 c3
  replace hE := mkHid (hE.out.trans hW)
  clear hW
  go_simp
  go_wp2_with fail
  go_ret
  exact ⟨by trivial, hE.out⟩
end Go.Proofs.YtkkfgphcmnhabaaGreatDoor
namespace Go.Proofs.YtkkfgphcmnhabaaGreatDoor
set_option maxRecDepth 100000
open Go Go.RowKit Go.Proofs
theorem costV_b (n m : Nat) (hn : n ≤ 140737488355328) (hm : m ≤ 140737488355328) : 0 ≤ costV n m ∧ costV n m ≤ 562949953421312 ∧ (n : Int) ≤ costV n m ∧ (m : Int) ≤ costV n m := by
  have := lowV_b n m
  unfold costV
  omega

/-- What Beyond answers: 'false' only of what is small enough. -/
def ByV (s : Int) (v : Value) : Prop := ∃ r, v = .bool r ∧ (r = false → s ≤ 1048576)
set_option maxHeartbeats 1600000 in
theorem beyond1_c (g cap : Nat) (x : Int) (w : World) (h0 : 0 ≤ x) (h1 : x ≤ 4503599627370496) (hc : w.cell? ⟨g, 0, none⟩ = some (.int .i64 x)) :
    Calls Tryz.prog 15 #[.slice (some ⟨g, 0, none⟩) 1 cap] w fun e w' => ∃ v, e = .returned v ∧ Ext w w' ∧ ByV x v := by
  have FE := mkHid (Ext.refl w)
  by_cases hx : 1048576 < x
  · have hb : ByV x (.bool true) := ⟨true, rfl, fun h => by cases h⟩
    replace hb := mkHid hb
    go_enter Tryz.func15, Tryz.ntmps15
    go_wp2_with fail
    refine wp_loop_rounds 2 ?_
    rw [rounds_succ]
    go_wp2_with fail
    go_ret
    exact ⟨_, rfl, FE.out, hb.out⟩
  · have hb : ByV x (.bool false) := ⟨false, rfl, fun _ => by omega⟩
    replace hb := mkHid hb
    go_enter Tryz.func15, Tryz.ntmps15
    go_wp2_with fail
    refine wp_loop_rounds 2 ?_
    rw [rounds_succ]
    go_wp2_with fail
    rw [rounds_succ]
    go_wp2_with fail
    go_ret
    exact ⟨_, rfl, FE.out, hb.out⟩
theorem AnyF.lens {w : World} {b1 b2 : Bool} {a1 a2 : Option Addr} {n1 c1 n2 c2 : Nat} {o : Option Rat} (h : AnyF w (.agg #[.bool b1, .slice a1 n1 c1, .bool b2, .slice a2 n2 c2]) o) : n1 ≤ 4294967296 ∧ n2 ≤ 4294967296 := by
  obtain ⟨x1, l1, x2, l2, ⟨y1, z1, y2, z2, e, h2, h3, -, -⟩, -⟩ := h
  simp only [Value.agg.injEq, Array.mk.injEq, List.cons.injEq, and_true, Value.slice.injEq] at e
  omega
end Go.Proofs.YtkkfgphcmnhabaaGreatDoor
namespace Go.Proofs.YtkkfgphcmnhabaaGreatDoor
set_option maxRecDepth 100000
open Go Go.RowKit Go.Proofs
/-- A value of api.Frac with limbs of whatever number. -/
def RawF (w : World) (v : Value) : Prop :=
  ∃ b1 a1 c1 b2 a2 c2, ∃ l1 l2 : List Nat, v = .agg #[.bool b1, .slice a1 l1.length c1, .bool b2, .slice a2 l2.length c2] ∧ l1.length ≤ 140737488355328 ∧ l2.length ≤ 140737488355328 ∧
    AnyR w (.agg #[.bool b1, .slice a1 l1.length c1]) b1 l1 ∧ AnyR w (.agg #[.bool b2, .slice a2 l2.length c2]) b2 l2
theorem RawF.opened {w : World} {v : Value} (h : RawF w v) : ∃ b1 a1 n1 c1 b2 a2 n2 c2, v = .agg #[.bool b1, .slice a1 n1 c1, .bool b2, .slice a2 n2 c2] ∧ n1 ≤ 140737488355328 ∧ n2 ≤ 140737488355328 ∧
    (n1 ≤ 4294967296 → n2 ≤ 4294967296 → ∃ o, AnyF w (.agg #[.bool b1, .slice a1 n1 c1, .bool b2, .slice a2 n2 c2]) o) := by
  obtain ⟨b1, a1, c1, b2, a2, c2, l1, l2, h0, h1, h2, h3, h4⟩ := h
  exact ⟨b1, a1, _, c1, b2, a2, _, c2, h0, h1, h2, fun g1 g2 => ⟨_, b1, l1, b2, l2, ⟨a1, c1, a2, c2, rfl, g1, g2, h3, h4⟩, rfl⟩⟩
theorem lf_one {w : World} {g : Nat} {b1 b2 : Bool} {a1 a2 : Option Addr} {n1 c1 n2 c2 : Nat} {o : Option Rat} {T : Nat} (hg : w.heap[g]? = some (.cells #[.bool b1, .slice a1 n1 c1, .bool b2, .slice a2 n2 c2] T (0, 0)))
    (h : AnyF w (.agg #[.bool b1, .slice a1 n1 c1, .bool b2, .slice a2 n2 c2]) o) : LF w g [o] := by
  intro k hk
  obtain rfl : k = 0 := by simpa using hk
  have := row4_cells hg
  exact ⟨_, _, _, _, _, _, _, _, this.1, this.2.1, this.2.2.1, this.2.2.2, h⟩
theorem st_var {ss : List FSpec} (b : Nat) (cs : Array Value) (T : TypeId) (h : StableAll Ext ss) : StableAll Ext (.pred (VarAt b cs T) :: ss) := ⟨fun _ _ _ e h => VarAt.ext h e, h⟩
end Go.Proofs.YtkkfgphcmnhabaaGreatDoor
namespace Go.Proofs.YtkkfgphcmnhabaaGreatDoor
set_option maxRecDepth 100000
open Go Go.ChangeShapes Go.WideShapes Go.ChangeAt Go.RowKit Go.Joins Go.Deep
theorem cells_u32 : Tryz.prog.cellsOf 146 = 1 := by kernel_rfl
theorem bytes_u32 : Tryz.prog.bytesOf 146 = 4 := by kernel_rfl
theorem cells_bool : Tryz.prog.cellsOf 4 = 1 := by kernel_rfl
theorem cells_mag : Tryz.prog.cellsOf 30 = 1 := by kernel_rfl
theorem cells_int : Tryz.prog.cellsOf 32 = 2 := by kernel_rfl
theorem cells_frac : Tryz.prog.cellsOf 34 = 4 := by kernel_rfl
theorem reach_le : reachBytes ≤ 140737488355328 := Nat.le_trans (Nat.le_of_lt reachBytes_lt) (Nat.le_of_eq (by kernel_rfl))
section
variable {H : Type} {enc : TypeId × Value → H} {w : World} {base : Nat} {spare : Nat → Bool} {held : Bool}
theorem open_mag {fuel : Nat} {cs : List Value} {x : DataW H × List MemPlace} (h : DataW.trod enc Tryz.prog w base spare held fuel 30 cs = some x) :
    ∃ (a : Option Addr) (c : Nat) (l : List Nat), cs = [.slice a l.length c] ∧ OkL l ∧ l.length ≤ c ∧ Row w a (limV l) ∧ ∀ M, (∀ k ∈ x.1.weights Tryz.prog 30, k ≤ M) → l.length * 4 ≤ M := by
  rcases open_slice Tryz.underlying30 h with ⟨rfl, _⟩ | ⟨a, len, cap, m, n, D, Pl, rfl, hb, hl, hm, hmm, rfl, hi⟩
  · exact ⟨none, 0, [], rfl, okL_nil, Nat.le_refl _, row_nil w, fun M _ => by simp⟩
  · have hlm : len ≤ m := by rw [hmm]; split <;> omega
    have hcell : ∀ i, i < len → ∃ b : Nat, b < 4294967296 ∧ w.cell? (a.add i) = some (.int .u32 (b : Int)) := by
      intro i hlt
      obtain ⟨cs', h1, h2⟩ := hi i (by omega)
      obtain ⟨b, rfl, _, hwf⟩ := DataW.trod_int Tryz.underlying146 h2
      rw [cells_u32] at h1
      obtain ⟨_, _, hat⟩ := World.cells?_some h1
      have := hat 0 (by omega)
      have hb2 : 0 ≤ b ∧ b ≤ 4294967295 := by
        have h : IntKind.u32.min ≤ b ∧ b ≤ IntKind.u32.max := by simpa [Lit.wf] using hwf
        have e1 : IntKind.u32.min = 0 := rfl
        have e2 : IntKind.u32.max = 4294967295 := rfl
        omega
      obtain ⟨b', rfl⟩ := Int.eq_ofNat_of_zero_le hb2.1
      refine ⟨b', by omega, ?_⟩
      simpa [Addr.add] using this
    have hlist : (List.range len).map (fun i => match w.cell? (a.add i) with | some (.int _ b) => b.toNat | _ => 0) = (List.range len).map (fun i => match w.cell? (a.add i) with | some (.int _ b) => b.toNat | _ => 0) := rfl
    refine ⟨some a, cap, (List.range len).map (fun i => match w.cell? (a.add i) with | some (.int _ b) => b.toNat | _ => 0), by simp, ?_, by simpa using hl, ?_, ?_⟩
    · intro y hy
      obtain ⟨i, hi', rfl⟩ := List.mem_map.1 hy
      obtain ⟨b, hb1, hb2⟩ := hcell i (List.mem_range.1 hi')
      simp only [hb2]
      simpa using hb1
    · refine ⟨a.block, a.off, fun hne => ?_, fun j hj => ?_⟩
      · have h0 : 0 < len := by
          rcases Nat.eq_zero_or_pos len with h | h
          · subst h; simp [limV] at hne
          · exact h
        obtain ⟨b, _, hb'⟩ := hcell 0 h0
        obtain ⟨bl, of, sp⟩ := a
        have : sp = none := by simpa [Addr.add] using World.cell?_spot hb'
        subst this
        rfl
      · have hj' : j < len := by simpa [limV] using hj
        obtain ⟨b, _, hb'⟩ := hcell j hj'
        have hadd : a.add j = ⟨a.block, a.off + j, none⟩ := by
          obtain ⟨bl, of, sp⟩ := a
          have : sp = none ∨ j ≠ 0 := by
            rcases Nat.eq_zero_or_pos j with h | h
            · subst h
              exact .inl (by simpa [Addr.add] using World.cell?_spot hb')
            · exact .inr (by omega)
          unfold Addr.add
          split
          · rename_i h
            rcases this with h2 | h2
            · simp [h, h2]
            · exact absurd h h2
          · rfl
        rw [← hadd, hb']
        simp [limV, hj', hb']
    · intro M hM
      have := hM ((len + (m - len)) * Tryz.prog.bytesOf 146) (by simp [DataW.weights, Tryz.underlying30])
      rw [bytes_u32] at this
      simp only [List.length_map, List.length_range]
      omega
theorem list_two {α : Type} {l : List α} (h : l.length = 2) : ∃ a b, l = [a, b] := by
  match l, h with
  | [a, b], _ => exact ⟨a, b, rfl⟩
theorem list_four {α : Type} {l : List α} (h : l.length = 4) : ∃ a b c d, l = [a, b, c, d] := by
  match l, h with
  | [a, b, c, d], _ => exact ⟨a, b, c, d, rfl⟩
theorem open_int2 {fuel : Nat} {cs : List Value} {x : DataW H × List MemPlace} (h : DataW.trod enc Tryz.prog w base spare held fuel 32 cs = some x) :
    ∃ (b : Bool) (a : Option Addr) (c : Nat) (l : List Nat), cs = [.bool b, .slice a l.length c] ∧ OkL l ∧ l.length ≤ c ∧ Row w a (limV l) ∧ ∀ M, (∀ k ∈ x.1.weights Tryz.prog 32, k ≤ M) → l.length * 4 ≤ M := by
  obtain ⟨xs, n, _, rfl, hlen, hxl, hf⟩ := DataW.trod_struct Tryz.underlying32 h
  rw [cells_int] at hlen
  obtain ⟨c0, c1, rfl⟩ := list_two hlen
  obtain ⟨y0, y1, rfl⟩ := list_two hxl
  have h0 : DataW.trod enc Tryz.prog w base spare held n 4 (([c0, c1].drop 0).take (Tryz.prog.cellsOf 4)) = some y0 := hf 0 _ rfl
  have h1 : DataW.trod enc Tryz.prog w base spare held n 30 (([c0, c1].drop 1).take (Tryz.prog.cellsOf 30)) = some y1 := hf 1 _ rfl
  rw [cells_bool] at h0
  rw [cells_mag] at h1
  obtain ⟨b, hb, _⟩ := DataW.trod_bool Tryz.underlying4 h0
  obtain ⟨a, c, l, hs, hk, hc, hr, hM⟩ := open_mag h1
  simp at hb hs
  subst hb hs
  refine ⟨b, a, c, l, rfl, hk, hc, hr, fun M h => hM M fun k hk => h k ?_⟩
  simp [DataW.weights, Tryz.underlying32, DataW.weightsEach, hk]
theorem open_frac4 {fuel : Nat} {cs : List Value} {x : DataW H × List MemPlace} (h : DataW.trod enc Tryz.prog w base spare held fuel 34 cs = some x) :
    ∃ v1 v2 v3 v4, cs = [v1, v2, v3, v4] ∧ ∀ M, (∀ k ∈ x.1.weights Tryz.prog 34, k ≤ M) → M ≤ 140737488355328 → RawF w (.agg #[v1, v2, v3, v4]) := by
  obtain ⟨xs, n, _, rfl, hlen, hxl, hf⟩ := DataW.trod_struct Tryz.underlying34 h
  rw [cells_frac] at hlen
  obtain ⟨c0, c1, c2, c3, rfl⟩ := list_four hlen
  obtain ⟨y0, y1, rfl⟩ := list_two hxl
  have h0 : DataW.trod enc Tryz.prog w base spare held n 32 (([c0, c1, c2, c3].drop 0).take (Tryz.prog.cellsOf 32)) = some y0 := hf 0 _ rfl
  have h1 : DataW.trod enc Tryz.prog w base spare held n 32 (([c0, c1, c2, c3].drop 2).take (Tryz.prog.cellsOf 32)) = some y1 := hf 1 _ rfl
  rw [cells_int] at h0 h1
  obtain ⟨b1, a1, m1, l1, hs1, hk1, hc1, hr1, hM1⟩ := open_int2 h0
  obtain ⟨b2, a2, m2, l2, hs2, hk2, hc2, hr2, hM2⟩ := open_int2 h1
  simp at hs1 hs2
  obtain ⟨rfl, rfl⟩ := hs1
  obtain ⟨rfl, rfl⟩ := hs2
  refine ⟨_, _, _, _, rfl, fun M h hM => ?_⟩
  have g1 := hM1 M fun k hk => h k (by simp [DataW.weights, Tryz.underlying34, DataW.weightsEach, hk])
  have g2 := hM2 M fun k hk => h k (by simp [DataW.weights, Tryz.underlying34, DataW.weightsEach, hk])
  exact ⟨b1, a1, m1, b2, a2, m2, l1, l2, rfl, by omega, by omega, ⟨a1, m1, rfl, hk1, hc1, hr1⟩, ⟨a2, m2, rfl, hk2, hc2, hr2⟩⟩
set_option maxRecDepth 100000 in
/-- A fraction that came in. -/
theorem rawF_of {r : Reach} {b0 : Nat} {v : Value} {d : DataW H} {p : List MemPlace} (hv : Value.okWide Tryz.prog w r b0 34 v) (h : DataW.Trod enc Tryz.prog w base spare held 34 v d p)
    (hM : ∀ k ∈ d.weights Tryz.prog 34, k ≤ reachBytes) : RawF w v := by
  obtain ⟨cs, rfl, _⟩ := okWide_struct Tryz.underlying34 hv
  obtain ⟨fuel, hh⟩ := h
  obtain ⟨v1, v2, v3, v4, hcs, hR⟩ := open_frac4 hh
  have : cs = #[v1, v2, v3, v4] := by
    apply Array.toList_inj.1
    simpa [Value.cells] using hcs
  subst this
  exact hR reachBytes hM reach_le
end
end Go.Proofs.YtkkfgphcmnhabaaGreatDoor
namespace Go.Proofs.YtkkfgphcmnhabaaGreatDoor
set_option maxRecDepth 100000
open Go Go.ChangeShapes Go.WideShapes Go.ChangeAt Go.RowKit Go.Joins Go.Deep
theorem cells_elem : Tryz.prog.cellsOf 36 = 9 := by kernel_rfl
theorem cells_part : Tryz.prog.cellsOf 38 = 11 := by kernel_rfl
theorem cells_kind : Tryz.prog.cellsOf 29 = 1 := by kernel_rfl
theorem cells_str : Tryz.prog.cellsOf 9 = 1 := by kernel_rfl
theorem cells_int64 : Tryz.prog.cellsOf 3 = 1 := by kernel_rfl
theorem list_3 {α : Type} {l : List α} (h : l.length = 3) : ∃ c0 c1 c2, l = [c0, c1, c2] := by
  match l, h with
  | [c0, c1, c2], _ => exact ⟨c0, c1, c2, rfl⟩
theorem list_9 {α : Type} {l : List α} (h : l.length = 9) : ∃ c0 c1 c2 c3 c4 c5 c6 c7 c8, l = [c0, c1, c2, c3, c4, c5, c6, c7, c8] := by
  match l, h with
  | [c0, c1, c2, c3, c4, c5, c6, c7, c8], _ => exact ⟨c0, c1, c2, c3, c4, c5, c6, c7, c8, rfl⟩
theorem list_11 {α : Type} {l : List α} (h : l.length = 11) : ∃ c0 c1 c2 c3 c4 c5 c6 c7 c8 c9 c10, l = [c0, c1, c2, c3, c4, c5, c6, c7, c8, c9, c10] := by
  match l, h with
  | [c0, c1, c2, c3, c4, c5, c6, c7, c8, c9, c10], _ => exact ⟨c0, c1, c2, c3, c4, c5, c6, c7, c8, c9, c10, rfl⟩
section
variable {H : Type} {enc : TypeId × Value → H} {w : World} {base : Nat} {spare : Nat → Bool} {held : Bool}
theorem open_elem {fuel : Nat} {cs : List Value} {x : DataW H × List MemPlace} (h : DataW.trod enc Tryz.prog w base spare held fuel 36 cs = some x) :
    ∃ (kd : Int) (p1 p2 p3 p4 q1 q2 q3 q4 : Value), cs = [.int .u8 kd, p1, p2, p3, p4, q1, q2, q3, q4] ∧ ∀ M, (∀ k ∈ x.1.weights Tryz.prog 36, k ≤ M) → M ≤ 140737488355328 → RawF w (.agg #[p1, p2, p3, p4]) ∧ RawF w (.agg #[q1, q2, q3, q4]) := by
  obtain ⟨xs, n, _, rfl, hlen, hxl, hf⟩ := DataW.trod_struct Tryz.underlying36 h
  rw [cells_elem] at hlen
  obtain ⟨c0, c1, c2, c3, c4, c5, c6, c7, c8, rfl⟩ := list_9 hlen
  obtain ⟨y0, y1, y2, rfl⟩ := list_3 hxl
  have h0 : DataW.trod enc Tryz.prog w base spare held n 29 (([c0, c1, c2, c3, c4, c5, c6, c7, c8].drop 0).take (Tryz.prog.cellsOf 29)) = some y0 := hf 0 _ rfl
  have h1 : DataW.trod enc Tryz.prog w base spare held n 34 (([c0, c1, c2, c3, c4, c5, c6, c7, c8].drop 1).take (Tryz.prog.cellsOf 34)) = some y1 := hf 1 _ rfl
  have h2 : DataW.trod enc Tryz.prog w base spare held n 34 (([c0, c1, c2, c3, c4, c5, c6, c7, c8].drop 5).take (Tryz.prog.cellsOf 34)) = some y2 := hf 2 _ rfl
  rw [cells_kind] at h0
  rw [cells_frac] at h1 h2
  obtain ⟨kd, e0, _, _⟩ := DataW.trod_int Tryz.underlying29 h0
  have e0' : [c0] = [.int .u8 kd] := e0
  simp only [List.cons.injEq, and_true] at e0'
  subst e0'
  obtain ⟨v1, v2, v3, v4, e1, f1⟩ := open_frac4 h1
  have e1' : [c1, c2, c3, c4] = [v1, v2, v3, v4] := e1
  simp only [List.cons.injEq, and_true] at e1'
  obtain ⟨rfl, rfl, rfl, rfl⟩ := e1'
  obtain ⟨v5, v6, v7, v8, e2, f2⟩ := open_frac4 h2
  have e2' : [c5, c6, c7, c8] = [v5, v6, v7, v8] := e2
  simp only [List.cons.injEq, and_true] at e2'
  obtain ⟨rfl, rfl, rfl, rfl⟩ := e2'
  exact ⟨kd, _, _, _, _, _, _, _, _, rfl, fun M h hM => ⟨f1 M (fun k hk => h k (by simp [DataW.weights, Tryz.underlying36, DataW.weightsEach, hk])) hM, f2 M (fun k hk => h k (by simp [DataW.weights, Tryz.underlying36, DataW.weightsEach, hk])) hM⟩⟩
theorem open_part {fuel : Nat} {cs : List Value} {x : DataW H × List MemPlace} (h : DataW.trod enc Tryz.prog w base spare held fuel 38 cs = some x) :
    ∃ (pn : ByteArray) (kd : Int) (p1 p2 p3 p4 q1 q2 q3 q4 : Value) (co : Int), cs = [.string pn, .int .u8 kd, p1, p2, p3, p4, q1, q2, q3, q4, .int .i64 co] ∧ ∀ M, (∀ k ∈ x.1.weights Tryz.prog 38, k ≤ M) → M ≤ 140737488355328 → pn.size ≤ M ∧ RawF w (.agg #[p1, p2, p3, p4]) ∧ RawF w (.agg #[q1, q2, q3, q4]) := by
  obtain ⟨xs, n, _, rfl, hlen, hxl, hf⟩ := DataW.trod_struct Tryz.underlying38 h
  rw [cells_part] at hlen
  obtain ⟨c0, c1, c2, c3, c4, c5, c6, c7, c8, c9, c10, rfl⟩ := list_11 hlen
  obtain ⟨y0, y1, y2, rfl⟩ := list_3 hxl
  have h0 : DataW.trod enc Tryz.prog w base spare held n 9 (([c0, c1, c2, c3, c4, c5, c6, c7, c8, c9, c10].drop 0).take (Tryz.prog.cellsOf 9)) = some y0 := hf 0 _ rfl
  have h1 : DataW.trod enc Tryz.prog w base spare held n 36 (([c0, c1, c2, c3, c4, c5, c6, c7, c8, c9, c10].drop 1).take (Tryz.prog.cellsOf 36)) = some y1 := hf 1 _ rfl
  have h2 : DataW.trod enc Tryz.prog w base spare held n 3 (([c0, c1, c2, c3, c4, c5, c6, c7, c8, c9, c10].drop 10).take (Tryz.prog.cellsOf 3)) = some y2 := hf 2 _ rfl
  rw [cells_str] at h0
  rw [cells_elem] at h1
  rw [cells_int64] at h2
  obtain ⟨pn, e0, hy, _⟩ := DataW.trod_string Tryz.underlying9 h0
  have e0' : [c0] = [.string pn] := e0
  simp only [List.cons.injEq, and_true] at e0'
  subst e0'
  obtain ⟨kd, v1, v2, v3, v4, v5, v6, v7, v8, e1, f1⟩ := open_elem h1
  have e1' : [c1, c2, c3, c4, c5, c6, c7, c8, c9] = [.int .u8 kd, v1, v2, v3, v4, v5, v6, v7, v8] := e1
  simp only [List.cons.injEq, and_true] at e1'
  obtain ⟨rfl, rfl, rfl, rfl, rfl, rfl, rfl, rfl, rfl⟩ := e1'
  obtain ⟨co, e2, _, _⟩ := DataW.trod_int Tryz.underlying3 h2
  have e2' : [c10] = [.int .i64 co] := e2
  simp only [List.cons.injEq, and_true] at e2'
  subst e2'
  exact ⟨pn, kd, _, _, _, _, _, _, _, _, co, rfl, fun M h hM => ⟨h _ (by simp [DataW.weights, Tryz.underlying38, DataW.weightsEach, hy]), f1 M (fun k hk => h k (by simp [DataW.weights, Tryz.underlying38, DataW.weightsEach, hk])) hM⟩⟩
end
end Go.Proofs.YtkkfgphcmnhabaaGreatDoor
namespace Go.Proofs.YtkkfgphcmnhabaaGreatDoor
set_option maxRecDepth 100000
open Go Go.ChangeShapes Go.WideShapes Go.ChangeAt Go.RowKit Go.Joins Go.Deep
/-- A part as it came in. -/
def RawPart (w : World) (v : Value) : Prop := ∃ (nm : ByteArray) (kd co : Int) (p q : FV), v = .agg #[.string nm, .int .u8 kd, .bool p.b1, .slice p.a1 p.n1 p.c1, .bool p.b2, .slice p.a2 p.n2 p.c2, .bool q.b1, .slice q.a1 q.n1 q.c1, .bool q.b2, .slice q.a2 q.n2 q.c2, .int .i64 co] ∧ nm.size ≤ 140737488355328 ∧ RawF w (.agg #[.bool p.b1, .slice p.a1 p.n1 p.c1, .bool p.b2, .slice p.a2 p.n2 p.c2]) ∧ RawF w (.agg #[.bool q.b1, .slice q.a1 q.n1 q.c1, .bool q.b2, .slice q.a2 q.n2 q.c2])
def cellsV (vs : List Value) : List Value := vs.flatMap fun v => v.cells.toList
theorem cellsV_cons (v : Value) (vs : List Value) : cellsV (v :: vs) = v.cells.toList ++ cellsV vs := List.flatMap_cons
theorem cellsV_append (a b : List Value) : cellsV (a ++ b) = cellsV a ++ cellsV b := List.flatMap_append
def Is11 (vs : List Value) : Prop := ∀ v ∈ vs, ∃ (nm : ByteArray) (kd co : Int) (p q : FV), v = .agg #[.string nm, .int .u8 kd, .bool p.b1, .slice p.a1 p.n1 p.c1, .bool p.b2, .slice p.a2 p.n2 p.c2, .bool q.b1, .slice q.a1 q.n1 q.c1, .bool q.b2, .slice q.a2 q.n2 q.c2, .int .i64 co]
theorem cellsV_len : ∀ {vs : List Value}, Is11 vs → (cellsV vs).length = vs.length * 11
  | [], _ => rfl
  | v :: r, h => by
    obtain ⟨nm, kd, co, p, q, e⟩ := h v (List.mem_cons_self ..)
    have ih := cellsV_len (vs := r) fun y hy => h y (List.mem_cons_of_mem _ hy)
    rw [cellsV_cons, List.length_append, ih, e, List.length_cons]
    show 11 + _ = _
    omega
/-- The cells of one value in the list's row. -/
theorem cellsV_at {vs : List Value} (h : Is11 vs) {i : Nat} (hi : i < vs.length) (j : Nat) (hj : j < 11) : (cellsV vs)[i * 11 + j]? = vs[i].cells[j]? := by
  have e : vs = vs.take i ++ vs[i] :: vs.drop (i + 1) := by rw [← List.drop_eq_getElem_cons hi, List.take_append_drop]
  have h1 : (cellsV (vs.take i)).length = i * 11 := by
    rw [cellsV_len (fun v hv => h v (List.mem_of_mem_take hv)), List.length_take]
    congr 1
    omega
  have hc : vs[i].cells.size = 11 := by
    obtain ⟨nm, kd, co, p, q, e⟩ := h vs[i] (List.getElem_mem hi)
    rw [e]
    rfl
  have hcl : vs[i].cells.toList.length = 11 := by simpa using hc
  have e2 : cellsV vs = cellsV (vs.take i) ++ (vs[i].cells.toList ++ cellsV (vs.drop (i + 1))) := by
    rw [← cellsV_cons, ← cellsV_append, ← e]
  rw [e2, List.getElem?_append_right (by omega), h1, List.getElem?_append_left (by omega)]
  rw [show i * 11 + j - i * 11 = j by omega]
  simp
structure InL (w : World) (s : Value) (vs : List Value) : Prop where
  at' : ∃ a c, s = .slice a vs.length c ∧ vs.length ≤ c ∧ Row w a (cellsV vs)
  len : vs.length ≤ 1099511627776
  raw : ∀ v ∈ vs, RawPart w v
theorem RawPart.shape {w : World} {v : Value} (h : RawPart w v) : ∃ (nm : ByteArray) (kd co : Int) (p q : FV), v = .agg #[.string nm, .int .u8 kd, .bool p.b1, .slice p.a1 p.n1 p.c1, .bool p.b2, .slice p.a2 p.n2 p.c2, .bool q.b1, .slice q.a1 q.n1 q.c1, .bool q.b2, .slice q.a2 q.n2 q.c2, .int .i64 co] := by
  obtain ⟨nm, kd, co, p, q, e, -⟩ := h
  exact ⟨nm, kd, co, p, q, e⟩
theorem InL.is {w : World} {s : Value} {vs : List Value} (h : InL w s vs) : Is11 vs := fun v hv => (h.raw v hv).shape
theorem RawF.shape {w : World} {v : Value} (h : RawF w v) : ∃ f : FV, v = .agg #[.bool f.b1, .slice f.a1 f.n1 f.c1, .bool f.b2, .slice f.a2 f.n2 f.c2] := by
  obtain ⟨b1, a1, c1, b2, a2, c2, l1, l2, e, -⟩ := h
  exact ⟨⟨b1, a1, _, c1, b2, a2, _, c2⟩, e⟩
theorem bytes_part : Tryz.prog.bytesOf 38 = 160 := by kernel_rfl
theorem weightsAll_mem {H : Type} {P : Program} {e : TypeId} : ∀ {l : List (DataW H)} {d : DataW H} {k : Nat}, d ∈ l → k ∈ d.weights P e → k ∈ DataW.weightsAll P e l
  | [], _, _, h, _ => by cases h
  | x :: r, d, k, h, hk => by
    rw [DataW.weightsAll]
    rcases List.mem_cons.1 h with rfl | h
    · exact List.mem_append_left _ hk
    · exact List.mem_append_right _ (weightsAll_mem h hk)
section
variable {H : Type} {enc : TypeId × Value → H} {w : World} {base : Nat} {spare : Nat → Bool} {held : Bool}
theorem open_parts {fuel : Nat} {cs : List Value} {x : DataW H × List MemPlace} (h : DataW.trod enc Tryz.prog w base spare held fuel 22 cs = some x) (M : Nat) (hw : ∀ k ∈ x.1.weights Tryz.prog 22, k ≤ M) (hM : M ≤ 140737488355328) :
    ∃ s vs, cs = [s] ∧ InL w s vs := by
  rcases open_slice Tryz.underlying22 h with ⟨rfl, _⟩ | ⟨a, len, cap, m, n, D, Pl, rfl, hb, hl, hm, hmm, rfl, hi⟩
  · exact ⟨_, [], rfl, ⟨none, 0, rfl, Nat.le_refl _, row_nil w⟩, by simp, fun v hv => by cases hv⟩
  · have hlm : len ≤ m := by rw [hmm]; split <;> omega
    have hwt : len * 160 ≤ M := by
      have := hw ((len + (m - len)) * Tryz.prog.bytesOf 38) (by simp [DataW.weights, Tryz.underlying22])
      rw [bytes_part] at this
      exact Nat.le_trans (Nat.mul_le_mul_right _ (by omega)) this
    have each : ∀ i, i < len → ∃ v, RawPart w v ∧ ∀ j, j < 11 → w.cell? (a.add (i * 11 + j)) = v.cells[j]? := by
      intro i hlt
      obtain ⟨cs', h1, h2⟩ := hi i (by omega)
      obtain ⟨nm, kd, p1, p2, p3, p4, q1, q2, q3, q4, co, rfl, hx⟩ := open_part h2
      rw [cells_part] at h1
      obtain ⟨_, _, hat⟩ := World.cells?_some h1
      have hwi : ∀ k ∈ (D i).weights Tryz.prog 38, k ≤ M := by
        intro k hk
        refine hw k ?_
        have : D i ∈ (List.range len).map D := List.mem_map.2 ⟨i, List.mem_range.2 hlt, rfl⟩
        simp only [DataW.weights, Tryz.underlying22]
        exact List.mem_cons_of_mem _ (List.mem_append_left _ (weightsAll_mem this hk))
      obtain ⟨hs, f1, f2⟩ := hx M hwi hM
      obtain ⟨p, e1⟩ := f1.shape
      obtain ⟨q, e2⟩ := f2.shape
      simp only [Value.agg.injEq, Array.mk.injEq, List.cons.injEq, and_true] at e1 e2
      obtain ⟨rfl, rfl, rfl, rfl⟩ := e1
      obtain ⟨rfl, rfl, rfl, rfl⟩ := e2
      refine ⟨.agg #[.string nm, .int .u8 kd, .bool p.b1, .slice p.a1 p.n1 p.c1, .bool p.b2, .slice p.a2 p.n2 p.c2, .bool q.b1, .slice q.a1 q.n1 q.c1, .bool q.b2, .slice q.a2 q.n2 q.c2, .int .i64 co], ⟨nm, kd, co, p, q, rfl, Nat.le_trans hs hM, f1, f2⟩, fun j hj => ?_⟩
      have := hat j hj
      have hadd : (a.add (i * 11)).add j = a.add (i * 11 + j) := by
        unfold Addr.add
        by_cases h1 : i * 11 = 0 <;> by_cases h2 : j = 0 <;> simp [h1, h2, Nat.add_assoc] <;> omega
      rw [hadd] at this
      rw [this]
      simp [Value.cells]
    obtain ⟨vs, hvl, hve⟩ : ∃ vs : List Value, vs.length = len ∧ ∀ i (h : i < vs.length), RawPart w vs[i] ∧ ∀ j, j < 11 → w.cell? (a.add (i * 11 + j)) = vs[i].cells[j]? := by
      clear hi hl hm hmm hlm hwt hw h
      induction len with
      | zero => exact ⟨[], rfl, fun i h => absurd h (Nat.not_lt_zero _)⟩
      | succ n ih =>
        obtain ⟨vs, h1, h2⟩ := ih (fun i hi => each i (by omega))
        obtain ⟨v, h3, h4⟩ := each n (by omega)
        refine ⟨vs ++ [v], by simp [h1], fun i hi => ?_⟩
        rcases Nat.lt_or_ge i vs.length with h | h
        · rw [List.getElem_append_left h]
          exact h2 i h
        · have : i = n := by simp at hi; omega
          subst this
          rw [List.getElem_append_right h]
          simp only [h1, Nat.sub_self, List.getElem_cons_zero]
          exact ⟨h3, h4⟩
    subst hvl
    have hraw : ∀ v ∈ vs, RawPart w v := fun v hv => by
      obtain ⟨i, hi', rfl⟩ := List.mem_iff_getElem.1 hv
      exact (hve i hi').1
    have his : Is11 vs := fun v hv => (hraw v hv).shape
    have hcell : ∀ j, j < (cellsV vs).length → w.cell? (a.add j) = some ((cellsV vs).getD j undef) := by
      intro j hj
      rw [cellsV_len his] at hj
      have hq : j / 11 < vs.length := by omega
      have hr : j % 11 < 11 := by omega
      have e : j = j / 11 * 11 + j % 11 := by omega
      have h1 := (hve _ hq).2 _ hr
      have h2 := cellsV_at his hq _ hr
      rw [← e] at h1 h2
      rw [h1, ← h2, List.getD_eq_getElem?_getD, List.getElem?_eq_getElem (by rw [cellsV_len his]; exact hj)]
      rfl
    have hspot : (cellsV vs) ≠ [] → a = ⟨a.block, a.off, none⟩ := by
      intro hne
      have h0 : 0 < (cellsV vs).length := List.length_pos_iff.2 hne
      have := hcell 0 h0
      obtain ⟨bl, of, sp⟩ := a
      have : sp = none := by simpa [Addr.add] using World.cell?_spot this
      subst this
      rfl
    refine ⟨_, vs, rfl, ⟨some a, cap, rfl, hl, a.block, a.off, fun hne => by rw [← hspot hne], fun j hj => ?_⟩, by omega, hraw⟩
    have hne : cellsV vs ≠ [] := by intro e; rw [e] at hj; simp at hj
    have hadd : a.add j = ⟨a.block, a.off + j, none⟩ := by
      rw [hspot hne]
      unfold Addr.add
      split
      · rename_i h; simp [h]
      · rfl
    rw [← hadd]
    exact hcell j hj
end
end Go.Proofs.YtkkfgphcmnhabaaGreatDoor
namespace Go.Proofs.YtkkfgphcmnhabaaGreatDoor
set_option maxRecDepth 100000
open Go Go.RowKit Go.Proofs
theorem fr_load_mid {P : Program} {S : World → Value → Prop} {o : Oper} {a : Act} {W : World} {X : Prop} {c : Prop} {ic : Decidable c} (hw : c) (ty : TypeId) (x : Operand) (ho : o.op = .load ty x)
    (b k : Nat) (hx : a.eval x = .pointer (some ⟨b, k, none⟩)) (cs : List Value) (d : TypeDesc) (hc : W.rangeAt b k cs)
    (hu : P.underlying ty = some d) (hd : d.isRow = true) (hi : (P.info? ty).map (·.size) = some cs.length)
    (h : S W (.agg cs.toArray)) : if c then givesV P S ((execOp a.eval o).run P W) else X := by
  rw [if_pos hw]
  unfold execOp
  simp only [ho, hx, Instr.loadAt, Instr.sureAddr, Sem.run_bind, Sem.run_pure, Result.andThen_ok, run_loadVar_mid W b k ty cs d hc hu hd hi]
  exact h
theorem rangeAt_ext {w w' : World} {b o : Nat} {cs : List Value} (h : w.rangeAt b o cs) (e : Ext w w') : w'.rangeAt b o cs := fun j v hv => e.cell (h j v hv)
theorem rangeAt_sub {w : World} {b o : Nat} {cs : List Value} (h : w.rangeAt b o cs) (k n : Nat) : w.rangeAt b (o + k) ((cs.drop k).take n) := fun j v hv => by
  have h1 : cs[k + j]? = some v := by
    rw [List.getElem?_take] at hv
    split at hv
    · rwa [List.getElem?_drop] at hv
    · cases hv
  have := h (k + j) v h1
  rwa [← Nat.add_assoc] at this
/-- One part of a list that came in. -/
theorem InL.get {w : World} {s : Value} {vs : List Value} (h : InL w s vs) {k : Nat} (hk : k < vs.length) : ∃ b o c, s = .slice (some ⟨b, o, none⟩) vs.length c ∧ vs.length ≤ c ∧ w.rangeAt b (o + k * 11) vs[k].cells.toList := by
  obtain ⟨a, c, rfl, hc, b, o, ha, hr⟩ := h.at'
  have hl := cellsV_len h.is
  have hne : cellsV vs ≠ [] := by intro e; rw [e, List.length_nil] at hl; omega
  obtain rfl := ha hne
  refine ⟨b, o, c, rfl, hc, fun j v hv => ?_⟩
  have hcl : vs[k].cells.toList.length = 11 := by
    obtain ⟨nm, kd, co, p, q, e⟩ := h.is vs[k] (List.getElem_mem hk)
    rw [e]
    rfl
  have hj : j < 11 := by have := (List.getElem?_eq_some_iff.1 hv).1; omega
  have h1 := hr (k * 11 + j) (by omega)
  have h2 := cellsV_at h.is hk j hj
  rw [List.getD_eq_getElem?_getD, h2] at h1
  have h3 : vs[k].cells[j]? = some v := by simpa using hv
  rw [h3] at h1
  rw [Nat.add_assoc]
  exact h1
theorem InL.ext {w w' : World} {s : Value} {vs : List Value} (h : InL w s vs) (e : Ext w w') : InL w' s vs := by
  obtain ⟨⟨a, c, h1, h2, h3⟩, hl, hr⟩ := h
  refine ⟨⟨a, c, h1, h2, h3.ext e⟩, hl, fun v hv => ?_⟩
  obtain ⟨nm, kd, co, p, q, e0, hs, f1, f2⟩ := hr v hv
  have go : ∀ {u : Value}, RawF w u → RawF w' u := by
    rintro u ⟨b1, a1, c1, b2, a2, c2, l1, l2, g0, g1, g2, g3, g4⟩
    exact ⟨b1, a1, c1, b2, a2, c2, l1, l2, g0, g1, g2, g3.ext e, g4.ext e⟩
  exact ⟨nm, kd, co, p, q, e0, hs, go f1, go f2⟩
theorem InL.slice {w : World} {s : Value} {vs : List Value} (h : InL w s vs) : ∃ a c, s = .slice a vs.length c ∧ vs.length ≤ c := by
  obtain ⟨a, c, h1, h2, -⟩ := h.at'
  exact ⟨a, c, h1, h2⟩
end Go.Proofs.YtkkfgphcmnhabaaGreatDoor
