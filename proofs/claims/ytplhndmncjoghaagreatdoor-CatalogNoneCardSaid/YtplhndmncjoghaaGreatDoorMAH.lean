/-
  Regions that draw their order, in which one plain move may float past the tail: no program. Printed by tools/gen_pre.py out of XFree. period: (*row).on. period: many. period: the lengths of the numbers in the recurrence: no program. period: Chebyshev, where it refuses. period: Chebyshev, where it reckons. ray: det, pair: printed by tools/gen_ratio.py. ray: Check. law01: SameFrac, SameMatrix, SameRay: printed by tools/gen_same.py. law01: TwinFrac, TwinRay, TwinMatrix, LeftFrac, LeftRay, LeftMatrix: printed by tools/gen_twin.py. law01: TwinFrac, once more: the twin's rows lie apart. law01: TwinElement, TwinPart (the twins' rows lie apart), LeftElement, LeftPart: printed by tools/gen_part.py. Contracts of the comparing helpers: math.IsNaN, SameFloat, SameComplex.
-/
import Derived.Test.YtplhndmncjoghaaGreatDoorMAA
import Derived.Test.YtplhndmncjoghaaGreatDoorMAG
import Derived.Test.YtplhndmncjoghaaGreatDoorMAF
import Derived.Deep.LoopGhost
import Derived.Test.YtplhndmncjoghaaGreatDoorProg
namespace Go.Proofs.YtplhndmncjoghaaGreatDoor.Pre
set_option maxRecDepth 100000
open Go Go.RowKit Go.Proofs.YtplhndmncjoghaaGreatDoor
def okOper (pre : List Nat) (l : List Oper) (n i : Nat) (o : Oper) : Bool :=
  (o.after.toList.all fun e => !Region.binds .any e || decide (e.on < i)) &&
  (if i < n then
    o.dst.isSome && (List.range l.length).all fun j => match l[j]? with
      | some oj => (match oj.dst with
        | some d => (!(o.looksAt l.toArray).contains d || (decide (j < i) && hasEdge o j)) && (j == i || o.dst != some d)
        | none => true)
      | none => true
  else (List.range i).all fun j => pre.contains j || ancB l 16 o j)
def okFree (pre : List Nat) (n size : Nat) (l : List Oper) : Bool :=
  Region.noSelect l.toArray && decide (n ≤ l.length) && (l.all fun o => match o.dst with | some d => decide (d < size) | none => true) &&
    (List.range l.length).all fun i => match l[i]? with | some o => okOper pre l n i o | none => true
section
variable {pre : List Nat} {P : Program} {l0 : List Oper} {R : World → World → Prop} {w0 : World} {Q : Exit → Act → World → Prop}
theorem tail_forced {n : Nat} (htail : ∀ i o, n ≤ i → l0[i]? = some o → ∀ j, j < i → j ∈ pre ∨ ancB l0 16 o j = true) :
    ∀ (k m : Nat) (listed : Array Bool) (a : Act) (W : World) (fuel : Nat), n ≤ m → m + k = l0.length → k ≤ fuel → listed.size = l0.length → (∀ j ∈ pre, listed.getD j false = true) →
      (∀ i o, listed.getD i false = true → l0[i]? = some o → ∀ e ∈ o.after, Region.binds .any e = true → listed.getD e.on false = true) →
      (∀ i, i < l0.length → (listed.getD i false = true ↔ i < m)) →
      (∀ i o, l0[i]? = some o → ∀ e ∈ o.after, Region.binds .any e = true → e.on < i) →
      wpList P l0.toArray Q (l0.drop m) a W → wpAny P .any l0.toArray Q fuel listed a W := by
  intro k
  induction k with
  | zero =>
    intro m listed a W fuel _ hmk _ hsz _ _ hlst _ h
    have hr : Region.ready .any l0.toArray listed = [] := by
      cases hr : Region.ready .any l0.toArray listed with
      | nil => rfl
      | cons i r =>
        have := (mem_ready (md := .any) (ops := l0.toArray) (listed := listed) (j := i)).1 (by rw [hr]; simp)
        have hlt := lt_of_unlisted this.1
        have h2 := (hlst i (by omega)).2 (by omega)
        have h3 := this.1
        simp [hlt] at h2 h3
        rw [h2] at h3
        cases h3
    rw [List.drop_eq_nil_of_le (show l0.length ≤ m by omega)] at h
    exact wpAny_done hr h fuel
  | succ k ih =>
    intro m listed a W fuel hnm hmk hfuel hsz hpre hcl hlst hed h
    obtain ⟨fuel, rfl⟩ : ∃ f, fuel = f + 1 := ⟨fuel - 1, by omega⟩
    have hml : m < l0.length := by omega
    have ho : l0[m]? = some l0[m] := List.getElem?_eq_getElem hml
    have hun : listed.getD m true = false := by
      rcases listed_cases (listed := listed) (i := m) (by omega) with h1 | h1
      · have := (hlst m hml).1 h1; omega
      · exact h1
    have hready : m ∈ Region.ready .any l0.toArray listed := by
      rw [mem_ready]
      exact ⟨hun, _, by simp [hml], fun e he hb => (hlst e.on (by have := hed m _ ho e he hb; omega)).2 (hed m _ ho e he hb)⟩
    refine ⟨fun h0 => absurd (h0 ▸ hready) (by simp), fun i hi => ?_⟩
    have him : i = m := by
      obtain ⟨h1, o, ho', hall⟩ := mem_ready.1 hi
      have hlt := lt_of_unlisted h1
      rcases Nat.lt_trichotomy i m with hlt' | he | hgt
      · have h2 := (hlst i (by omega)).2 hlt'
        simp [hlt] at h1 h2
        rw [h2] at h1; cases h1
      · exact he
      · have ho'' : l0[i]? = some o := by simpa using ho'
        have := (htail i o (by omega) ho'' m hgt).elim (fun hp => hpre m hp) (listed_anc hcl 16 o m hall)
        have := (hlst m hml).1 this
        omega
    subst him
    unfold wpOp
    simp only [List.getElem?_toArray, ho]
    rw [List.drop_eq_getElem_cons hml] at h
    simp only [wpList] at h
    have next : ∀ a' W', wpList P l0.toArray Q (l0.drop (i + 1)) a' W' → wpAny P .any l0.toArray Q fuel (listed.setIfInBounds i true) a' W' := by
      intro a' W' h'
      refine ih (i + 1) _ a' W' fuel (by omega) (by omega) (by omega) (by simpa using hsz) (fun j hj => getD_set_true (hpre j hj)) ?_ ?_ hed h'
      · intro j o hj hoj e he hb
        by_cases hij : i = j
        · subst hij
          rw [ho] at hoj
          cases hoj
          exact getD_set_true ((hlst e.on (by have := hed i _ ho e he hb; omega)).2 (hed i _ ho e he hb))
        · rw [getD_set_ne false hij] at hj
          exact getD_set_true (hcl j o hj hoj e he hb)
      · intro j hj
        by_cases hij : i = j
        · subst hij
          simp [show i < listed.size by omega]
        · rw [getD_set_ne false hij, hlst j hj]
          omega
    split
    · rename_i hw
      rw [if_pos hw] at h
      exact h.imp (Oper.wp_mono next) id
    · rename_i hw
      rw [if_neg hw] at h
      exact next _ _ h
structure OkSpec (pre : List Nat) (l : List Oper) (n size : Nat) : Prop where
  sel : ∀ (j : Nat) (o : Oper) cs b, l[j]? = some o → o.op ≠ .select cs b
  len : n ≤ l.length
  dst : ∀ (j : Nat) (o : Oper) (d : Tmp), l[j]? = some o → o.dst = some d → d < size
  edge : ∀ (i : Nat) (o : Oper), l[i]? = some o → ∀ e ∈ o.after, Region.binds .any e = true → e.on < i
  has : ∀ (i : Nat) (o : Oper), i < n → l[i]? = some o → o.dst.isSome = true
  look : ∀ (i : Nat) (o : Oper) (j : Nat) (oj : Oper) (d : Tmp), i < n → l[i]? = some o → l[j]? = some oj → oj.dst = some d → d ∈ o.looksAt l.toArray → j < i ∧ hasEdge o j = true
  one : ∀ (i : Nat) (o : Oper) (j : Nat) (oj : Oper) (d : Tmp), i < n → l[i]? = some o → l[j]? = some oj → oj.dst = some d → i ≠ j → o.dst ≠ some d
  tail : ∀ (i : Nat) (o : Oper), n ≤ i → l[i]? = some o → ∀ j, j < i → j ∈ pre ∨ ancB l 16 o j = true
theorem okFree_spec {n size : Nat} {l : List Oper} (h : okFree pre n size l = true) : OkSpec pre l n size := by
  simp only [okFree, Bool.and_eq_true, decide_eq_true_eq, List.all_eq_true, List.mem_range] at h
  obtain ⟨⟨⟨h1, h2⟩, h3⟩, h4⟩ := h
  have at_ : ∀ i o, l[i]? = some o → okOper pre l n i o = true := by
    intro i o ho
    have := h4 i (List.getElem?_eq_some_iff.1 ho).1
    rwa [ho] at this
  refine ⟨fun j o cs b hj => Region.noSelect_spec h1 j o cs b (by simpa using hj), h2, ?_, ?_, ?_, ?_, ?_, ?_⟩
  · intro j o d ho hd
    have := h3 o (List.mem_of_getElem? ho)
    simpa [hd] using this
  · intro i o ho e he hb
    have := at_ i o ho
    simp only [okOper, Bool.and_eq_true, List.all_eq_true, Bool.or_eq_true, Bool.not_eq_true', decide_eq_true_eq] at this
    have := this.1 e (Array.mem_toList_iff.2 he)
    rcases this with h | h
    · rw [h] at hb; cases hb
    · exact h
  · intro i o hi ho
    have := at_ i o ho
    simp only [okOper, Bool.and_eq_true, if_pos hi] at this
    exact this.2.1
  · intro i o j oj d hi ho hj hd hm
    have := at_ i o ho
    simp only [okOper, Bool.and_eq_true, if_pos hi, List.all_eq_true, List.mem_range] at this
    have := this.2.2 j (List.getElem?_eq_some_iff.1 hj).1
    simp only [hj, hd, Bool.and_eq_true, Bool.or_eq_true, Bool.not_eq_true', decide_eq_true_eq] at this
    rcases this.1 with h | h
    · have := List.contains_iff_mem.2 hm
      rw [h] at this; cases this
    · exact h
  · intro i o j oj d hi ho hj hd hne
    have := at_ i o ho
    simp only [okOper, Bool.and_eq_true, if_pos hi, List.all_eq_true, List.mem_range] at this
    have := this.2.2 j (List.getElem?_eq_some_iff.1 hj).1
    simp only [hj, hd, Bool.and_eq_true, Bool.or_eq_true, beq_iff_eq, bne_iff_ne, ne_eq] at this
    rcases this.2 with h | h
    · exact absurd h.symm hne
    · exact h
  · intro i o hi ho j hj
    have := at_ i o ho
    simp only [okOper, Bool.and_eq_true, if_neg (Nat.not_lt.2 hi), List.all_eq_true, List.mem_range] at this
    have := this.2 j hj
    rw [Bool.or_eq_true] at this
    exact this.imp (fun h => List.contains_iff_mem.1 h) id
/-- Where a region stands, whatever came first. -/
structure Midway (pre : List Nat) (l : List Oper) (specs : List FSpec) (R : World → World → Prop) (w0 : World) (a0 : Act) (listed : Array Bool) (a : Act) (W : World) : Prop where
  size : listed.size = l.length
  rel : R w0 W
  defers : a.defers = a0.defers
  tsize : a.tmps.size = a0.tmps.size
  closed : ∀ (i : Nat) (o : Oper), listed.getD i false = true → l[i]? = some o → ∀ e ∈ o.after, Region.binds .any e = true → listed.getD e.on false = true
  other : ∀ (t : Tmp), (∀ (j : Nat) (o : Oper), l[j]? = some o → listed.getD j false = true → o.dst ≠ some t) → a.tmps[t]? = a0.tmps[t]?
  fact : ∀ (j : Nat) (o : Oper) (d : Tmp) (s : FSpec), listed.getD j false = true → l[j]? = some o → o.dst = some d → specs[j]? = some s → s.ok W (a.tmps.getD d undef)
  late : ∀ (j : Nat), specs.length ≤ j → listed.getD j false = false
  pre : ∀ j ∈ pre, listed.getD j false = true
theorem Midway.value {specs : List FSpec} {a0 a : Act} {listed : Array Bool} {W : World} (m : Midway pre l0 specs R w0 a0 listed a W) {j : Nat} {o : Oper} {d : Tmp} (hj : listed.getD j false = true) (ho : l0[j]? = some o) (hd : o.dst = some d) :
    a.tmps.getD d undef = valuesOf l0 specs a j := by
  have hlt : j < specs.length := by
    rcases Nat.lt_or_ge j specs.length with h | h
    · exact h
    · rw [m.late j h] at hj; cases hj
  have hs : specs[j]? = some specs[j] := List.getElem?_eq_getElem hlt
  have := m.fact j o d _ hj ho hd hs
  generalize specs[j] = s at this hs
  cases s with
  | val c => simp only [FSpec.ok] at this; simp [valuesOf, hs, this]
  | pred Φ => simp [valuesOf, hs, ho, hd]
theorem Midway.tmp {specs : List FSpec} {a0 a : Act} {listed : Array Bool} {W : World} (m : Midway pre l0 specs R w0 a0 listed a W) (ok : OkSpec pre l0 specs.length a0.tmps.size) (k t : Nat) (hk : k ≤ specs.length)
    (h : ∀ (j : Nat) (oj : Oper), l0[j]? = some oj → oj.dst = some t → j < k ∧ listed.getD j false = true) : (frameAt a0 l0 (valuesOf l0 specs a) k).tmps[t]? = a.tmps[t]? := by
  by_cases hex : ∃ (j : Nat) (oj : Oper), l0[j]? = some oj ∧ oj.dst = some t
  · obtain ⟨j, oj, hj, hd⟩ := hex
    obtain ⟨hjk, hlj⟩ := h j oj hj hd
    have ht := ok.dst j oj t hj hd
    rw [frameAt_own a0 l0 _ k t j oj hjk hj hd ht fun i o' hne ho' hd' => by
      rcases Nat.lt_or_ge i specs.length with hi | hi
      · exact ok.one i o' j oj t hi ho' hj hd hne hd'
      · exact ok.one j oj i o' t (by omega) hj ho' hd' (Ne.symm hne) hd]
    rw [← m.value hlj hj hd]
    have : t < a.tmps.size := by rw [m.tsize]; exact ht
    simp [this]
  · rw [frameAt_other a0 l0 _ k t fun j o _ ho hd => hex ⟨j, o, ho, hd⟩, m.other t fun j o ho _ hd => hex ⟨j, o, ho, hd⟩]
/-- One operation more, none of the tail. -/
theorem Midway.step {specs : List FSpec} {a0 a : Act} {listed : Array Bool} {W : World} (m : Midway pre l0 specs R w0 a0 listed a W) (ok : OkSpec pre l0 specs.length a0.tmps.size) (hrf : ∀ a, R a a) (htr : ∀ a b c, R a b → R b c → R a c)
    (hst : ∀ s ∈ specs, ∀ W W' v, R W W' → s.ok W v → s.ok W' v) (h : freeSteps P l0 R w0 Q 0 specs l0 a0 []) {i : Nat} (hi : i < specs.length) (hr : i ∈ Region.ready .any l0.toArray listed) :
    wpOp P l0.toArray Q i (fun a' W' => Midway pre l0 specs R w0 a0 (listed.setIfInBounds i true) a' W') a W := by
  obtain ⟨hun, o, ho', hedge⟩ := mem_ready.1 hr
  have ho : l0[i]? = some o := by simpa using ho'
  have hil : i < l0.length := (List.getElem?_eq_some_iff.1 ho).1
  have hlt : i < listed.size := by rw [m.size]; exact hil
  have hat := steps_at h (valuesOf l0 specs a) (valuesOf_fits l0 specs a) i (by omega)
  rw [List.drop_eq_getElem_cons hi, List.drop_eq_getElem_cons hil] at hat
  have hs : specs[i]? = some specs[i] := List.getElem?_eq_getElem hi
  have hoi : l0[i] = o := by
    have := List.getElem?_eq_getElem hil
    rw [ho] at this
    exact (Option.some.inj this).symm
  rw [hoi] at hat
  have hfacts : ∀ p ∈ factsAt specs (valuesOf l0 specs a) i, leans l0 o p.1 = true → p.2.1.ok W p.2.2 := by
    intro p hp hl
    obtain ⟨h1, h2, h3⟩ := mem_factsAt hp
    unfold leans at hl
    split at hl
    · rename_i d hd
      obtain ⟨oj, hj, hdj⟩ := Option.bind_eq_some_iff.1 hd
      have hlook := ok.look i o p.1 oj d hi ho hj hdj (List.contains_iff_mem.1 hl)
      have hlj : listed.getD p.1 false = true := listed_anc (l0 := l0) m.closed 0 o p.1 hedge hlook.2
      have := m.fact p.1 oj d p.2.1 hlj hj hdj h2
      rw [h3, ← m.value hlj hj hdj]
      exact this
    · cases hl
  have hsame : ∀ t, t ∈ o.looksAt l0.toArray → (frameAt a0 l0 (valuesOf l0 specs a) i).tmps[t]? = a.tmps[t]? := by
    intro t ht
    refine m.tmp ok i t (by omega) fun j oj hj hdj => ?_
    have hlook := ok.look i o j oj t hi ho hj hdj ht
    exact ⟨hlook.1, listed_anc (l0 := l0) m.closed 0 o j hedge hlook.2⟩
  have hev : execOp (frameAt a0 l0 (valuesOf l0 specs a) i).eval o = execOp a.eval o := eval_of_tmps o (fun cs b => ok.sel i o cs b ho) hsame
  have hwa : Region.wanted o (yielded l0.toArray (frameAt a0 l0 (valuesOf l0 specs a) i).tmps) = Region.wanted o (yielded l0.toArray a.tmps) := wanted_of_tmps o hsame
  -- what is left to show of each value
  have next : ∀ W' v, R W W' → specs[i].ok W' v → Midway pre l0 specs R w0 a0 (listed.setIfInBounds i true) (a.put o.dst v) W' := by
    intro W' v hR hv
    refine ⟨by simpa using m.size, htr _ _ _ m.rel hR, ?_, ?_, ?_, ?_, ?_, ?_, fun j hj => getD_set_true (m.pre j hj)⟩
    · rw [← m.defers]; cases o.dst <;> rfl
    · rw [← m.tsize]; cases hd : o.dst <;> simp [Act.put]
    · intro j oj hj hoj e he hb
      by_cases hij : i = j
      · subst hij
        rw [ho] at hoj; cases hoj
        exact getD_set_true (hedge e he hb)
      · rw [getD_set_ne false hij] at hj
        exact getD_set_true (m.closed j oj hj hoj e he hb)
    · intro t ht
      have hne : o.dst ≠ some t := ht i o ho (by simp [hlt])
      rw [← m.other t fun j oj hoj hj => ht j oj hoj (by
        by_cases hij : i = j
        · subst hij; simp [hlt]
        · rw [getD_set_ne false hij]; exact hj)]
      cases hd : o.dst with
      | none => rfl
      | some d =>
        have : d ≠ t := fun e => hne (by rw [hd, e])
        simp [Act.put, Array.getElem?_setIfInBounds_ne this]
    · intro j oj d s hj hoj hdj hsj
      by_cases hij : i = j
      · subst hij
        rw [ho] at hoj; cases hoj
        rw [hs] at hsj; cases hsj
        have hsz : d < a.tmps.size := by rw [m.tsize]; exact ok.dst i _ d ho hdj
        simpa [Act.put, hdj, hsz] using hv
      · rw [getD_set_ne false hij] at hj
        have hf := m.fact j oj d s hj hoj hdj hsj
        have hf := hst s (List.mem_of_getElem? hsj) _ _ _ hR hf
        have hnd : o.dst ≠ some d := ok.one i o j oj d hi ho hoj hdj hij
        cases hd : o.dst with
        | none => simpa [Act.put] using hf
        | some e =>
          have : e ≠ d := fun e' => hnd (by rw [hd, e'])
          simpa [Act.put, Array.getElem?_setIfInBounds_ne this] using hf
    · intro j hj
      rw [getD_set_ne false (show i ≠ j by omega)]
      exact m.late j hj
  unfold wpOp
  simp only [List.getElem?_toArray, ho]
  generalize hsp : specs[i] = s at hat next
  cases s with
  | val c =>
    simp only [freeSteps] at hat
    have hone := hat.1 W m.rel (factsHold_of hfacts)
    rw [hwa, hev] at hone
    split
    · rename_i hw
      rw [if_pos hw] at hone
      refine .inl (upon_of_gives hone fun w' v hv => next _ _ hv.1 hv.2)
    · rename_i hw
      rw [if_neg hw] at hone
      exact next W undef (hrf W) hone
  | pred Φ =>
    simp only [freeSteps] at hat
    have hone := hat.1 W m.rel (factsHold_of hfacts)
    rw [hwa, hev] at hone
    split
    · rename_i hw
      rw [if_pos hw] at hone
      refine .inl (upon_of_gives hone fun w' v hv => next _ _ hv.1 hv.2)
    · rename_i hw
      rw [if_neg hw] at hone
      exact next W undef (hrf W) hone
/-- All of the front is done, and nothing else: the frame is the lexical walk's. -/
theorem Midway.done {specs : List FSpec} {a0 a : Act} {listed : Array Bool} {W : World} (m : Midway pre l0 specs R w0 a0 listed a W) (ok : OkSpec pre l0 specs.length a0.tmps.size) (hall : ∀ j, j < specs.length → listed.getD j false = true) :
    a = frameAt a0 l0 (valuesOf l0 specs a) specs.length ∧ ∀ p ∈ factsAt specs (valuesOf l0 specs a) specs.length, p.2.1.ok W p.2.2 := by
  refine ⟨?_, fun p hp => ?_⟩
  · obtain ⟨tm, df⟩ := a
    have hdf := frameAt_defers a0 l0 (valuesOf l0 specs ⟨tm, df⟩) specs.length
    have htm : tm = (frameAt a0 l0 (valuesOf l0 specs ⟨tm, df⟩) specs.length).tmps := by
      refine Array.ext_getElem? fun t => ?_
      by_cases hex : ∃ (j : Nat) (oj : Oper), l0[j]? = some oj ∧ oj.dst = some t ∧ specs.length ≤ j
      · obtain ⟨j, oj, hj, hd, hge⟩ := hex
        by_cases hin : ∃ (i : Nat) (oi : Oper), l0[i]? = some oi ∧ oi.dst = some t ∧ i < specs.length
        · obtain ⟨i, oi, hi, hdi, hlt⟩ := hin
          exact absurd hdi (ok.one i oi j oj t hlt hi hj hd (by omega))
        · rw [frameAt_other a0 l0 _ _ t fun i o hi ho hd' => hin ⟨i, o, ho, hd', hi⟩]
          refine m.other t fun i o ho hl hd' => ?_
          rcases Nat.lt_or_ge i specs.length with h | h
          · exact hin ⟨i, o, ho, hd', h⟩
          · rw [m.late i h] at hl; cases hl
      · refine (m.tmp ok specs.length t (Nat.le_refl _) fun j oj hj hd => ?_).symm
        have hlt : j < specs.length := by
          rcases Nat.lt_or_ge j specs.length with h | h
          · exact h
          · exact absurd ⟨j, oj, hj, hd, h⟩ hex
        exact ⟨hlt, hall j hlt⟩
    have h1 : (frameAt a0 l0 (valuesOf l0 specs ⟨tm, df⟩) specs.length).defers = df := by rw [hdf, ← m.defers]
    generalize frameAt a0 l0 (valuesOf l0 specs ⟨tm, df⟩) specs.length = f at htm h1
    obtain ⟨ft, fd⟩ := f
    simp only at htm h1
    rw [htm, h1]
  · obtain ⟨h1, h2, h3⟩ := mem_factsAt hp
    have hil : p.1 < l0.length := by have := ok.len; omega
    have ho : l0[p.1]? = some l0[p.1] := List.getElem?_eq_getElem hil
    rw [h3]
    cases hd : l0[p.1].dst with
    | some d =>
      rw [← m.value (hall p.1 h1) ho hd]
      exact m.fact p.1 _ d _ (hall p.1 h1) ho hd h2
    | none =>
      have := ok.has p.1 _ h1 ho
      simp [hd] at this
theorem free_any {specs : List FSpec} {a0 : Act} (ok : OkSpec pre l0 specs.length a0.tmps.size) (hrf : ∀ a, R a a) (htr : ∀ a b c, R a b → R b c → R a c)
    (hst : ∀ s ∈ specs, ∀ W W' v, R W W' → s.ok W v → s.ok W' v) (h : freeSteps P l0 R w0 Q 0 specs l0 a0 []) :
    ∀ (fuel : Nat) (listed : Array Bool) (a : Act) (W : World), left l0 listed ≤ fuel → Midway pre l0 specs R w0 a0 listed a W → wpAny P .any l0.toArray Q fuel listed a W := by
  have fin : ∀ (listed : Array Bool) (a : Act) (W : World), Midway pre l0 specs R w0 a0 listed a W → (∀ j, j < specs.length → listed.getD j false = true) → wpList P l0.toArray Q (l0.drop specs.length) a W := by
    intro listed a W m hall
    obtain ⟨he, hf⟩ := m.done ok hall
    have hat := steps_at h (valuesOf l0 specs a) (valuesOf_fits l0 specs a) specs.length (Nat.le_refl _)
    rw [List.drop_length] at hat
    simp only [freeSteps] at hat
    have := hat W m.rel (factsHold_of fun p hp _ => hf p hp)
    rwa [← he] at this
  have hlst : ∀ (listed : Array Bool) (a : Act) (W : World), Midway pre l0 specs R w0 a0 listed a W → (∀ j, j < specs.length → listed.getD j false = true) → ∀ i, i < l0.length → (listed.getD i false = true ↔ i < specs.length) := by
    intro listed a W m hall i hi
    constructor
    · intro hl
      rcases Nat.lt_or_ge i specs.length with h | h
      · exact h
      · rw [m.late i h] at hl; cases hl
    · exact hall i
  intro fuel
  induction fuel with
  | zero =>
    intro listed a W hl m
    have hnone : ∀ i, i < l0.length → listed.getD i true = true := by
      intro i hi
      have h0 : ((List.range l0.length).filter fun i => !listed.getD i true) = [] := List.eq_nil_of_length_eq_zero (by unfold left at hl; omega)
      have := List.filter_eq_nil_iff.1 h0 i (List.mem_range.2 hi)
      simpa using this
    have hall : ∀ j, j < specs.length → listed.getD j false = true := by
      intro j hj
      have h1 := hnone j (by have := ok.len; omega)
      rcases listed_cases (listed := listed) (i := j) (by rw [m.size]; have := ok.len; omega) with h2 | h2
      · exact h2
      · rw [h2] at h1; cases h1
    have hn : specs.length = l0.length := by
      rcases Nat.lt_or_ge specs.length l0.length with h1 | h1
      · have h2 := hnone specs.length h1
        have h3 := m.late specs.length (Nat.le_refl _)
        rcases listed_cases (listed := listed) (i := specs.length) (by rw [m.size]; exact h1) with h4 | h4
        · rw [h4] at h3; cases h3
        · rw [h4] at h2; cases h2
      · have := ok.len; omega
    exact tail_forced ok.tail 0 specs.length listed a W 0 (Nat.le_refl _) hn (Nat.le_refl _) m.size m.pre m.closed (hlst _ _ _ m hall) ok.edge (fin _ _ _ m hall)
  | succ fuel ih =>
    intro listed a W hl m
    by_cases hall : ∀ j, j < specs.length → listed.getD j false = true
    · refine tail_forced ok.tail (l0.length - specs.length) specs.length listed a W (fuel + 1) (Nat.le_refl _) (by have := ok.len; omega) ?_ m.size m.pre m.closed (hlst _ _ _ m hall) ok.edge (fin _ _ _ m hall)
      have := left_ge (l := l0) (listed := listed) (n := specs.length) fun i h1 h2 => by
        have := m.late i h1
        have hlt : i < listed.size := by rw [m.size]; exact h2
        simpa [hlt] using this
      omega
    · refine ⟨fun h0 => ?_, fun i hi => ?_⟩
      · refine absurd (fun j => ?_) hall
        induction j using Nat.strongRecOn with
        | _ j ihj =>
          intro hj
          have hjl : j < l0.length := by have := ok.len; omega
          have hoj : l0[j]? = some l0[j] := List.getElem?_eq_getElem hjl
          rcases listed_cases (listed := listed) (i := j) (by rw [m.size]; exact hjl) with h1 | h1
          · exact h1
          · have hm : j ∈ Region.ready .any l0.toArray listed := mem_ready.2 ⟨h1, l0[j], by simp [hjl], fun e he hb => by
              have := ok.edge j _ hoj e he hb
              exact ihj e.on this (by omega)⟩
            rw [h0] at hm
            cases hm
      · obtain ⟨hun, o, ho', hedge⟩ := mem_ready.1 hi
        have hil : i < l0.length := by have := lt_of_unlisted hun; rw [m.size] at this; exact this
        have hn : i < specs.length := by
          rcases Nat.lt_or_ge i specs.length with h1 | h1
          · exact h1
          · exact absurd (fun j hj => (ok.tail i o h1 (by simpa using ho') j (by omega)).elim (fun hp => m.pre j hp) (listed_anc m.closed 16 o j hedge)) hall
        exact wpOp_mono (fun a' W' m' => ih _ a' W' (by have := left_set hil hun; omega) m') (m.step ok hrf htr hst h hn hi)
theorem region_pre {id : Nat} {l : List Oper} {a : Act} {w : World} (R : World → World → Prop) (specs : List FSpec) (k : Nat) (ok : Oper) (d : Tmp) (v : Value) (hm : P.follows .mixedOrders = true) (hok : okFree [k] specs.length a.tmps.size l = true)
    (hk : l[k]? = some ok) (hd : ok.dst = some d) (he : (ok.after.toList.all fun e => !Region.binds .any e) = true) (hs : specs[k]? = some (.val v)) (hns : Region.noSelect l.toArray = true)
    (hf : Region.free .any l.toArray (Array.replicate l.toArray.size false) k = true) (hQ : ∀ c a w, Q (.panic c) (a.put ok.dst v) w → Q (.panic c) a w) (hy : Yields P l.toArray ok v a)
    (hrf : ∀ a, R a a) (htr : ∀ a b c, R a b → R b c → R a c) (hdr : ∀ a, R a a.drew) (hst : ∀ s ∈ specs, ∀ W W' v, R W W' → s.ok W v → s.ok W' v)
    (h : freeSteps P l R w Q 0 specs l a []) : (Code.region id l.toArray true).wp P Q a w := by
  refine wp_region_any hm ?_
  have hsz : l.toArray.size = l.length := by simp
  have hkl : k < l.length := (List.getElem?_eq_some_iff.1 hk).1
  have hks : k < specs.length := (List.getElem?_eq_some_iff.1 hs).1
  have hget : ∀ i : Nat, (Array.replicate l.toArray.size false).getD i false = false := by
    intro i
    rw [Array.getD_eq_getD_getElem?, Array.getElem?_replicate]
    split <;> rfl
  have hno : ∀ e ∈ ok.after, Region.binds .any e = true → False := by
    intro e hm hb
    have := List.all_eq_true.1 he e (Array.mem_toList_iff.2 hm)
    rw [hb] at this
    cases this
  have hok' := okFree_spec hok
  have hdl : d < a.tmps.size := hok'.dst k ok d hk hd
  have hun : (Array.replicate l.toArray.size false).getD k true = false := by simp [hkl]
  obtain ⟨n, hn⟩ : ∃ n, l.toArray.size = n + 1 := ⟨l.length - 1, by rw [hsz]; omega⟩
  have hget1 : ∀ i : Nat, ((Array.replicate l.toArray.size false).setIfInBounds k true).getD i false = true → i = k := by
    intro i hi
    by_cases e : k = i
    · exact e.symm
    · rw [getD_set_ne false e, hget] at hi; cases hi
  have hgk : ((Array.replicate l.toArray.size false).setIfInBounds k true).getD k false = true := by simp [hkl]
  have key : wpAny P .any l.toArray Q n ((Array.replicate l.toArray.size false).setIfInBounds k true) (a.put ok.dst v) w.drew := by
    refine free_any hok' hrf htr hst h _ _ _ _ ?_ ⟨by simp, hdr w, by rw [hd]; rfl, by rw [hd]; simp [Act.put], ?_, ?_, ?_, ?_, ?_⟩
    · have h1 := left_set (l := l) (listed := Array.replicate l.toArray.size false) hkl hun
      have h2 : left l (Array.replicate l.toArray.size false) ≤ n + 1 := by
        unfold left
        refine Nat.le_trans (List.length_filter_le _ _) ?_
        rw [List.length_range, ← hn, hsz]
        exact Nat.le_refl _
      omega
    · intro i o hi ho e hm hb
      obtain rfl := hget1 i hi
      rw [hk] at ho; cases ho
      exact (hno e hm hb).elim
    · intro t ht
      have hne : ok.dst ≠ some t := ht k ok hk hgk
      rw [hd] at hne ⊢
      have : d ≠ t := fun e => hne (by rw [e])
      simp [Act.put, Array.getElem?_setIfInBounds_ne this]
    · intro j o d' s hj ho hd' hsj
      obtain rfl := hget1 j hj
      rw [hk] at ho; cases ho
      rw [hs] at hsj; cases hsj
      rw [hd] at hd'; cases hd'
      simp [FSpec.ok, Act.put, hd, hdl]
    · intro j hj
      rw [getD_set_ne false (show k ≠ j by omega)]
      exact hget j
    · intro j hj
      obtain rfl := List.mem_singleton.1 hj
      exact hgk
  have hr : (Region.ready .any l.toArray (Array.replicate l.toArray.size false)).contains k = true := by
    rw [List.contains_iff_mem]
    exact mem_ready.2 ⟨hun, ok, by simpa using hk, fun e hm hb => (hno e hm hb).elim⟩
  have := wpAny_take (P := P) (md := .any) (ops := l.toArray) (Q := Q) (i := k) (oi := ok) (v := v) (fuel := n) (by simpa using hk) hns hf hr hQ hy key
  rw [hn] at this ⊢
  exact this
end
end Go.Proofs.YtplhndmncjoghaaGreatDoor.Pre
namespace Go.Proofs.YtplhndmncjoghaaGreatDoor
set_option maxRecDepth 100000
open Go Go.RowKit Go.Proofs
theorem st_fracR {ss : List FSpec} (q : Rat) (h : StableAll Ext ss) : StableAll Ext (.pred (fun W v => FracR W v q) :: ss) := ⟨fun _ _ _ e h => FracR.ext h e, h⟩
theorem set8_row {w : World} {g T : Nat} {fr : Nat × Nat} {x0 x1 x2 x3 x4 x5 x6 x7 x8 x9 xa xb u0 u1 u2 u3 u4 u5 u6 u7 : Value} (h : w.heap[g]? = some (.cells #[x0, x1, x2, x3, x4, x5, x6, x7, x8, x9, xa, xb] T fr)) :
    (((((((w.setCell ⟨g, 0, none⟩ u0).setCell ⟨g, 1, none⟩ u1).setCell ⟨g, 2, none⟩ u2).setCell ⟨g, 3, none⟩ u3).setCell ⟨g, 4, none⟩ u4).setCell ⟨g, 5, none⟩ u5).setCell ⟨g, 6, none⟩ u6).setCell ⟨g, 7, none⟩ u7 = w.setRow g #[u0, u1, u2, u3, u4, u5, u6, u7, x8, x9, xa, xb] := by
  have e : ((((((((w.setCell ⟨g, 0, none⟩ u0).setCell ⟨g, 1, none⟩ u1).setCell ⟨g, 2, none⟩ u2).setCell ⟨g, 3, none⟩ u3).setCell ⟨g, 4, none⟩ u4).setCell ⟨g, 5, none⟩ u5).setCell ⟨g, 6, none⟩ u6).setCell ⟨g, 7, none⟩ u7).heap = (w.setRow g #[u0, u1, u2, u3, u4, u5, u6, u7, x8, x9, xa, xb]).heap := by
    refine Array.ext_getElem? fun k => ?_
    unfold World.setCell World.setRow
    simp only [Array.getElem?_modify]
    by_cases hk : g = k
    · subst hk
      simp [h]
    · simp [hk]
  unfold World.setCell World.setRow at *
  simpa using e
end Go.Proofs.YtplhndmncjoghaaGreatDoor
namespace Go.Proofs.YtplhndmncjoghaaGreatDoor
set_option maxRecDepth 100000
open Go Go.RowKit Go.Proofs
/-- All blocks but two rows are as they were. -/
structure RC (ga gb : Nat) (w w' : World) : Prop where
  ext : ∀ we, Ext we w → we.heap.size ≤ ga → we.heap.size ≤ gb → Ext we w'
  blk : ∀ b o, b ≠ ga → b ≠ gb → w.heap[b]? = some o → w'.heap[b]? = some o
  frac : ∀ v q, FracR w v q → FracR w' v q
theorem RC.refl (ga gb : Nat) (w : World) : RC ga gb w w := ⟨fun _ h _ _ => h, fun _ _ _ _ h => h, fun _ _ h => h⟩
theorem RC.trans {ga gb : Nat} {a b c : World} (h : RC ga gb a b) (k : RC ga gb b c) : RC ga gb a c :=
  ⟨fun we h1 h2 h3 => k.ext we (h.ext we h1 h2 h3) h2 h3, fun x o h1 h2 h3 => k.blk x o h1 h2 (h.blk x o h1 h2 h3), fun v q h1 => k.frac v q (h.frac v q h1)⟩
theorem RC.of_ext {ga gb : Nat} {w w' : World} (h : Ext w w') : RC ga gb w w' :=
  ⟨fun _ h1 _ _ => h1.trans h, fun _ _ _ _ h1 => h.blk h1, fun _ _ h1 => h1.ext h⟩
/-- The row after k steps. -/
def itR (z : Rat) : Nat → Rat × Rat → Rat × Rat
  | 0, p => p
  | k + 1, p => ((itR z k p).2, z * (itR z k p).2 - (itR z k p).1)
def bigR (z : Rat) (n : Nat) (p : Rat × Rat) : Prop := nf z ≤ 67108864 ∧ ∀ k, k ≤ n → nf (itR z k p).1 ≤ 67108864 ∧ nf (itR z k p).2 ≤ 67108864
end Go.Proofs.YtplhndmncjoghaaGreatDoor
namespace Go.Proofs.YtplhndmncjoghaaGreatDoor
set_option maxRecDepth 100000
open Go Go.RowKit Go.Proofs
theorem it_form (z : Rat) (p : Rat × Rat) (P : Int) (Q B : Nat) (hz : z * (Q : Rat) = (P : Rat)) (h1 : ∃ a : Int, p.1 * (Q : Rat) = (a : Rat) ∧ a.natAbs ≤ B * Q) (h2 : ∃ n : Int, p.2 = (n : Rat) ∧ n.natAbs ≤ B) :
    ∀ k, ∃ a n : Int, (itR z k p).1 * (Q : Rat) ^ (k + 1) = (a : Rat) ∧ a.natAbs ≤ B * Q * (P.natAbs + Q) ^ k ∧ (itR z k p).2 * (Q : Rat) ^ k = (n : Rat) ∧ n.natAbs ≤ B * (P.natAbs + Q) ^ k := by
  intro k
  induction k with
  | zero =>
    obtain ⟨a, ha, ha2⟩ := h1
    obtain ⟨n, hn, hn2⟩ := h2
    exact ⟨a, n, by simpa [itR] using ha, by simpa using ha2, by simp [itR, hn], by simpa using hn2⟩
  | succ k ih =>
    obtain ⟨a, n, e1, b1, e2, b2⟩ := ih
    refine ⟨n * (Q * Q : Nat), P * n - a, ?_, ?_, ?_, ?_⟩
    · simp only [itR]
      have : ((n * ((Q * Q : Nat) : Int) : Int) : Rat) = (n : Rat) * ((Q : Rat) * (Q : Rat)) := by push_cast; rfl
      rw [this, ← e2]
      generalize (itR z k p).2 = y
      generalize (Q : Rat) = q
      grind
    · rw [Int.natAbs_mul, Int.natAbs_natCast]
      have : n.natAbs * (Q * Q) ≤ B * (P.natAbs + Q) ^ k * (Q * Q) := Nat.mul_le_mul_right _ b2
      have h3 : B * (P.natAbs + Q) ^ k * (Q * Q) ≤ B * Q * (P.natAbs + Q) ^ (k + 1) := by
        rw [Nat.pow_succ]
        have : B * (P.natAbs + Q) ^ k * (Q * Q) = B * Q * ((P.natAbs + Q) ^ k * Q) := by grind
        rw [this]
        exact Nat.mul_le_mul_left _ (Nat.mul_le_mul_left _ (Nat.le_add_left _ _))
      omega
    · simp only [itR]
      have : ((P * n - a : Int) : Rat) = (P : Rat) * (n : Rat) - (a : Rat) := by push_cast; rfl
      rw [this, ← e1, ← e2, ← hz]
      generalize (itR z k p).2 = y
      generalize (itR z k p).1 = x
      generalize (Q : Rat) = q
      grind
    · have h3 : (P * n - a).natAbs ≤ P.natAbs * n.natAbs + a.natAbs := by
        have := Int.natAbs_sub_le (P * n) a
        rwa [Int.natAbs_mul] at this
      have h4 : P.natAbs * n.natAbs ≤ P.natAbs * (B * (P.natAbs + Q) ^ k) := Nat.mul_le_mul_left _ b2
      have h5 : P.natAbs * (B * (P.natAbs + Q) ^ k) + B * Q * (P.natAbs + Q) ^ k = B * (P.natAbs + Q) ^ (k + 1) := by
        rw [Nat.pow_succ]
        grind
      omega
theorem nl_pow (M k : Nat) : nl ((M ^ k : Nat) : Int) ≤ 1 + k * nl (M : Int) := by
  induction k with
  | zero => simp; unfold nl; simp; rw [lim_one (by omega) (by omega)]; simp
  | succ k ih =>
    rw [Nat.pow_succ]
    have := nl_mul ((M ^ k : Nat) : Int) (M : Int)
    rw [← Int.natCast_mul] at this
    rw [Nat.succ_mul]
    omega
theorem nl_le_of {a b : Int} (h : a.natAbs ≤ b.natAbs) : nl a ≤ nl b := by
  unfold nl
  exact lim_mono h
theorem nf_of_form {y : Rat} {Q : Nat} {k : Nat} {n : Int} (hQ : 0 < Q) (h : y * (Q : Rat) ^ k = (n : Rat)) : nf y ≤ max (nl n) (nl ((Q ^ k : Nat) : Int)) := by
  have hq : ((Q ^ k : Nat) : Int) ≠ 0 := by
    have := Nat.pow_pos (n := k) hQ
    omega
  have : y = Rat.divInt n ((Q ^ k : Nat) : Int) := by
    have e : Rat.divInt n ((Q ^ k : Nat) : Int) = (n : Rat) / (((Q ^ k : Nat) : Int) : Rat) := Rat.divInt_eq_div _ _
    have hz : (((Q ^ k : Nat) : Int) : Rat) ≠ 0 := by
      intro h0
      exact hq (by exact_mod_cast h0)
    have e2 : (((Q ^ k : Nat) : Int) : Rat) = (Q : Rat) ^ k := by push_cast; rfl
    rw [e, ← h, ← e2]
    generalize (((Q ^ k : Nat) : Int) : Rat) = q at *
    grind
  rw [this]
  exact nf_div _ _ hq
theorem big_of (z : Rat) (p : Rat × Rat) (n : Nat) (P : Int) (Q B : Nat) (hn : n ≤ 4096) (hQ : 0 < Q) (hzf : nf z ≤ 67108864) (hz : z * (Q : Rat) = (P : Rat)) (h1 : ∃ a : Int, p.1 * (Q : Rat) = (a : Rat) ∧ a.natAbs ≤ B * Q) (h2 : ∃ n : Int, p.2 = (n : Rat) ∧ n.natAbs ≤ B)
    (hM : nl ((P.natAbs + Q : Nat) : Int) ≤ 4100) (hB : nl (B : Int) ≤ 4100) : bigR z n p := by
  refine ⟨hzf, fun k hk => ?_⟩
  obtain ⟨a, m, e1, b1, e2, b2⟩ := it_form z p P Q B hz h1 h2 k
  have hQM : nl (Q : Int) ≤ 4100 := Nat.le_trans (nl_le_of (by rw [Int.natAbs_natCast, Int.natAbs_natCast]; omega)) hM
  have p1 := nl_pow (P.natAbs + Q) k
  have p2 := nl_pow Q (k + 1)
  have p3 := nl_pow Q k
  have k1 : k * nl ((P.natAbs + Q : Nat) : Int) ≤ 4096 * 4100 := Nat.mul_le_mul (by omega) hM
  have k2 : (k + 1) * nl (Q : Int) ≤ 4097 * 4100 := Nat.mul_le_mul (by omega) hQM
  have k3 : k * nl (Q : Int) ≤ 4096 * 4100 := Nat.mul_le_mul (by omega) hQM
  have c1 : nl m ≤ nl ((B * (P.natAbs + Q) ^ k : Nat) : Int) := nl_le_of (by rw [Int.natAbs_natCast]; exact b2)
  have c2 : nl a ≤ nl ((B * Q * (P.natAbs + Q) ^ k : Nat) : Int) := nl_le_of (by rw [Int.natAbs_natCast]; exact b1)
  have d1 := nl_mul (B : Int) (((P.natAbs + Q) ^ k : Nat) : Int)
  have d2 := nl_mul (B : Int) (Q : Int)
  have d3 := nl_mul ((B * Q : Nat) : Int) (((P.natAbs + Q) ^ k : Nat) : Int)
  rw [← Int.natCast_mul] at d1 d2 d3
  have f1 := nf_of_form hQ e1
  have f2 := nf_of_form hQ e2
  constructor <;> omega
end Go.Proofs.YtplhndmncjoghaaGreatDoor
namespace Go.Proofs.YtplhndmncjoghaaGreatDoor
set_option maxRecDepth 100000
open Go Go.RowKit Go.Proofs
theorem results_row2_tmp {P : Program} {fn : Func} {p q r : Tmp} {ty : TypeId} (h : fn.results = #[.cell p ty, .cell q ty, .tmp r]) (tmps : Array Value) (w : World) (g g' : Nat) (t : TypeId) (cs cs' : Array Value) (u : Value) (d : TypeDesc)
    (hp : tmps.getD p undef = .pointer (some ⟨g, 0, none⟩)) (hq : tmps.getD q undef = .pointer (some ⟨g', 0, none⟩)) (hr : tmps.getD r undef = u) (hg : w.heap[g]? = some (.cells cs t (0, 0))) (hg' : w.heap[g']? = some (.cells cs' t (0, 0)))
    (hu : P.underlying ty = some d) (hd : (match d with | .struct _ | .array _ _ => true | _ => false) = true) (hi : (P.info? ty).map (·.size) = some cs.size) (hi' : (P.info? ty).map (·.size) = some cs'.size) :
    (results fn tmps).run P w = .ok (.tuple #[.agg cs, .agg cs', u]) w := by
  have hp' : tmps[p]?.getD undef = .pointer (some ⟨g, 0, none⟩) := by simpa using hp
  have hq' : tmps[q]?.getD undef = .pointer (some ⟨g', 0, none⟩) := by simpa using hq
  have hr' : tmps[r]?.getD undef = u := by simpa using hr
  simp [results, h, hp', hq', hr', asAddr, run_loadVar_row w g t ty cs (0, 0) d hg hu hd hi, run_loadVar_row w g' t ty cs' (0, 0) d hg' hu hd hi']
end Go.Proofs.YtplhndmncjoghaaGreatDoor
namespace Go.Proofs.YtplhndmncjoghaaGreatDoor
set_option maxRecDepth 100000
open Go Go.RowKit Go.Proofs
/-- U(n) and T(n). -/
def chebU (n : Nat) (x : Rat) : Rat := (itR (x + x) n (0, 1)).2
def chebT (n : Nat) (x : Rat) : Rat := (itR (x + x) n (x, 1)).2
def chebE (n : Nat) (x : Rat) : Int := if nf (chebU n x) ≤ 2048 ∧ nf (chebT n x) ≤ 2048 then 0 else 4
def chebOU (n : Nat) (x : Rat) : Option Rat := if nf (chebU n x) ≤ 2048 ∧ nf (chebT n x) ≤ 2048 then some (chebU n x) else none
def chebOT (n : Nat) (x : Rat) : Option Rat := if nf (chebU n x) ≤ 2048 ∧ nf (chebT n x) ≤ 2048 then some (chebT n x) else none
theorem nl_small {a : Int} (h : a.natAbs < 4294967296) : nl a ≤ 1 := by
  unfold nl
  exact lim_one_le h
theorem rat_den (x : Rat) : x * (x.den : Rat) = (x.num : Rat) := by
  have e : x = (x.num : Rat) / ((x.den : Int) : Rat) := by rw [← Rat.divInt_eq_div, Rat.num_divInt_den]
  have hz : ((x.den : Int) : Rat) ≠ 0 := by
    intro h0
    have : (x.den : Int) = 0 := by exact_mod_cast h0
    exact x.den_nz (by omega)
  have e2 : ((x.den : Int) : Rat) = (x.den : Rat) := by push_cast; rfl
  rw [e2] at e hz
  generalize (x.num : Rat) = a at *
  generalize (x.den : Rat) = d at *
  grind
theorem cheb_big (n : Nat) (x : Rat) (hn : n ≤ 4096) (hx : nf x ≤ 2048) : bigR (x + x) n (0, 1) ∧ bigR (x + x) n (x, 1) := by
  have h1 : nl x.num ≤ 2048 := Nat.le_trans (Nat.le_max_left _ _) hx
  have h2 : nl (x.den : Int) ≤ 2048 := Nat.le_trans (Nat.le_max_right _ _) hx
  have hd : x * (x.den : Rat) = (x.num : Rat) := rat_den x
  have hz : (x + x) * (x.den : Rat) = ((2 * x.num : Int) : Rat) := by
    have e : ((2 * x.num : Int) : Rat) = 2 * (x.num : Rat) := by push_cast; rfl
    rw [e, ← hd]
    generalize (x.den : Rat) = d
    grind
  have hzf : nf (x + x) ≤ 67108864 := by have := nf_add_le x x; omega
  have hB : nl (((x.num.natAbs + 1 : Nat) : Nat) : Int) ≤ 4100 := by
    have e1 := nl_add (x.num.natAbs : Int) 1
    have e2 : nl ((x.num.natAbs : Nat) : Int) = nl x.num := by unfold nl; rw [Int.natAbs_natCast]
    have e3 : nl 1 ≤ 1 := nl_small (by decide)
    rw [Int.natCast_add]
    have : ((1 : Nat) : Int) = 1 := rfl
    rw [this]
    omega
  have hM : nl ((((2 * x.num : Int)).natAbs + x.den : Nat) : Int) ≤ 4100 := by
    have e1 := nl_add ((2 * x.num).natAbs : Int) (x.den : Int)
    have e2 : nl (((2 * x.num).natAbs : Nat) : Int) = nl (2 * x.num) := by unfold nl; rw [Int.natAbs_natCast]
    have e3 := nl_mul 2 x.num
    have e4 : nl 2 ≤ 1 := nl_small (by decide)
    rw [Int.natCast_add]
    omega
  have hQ : 0 < x.den := Nat.pos_of_ne_zero x.den_nz
  constructor
  · exact big_of (x + x) (0, 1) n (2 * x.num) x.den (x.num.natAbs + 1) hn hQ hzf hz ⟨0, by simp, by simp⟩ ⟨1, rfl, by simp⟩ hM hB
  · refine big_of (x + x) (x, 1) n (2 * x.num) x.den (x.num.natAbs + 1) hn hQ hzf hz ⟨x.num, hd, ?_⟩ ⟨1, rfl, by simp⟩ hM hB
    have : (x.num.natAbs + 1) * 1 ≤ (x.num.natAbs + 1) * x.den := Nat.mul_le_mul_left _ hQ
    omega
theorem lr_two {w : World} {g : Nat} {b1 b2 b3 b4 : Bool} {a1 a2 a3 a4 : Option Addr} {n1 c1 n2 c2 n3 c3 n4 c4 : Nat} {x y : Rat} {T : Nat}
    (hg : w.heap[g]? = some (.cells #[.bool b1, .slice a1 n1 c1, .bool b2, .slice a2 n2 c2, .bool b3, .slice a3 n3 c3, .bool b4, .slice a4 n4 c4] T (0, 0)))
    (h : FracR w (.agg #[.bool b1, .slice a1 n1 c1, .bool b2, .slice a2 n2 c2]) x) (h' : FracR w (.agg #[.bool b3, .slice a3 n3 c3, .bool b4, .slice a4 n4 c4]) y) : LR w g [x, y] := by
  intro k hk
  have hk2 : k = 0 ∨ k = 1 := by simp at hk; omega
  rcases hk2 with rfl | rfl
  · exact ⟨_, _, _, _, _, _, _, _, by simp [World.cell?, hg], by simp [World.cell?, hg], by simp [World.cell?, hg], by simp [World.cell?, hg], h⟩
  · exact ⟨_, _, _, _, _, _, _, _, by simp [World.cell?, hg], by simp [World.cell?, hg], by simp [World.cell?, hg], by simp [World.cell?, hg], h'⟩
/-- A slice of these fractions. -/
def SlR (os : List Rat) (n : Nat) (W : World) (v : Value) : Prop := ∃ g, v = .slice (some ⟨g, 0, none⟩) n n ∧ LR W g os
theorem st_slR {ss : List FSpec} (os : List Rat) (n : Nat) (h : StableAll Ext ss) : StableAll Ext (.pred (SlR os n) :: ss) := ⟨fun _ _ _ e h => by obtain ⟨g, h1, h2⟩ := h; exact ⟨g, h1, h2.ext e⟩, h⟩
end Go.Proofs.YtplhndmncjoghaaGreatDoor
namespace Go.Proofs.YtplhndmncjoghaaGreatDoor
set_option maxRecDepth 100000
open Go Go.RowKit Go.Proofs

end Go.Proofs.YtplhndmncjoghaaGreatDoor
namespace Go.Proofs.YtplhndmncjoghaaGreatDoor
set_option maxRecDepth 100000
open Go Go.RowKit Go.Proofs
/-- What ray.Check answers of four values. -/
def okM (oa ob oc od : Option Rat) : Bool := match oa, ob, oc, od with
  | some a, some b, some c, some d => decide (a * d - b * c = 1)
  | _, _, _, _ => false
theorem cmp_zero (x y : Rat) : (x.num * y.den - y.num * x.den).sign = 0 ↔ x = y := by
  rw [Int.sign_eq_zero_iff_zero]
  constructor
  · intro h
    have e : x - y = 0 := by
      rw [← div_sub, h]
      simp
    grind
  · rintro rfl
    omega
theorem lf_four {w : World} {g : Nat} {b1 b2 b3 b4 b5 b6 b7 b8 : Bool} {a1 a2 a3 a4 a5 a6 a7 a8 : Option Addr} {n1 c1 n2 c2 n3 c3 n4 c4 n5 c5 n6 c6 n7 c7 n8 c8 : Nat} {o1 o2 o3 o4 : Option Rat} {T : Nat}
    (hg : w.heap[g]? = some (.cells #[.bool b1, .slice a1 n1 c1, .bool b2, .slice a2 n2 c2, .bool b3, .slice a3 n3 c3, .bool b4, .slice a4 n4 c4, .bool b5, .slice a5 n5 c5, .bool b6, .slice a6 n6 c6, .bool b7, .slice a7 n7 c7, .bool b8, .slice a8 n8 c8] T (0, 0)))
    (h1 : AnyF w (.agg #[.bool b1, .slice a1 n1 c1, .bool b2, .slice a2 n2 c2]) o1) (h2 : AnyF w (.agg #[.bool b3, .slice a3 n3 c3, .bool b4, .slice a4 n4 c4]) o2)
    (h3 : AnyF w (.agg #[.bool b5, .slice a5 n5 c5, .bool b6, .slice a6 n6 c6]) o3) (h4 : AnyF w (.agg #[.bool b7, .slice a7 n7 c7, .bool b8, .slice a8 n8 c8]) o4) : LF w g [o1, o2, o3, o4] := by
  intro k hk
  have hk2 : k = 0 ∨ k = 1 ∨ k = 2 ∨ k = 3 := by simp at hk; omega
  rcases hk2 with rfl | rfl | rfl | rfl
  · exact ⟨_, _, _, _, _, _, _, _, by simp [World.cell?, hg], by simp [World.cell?, hg], by simp [World.cell?, hg], by simp [World.cell?, hg], h1⟩
  · exact ⟨_, _, _, _, _, _, _, _, by simp [World.cell?, hg], by simp [World.cell?, hg], by simp [World.cell?, hg], by simp [World.cell?, hg], h2⟩
  · exact ⟨_, _, _, _, _, _, _, _, by simp [World.cell?, hg], by simp [World.cell?, hg], by simp [World.cell?, hg], by simp [World.cell?, hg], h3⟩
  · exact ⟨_, _, _, _, _, _, _, _, by simp [World.cell?, hg], by simp [World.cell?, hg], by simp [World.cell?, hg], by simp [World.cell?, hg], h4⟩
theorem okM_false {oa ob oc od : Option Rat} (h : [oa, ob, oc, od].all Option.isSome = false) : okM oa ob oc od = false := by
  cases oa <;> cases ob <;> cases oc <;> cases od <;> first | rfl | (simp at h)
theorem row16_cells {w : World} {g T : Nat} {c : Array Value} (h : w.heap[g]? = some (.cells c T (0, 0))) (k : Nat) : w.cell? ⟨g, k, none⟩ = c[k]? := by simp [World.cell?, h]
end Go.Proofs.YtplhndmncjoghaaGreatDoor
namespace Go.Proofs.YtplhndmncjoghaaGreatDoor
set_option maxRecDepth 100000
open Go Go.RowKit Go.Proofs
theorem sameInt_r (v1 v2 : Value) (X Y : Int) (w : World) (hX : nl X ≤ 4294967296) (hY : nl Y ≤ 4294967296) (h1 : IntR w v1 X) (h2 : IntR w v2 Y) :
    Calls Tryz.prog 177 #[v1, v2] w fun e w' => e = .returned (.bool (decide (X = Y))) ∧ Ext w w' := by
  have h := sameInt_c v1 v2 _ _ _ _ w hX hY (int_any h1) (int_any h2)
  have e : decide (decide (X < 0) = decide (Y < 0) ∧ lim X.natAbs = lim Y.natAbs) = decide (X = Y) := by
    by_cases hx : X = Y
    · subst hx
      simp
    · rw [decide_eq_false hx]
      refine decide_eq_false fun h => hx ?_
      have h3 := eq_of_lim h.2
      have h4 : (X < 0) ↔ (Y < 0) := by
        have := h.1
        simpa using this
      omega
  rw [e] at h
  exact h
/-- A value of api.Ray. -/
def AnyY (w : World) (v : Value) (oy ou : Option Rat) : Prop :=
  ∃ A1 A2 A3 A4 A5 A6 A7 A8 B1 B2 B3 B4 B5 B6 B7 B8, v = .agg #[.bool A1, .slice A2 A3 A4, .bool A5, .slice A6 A7 A8, .bool B1, .slice B2 B3 B4, .bool B5, .slice B6 B7 B8] ∧ AnyF w (.agg #[.bool A1, .slice A2 A3 A4, .bool A5, .slice A6 A7 A8]) oy ∧ AnyF w (.agg #[.bool B1, .slice B2 B3 B4, .bool B5, .slice B6 B7 B8]) ou
theorem AnyY.ext {w w' : World} {v : Value} {oy ou : Option Rat} (h : AnyY w v oy ou) (e : Ext w w') : AnyY w' v oy ou := by
  obtain ⟨A1, A2, A3, A4, A5, A6, A7, A8, B1, B2, B3, B4, B5, B6, B7, B8, h0, h1, h2⟩ := h
  exact ⟨A1, A2, A3, A4, A5, A6, A7, A8, B1, B2, B3, B4, B5, B6, B7, B8, h0, h1.ext e, h2.ext e⟩

set_option maxRecDepth 100000 in
set_option maxHeartbeats 3200000 in
theorem sameFrac_f (v1 v2 : Value) (x y : Rat) (w : World) (h1 : AnyF w v1 (some x)) (h2 : AnyF w v2 (some y)) :
    Calls Tryz.prog 155 #[v1, v2] w fun e w' => e = .returned (.bool (decide (x = y))) ∧ Ext w w' := by
  obtain ⟨f1, n1⟩ := h1.frac
  obtain ⟨f2, n2⟩ := h2.frac
  clear h1 h2
  obtain ⟨A1, A2, A3, A4, A5, A6, A7, A8, rfl⟩ := f1.shape
  obtain ⟨B1, B2, B3, B4, B5, B6, B7, B8, rfl⟩ := f2.shape
  obtain ⟨wb, hwb⟩ : ∃ wb, wb = (w.alloc (.cells #[.bool A1, .slice A2 A3 A4, .bool A5, .slice A6 A7 A8] 27)).alloc (.cells #[.bool B1, .slice B2 B3 B4, .bool B5, .slice B6 B7 B8] 27) := ⟨_, rfl⟩
  have hE : Ext w wb := by rw [hwb]; exact ((Ext.refl w).al _).al _
  have z0 : wb.heap[w.heap.size]? = some (.cells #[.bool A1, .slice A2 A3 A4, .bool A5, .slice A6 A7 A8] 27 (0, 0)) := by rw [hwb]; exact (heap_alloc_old _ _ (by simp)).trans (heap_alloc_new _ _)
  have z1 : wb.heap[w.heap.size + 1]? = some (.cells #[.bool B1, .slice B2 B3 B4, .bool B5, .slice B6 B7 B8] 27 (0, 0)) := by rw [hwb]; exact heap_at _ _ _ (by simp)
  replace f1 := f1.ext hE
  replace f2 := f2.ext hE
  have b1 : nl x.num ≤ 4294967296 := Nat.le_trans (Nat.le_trans (Nat.le_max_left _ _) n1) (by decide)
  have b2 : nl y.num ≤ 4294967296 := Nat.le_trans (Nat.le_trans (Nat.le_max_left _ _) n2) (by decide)
  have b3 : nl (x.den : Int) ≤ 4294967296 := Nat.le_trans (Nat.le_trans (Nat.le_max_right _ _) n1) (by decide)
  have b4 : nl (y.den : Int) ≤ 4294967296 := Nat.le_trans (Nat.le_trans (Nat.le_max_right _ _) n2) (by decide)
  have k1 := mkHid (fun W (e : Ext wb W) => sameInt_r _ _ _ _ W b1 b2 (f1.num.ext e) (f2.num.ext e))
  have k2 := mkHid (fun W (e : Ext wb W) => sameInt_r _ _ _ _ W b3 b4 (f1.den.ext e) (f2.den.ext e))
  have hpost1 : x = y → x.num = y.num := fun h => by rw [h]
  have hpost2 : x = y → (x.den : Int) = (y.den : Int) := fun h => by rw [h]
  have hall : x.num = y.num → (x.den : Int) = (y.den : Int) → x = y := fun h h' => Rat.ext h (by omega)
  clear f1 f2 n1 n2 b1 b2 b3 b4
  replace z0 := mkHid z0
  replace z1 := mkHid z1
  replace hE := mkHid hE
  replace hwb := mkHid hwb
  have hX := mkHid (Ext.refl wb)
  by_cases c1 : x.num = y.num
  case neg =>
    rw [decide_eq_false c1] at k1
    rw [decide_eq_false (fun h => c1 (hpost1 h))]
    clear hpost1 hpost2 hall
    replace c1 := mkHid c1
    go_enter Tryz.func155, Tryz.ntmps155
    go_wp2_with fail
    rw [← hwb.out]
    clear hwb
    refine (k1.out wb hX.out).mono ?_
    rintro e w1 ⟨rfl, hE1⟩
    replace hX := mkHid (hX.out.trans hE1)
    clear hE1
    go_wp2_with fail
    go_ret
    exact ⟨rfl, hE.out.trans hX.out⟩
  rw [decide_eq_true c1] at k1
  by_cases c2 : (x.den : Int) = (y.den : Int)
  case neg =>
    rw [decide_eq_false c2] at k2
    rw [decide_eq_false (fun h => c2 (hpost2 h))]
    clear hpost1 hpost2 hall
    replace c1 := mkHid c1
    replace c2 := mkHid c2
    go_enter Tryz.func155, Tryz.ntmps155
    go_wp2_with fail
    rw [← hwb.out]
    clear hwb
    refine (k1.out wb hX.out).mono ?_
    rintro e w1 ⟨rfl, hE1⟩
    replace hX := mkHid (hX.out.trans hE1)
    have ya0 : w1.cell? ⟨w.heap.size, 0, none⟩ = some (.bool A1) := by simp [World.cell?, hX.out.blk z0.out]
    have ya1 : w1.cell? ⟨w.heap.size, 1, none⟩ = some (.slice A2 A3 A4) := by simp [World.cell?, hX.out.blk z0.out]
    have ya2 : w1.cell? ⟨w.heap.size, 2, none⟩ = some (.bool A5) := by simp [World.cell?, hX.out.blk z0.out]
    have ya3 : w1.cell? ⟨w.heap.size, 3, none⟩ = some (.slice A6 A7 A8) := by simp [World.cell?, hX.out.blk z0.out]
    have yb0 : w1.cell? ⟨w.heap.size + 1, 0, none⟩ = some (.bool B1) := by simp [World.cell?, hX.out.blk z1.out]
    have yb1 : w1.cell? ⟨w.heap.size + 1, 1, none⟩ = some (.slice B2 B3 B4) := by simp [World.cell?, hX.out.blk z1.out]
    have yb2 : w1.cell? ⟨w.heap.size + 1, 2, none⟩ = some (.bool B5) := by simp [World.cell?, hX.out.blk z1.out]
    have yb3 : w1.cell? ⟨w.heap.size + 1, 3, none⟩ = some (.slice B6 B7 B8) := by simp [World.cell?, hX.out.blk z1.out]
    clear hE1
    go_wp2_with fail
    refine (k2.out w1 hX.out).mono ?_
    rintro e w2 ⟨rfl, hE2⟩
    replace hX := mkHid (hX.out.trans hE2)
    clear ya0 ya1 ya2 ya3 yb0 yb1 yb2 yb3
    clear hE2
    go_wp2_with fail
    go_ret
    exact ⟨rfl, hE.out.trans hX.out⟩
  rw [decide_eq_true c2] at k2
  rw [decide_eq_true (hall c1 c2)]
  clear hpost1 hpost2 hall
  replace c1 := mkHid c1
  replace c2 := mkHid c2
  go_enter Tryz.func155, Tryz.ntmps155
  go_wp2_with fail
  rw [← hwb.out]
  clear hwb
  refine (k1.out wb hX.out).mono ?_
  rintro e w1 ⟨rfl, hE1⟩
  replace hX := mkHid (hX.out.trans hE1)
  have ya0 : w1.cell? ⟨w.heap.size, 0, none⟩ = some (.bool A1) := by simp [World.cell?, hX.out.blk z0.out]
  have ya1 : w1.cell? ⟨w.heap.size, 1, none⟩ = some (.slice A2 A3 A4) := by simp [World.cell?, hX.out.blk z0.out]
  have ya2 : w1.cell? ⟨w.heap.size, 2, none⟩ = some (.bool A5) := by simp [World.cell?, hX.out.blk z0.out]
  have ya3 : w1.cell? ⟨w.heap.size, 3, none⟩ = some (.slice A6 A7 A8) := by simp [World.cell?, hX.out.blk z0.out]
  have yb0 : w1.cell? ⟨w.heap.size + 1, 0, none⟩ = some (.bool B1) := by simp [World.cell?, hX.out.blk z1.out]
  have yb1 : w1.cell? ⟨w.heap.size + 1, 1, none⟩ = some (.slice B2 B3 B4) := by simp [World.cell?, hX.out.blk z1.out]
  have yb2 : w1.cell? ⟨w.heap.size + 1, 2, none⟩ = some (.bool B5) := by simp [World.cell?, hX.out.blk z1.out]
  have yb3 : w1.cell? ⟨w.heap.size + 1, 3, none⟩ = some (.slice B6 B7 B8) := by simp [World.cell?, hX.out.blk z1.out]
  clear hE1
  go_wp2_with fail
  refine (k2.out w1 hX.out).mono ?_
  rintro e w2 ⟨rfl, hE2⟩
  replace hX := mkHid (hX.out.trans hE2)
  clear ya0 ya1 ya2 ya3 yb0 yb1 yb2 yb3
  clear hE2
  go_wp2_with fail
  go_ret
  exact ⟨rfl, hE.out.trans hX.out⟩
end Go.Proofs.YtplhndmncjoghaaGreatDoor
namespace Go.Proofs.YtplhndmncjoghaaGreatDoor
set_option maxRecDepth 100000
open Go Go.RowKit Go.Proofs
theorem TwinR.flat {w : World} {v : Value} {b : Bool} {l : List Nat} {g T : Nat} {fr : Nat × Nat} {old : Array Value} (h : TwinR w v b l) (hg : w.heap[g]? = some (.cells old T fr)) (ho : old.all flatV = true) (cs : Array Value) : TwinR (w.setRow g cs) v b l := by
  obtain ⟨k, c, h1, h2, h3, h4, h5⟩ := h
  have hne : k ≠ g := by
    rintro rfl
    have hc2 : old[l.length]? = some (.int .u32 7777) := by
      simp only [World.cell?, hg] at h5
      simpa using h5
    obtain ⟨hlt, he⟩ := Array.getElem?_eq_some_iff.1 hc2
    have := Array.all_eq_true.1 ho _ hlt
    rw [he] at this
    cases this
  have e : (w.setRow g cs).heap[k]? = w.heap[k]? := setRow_other _ _ _ _ hne
  refine ⟨k, c, h1, h2, h3, fun j hj => ?_, ?_⟩
  · have := h4 j hj
    simp only [World.cell?, e] at this ⊢
    exact this
  · simp only [World.cell?, e] at h5 ⊢
    exact h5
/-- A fraction's twin. -/
def TwF (w : World) (v : Value) (b1 : Bool) (l1 : List Nat) (b2 : Bool) (l2 : List Nat) : Prop :=
  ∃ a1 c1 a2 c2, v = .agg #[.bool b1, .slice a1 l1.length c1, .bool b2, .slice a2 l2.length c2] ∧ TwinR w (.agg #[.bool b1, .slice a1 l1.length c1]) b1 l1 ∧ TwinR w (.agg #[.bool b2, .slice a2 l2.length c2]) b2 l2
theorem TwF.ext {w w' : World} {v : Value} {b1 b2 : Bool} {l1 l2 : List Nat} (h : TwF w v b1 l1 b2 l2) (e : Ext w w') : TwF w' v b1 l1 b2 l2 := by
  obtain ⟨a1, c1, a2, c2, h1, h2, h3⟩ := h
  exact ⟨a1, c1, a2, c2, h1, h2.ext e, h3.ext e⟩
theorem TwF.flat {w : World} {v : Value} {b1 b2 : Bool} {l1 l2 : List Nat} {g T : Nat} {fr : Nat × Nat} {old : Array Value} (h : TwF w v b1 l1 b2 l2) (hg : w.heap[g]? = some (.cells old T fr)) (ho : old.all flatV = true) (cs : Array Value) : TwF (w.setRow g cs) v b1 l1 b2 l2 := by
  obtain ⟨a1, c1, a2, c2, h1, h2, h3⟩ := h
  exact ⟨a1, c1, a2, c2, h1, h2.flat hg ho cs, h3.flat hg ho cs⟩
theorem TwF.any {w : World} {v : Value} {b1 b2 : Bool} {l1 l2 : List Nat} (h : TwF w v b1 l1 b2 l2) (k1 : l1.length ≤ 4294967296) (k2 : l2.length ≤ 4294967296) : AnyL w v b1 l1 b2 l2 := by
  obtain ⟨a1, c1, a2, c2, h1, h2, h3⟩ := h
  exact ⟨a1, c1, a2, c2, h1, k1, k2, h2.any, h3.any⟩
theorem AnyL.ext {w w' : World} {v : Value} {b1 b2 : Bool} {l1 l2 : List Nat} (h : AnyL w v b1 l1 b2 l2) (e : Ext w w') : AnyL w' v b1 l1 b2 l2 := by
  obtain ⟨a1, c1, a2, c2, h1, h2, h3, h4, h5⟩ := h
  exact ⟨a1, c1, a2, c2, h1, h2, h3, h4.ext e, h5.ext e⟩
theorem st_twinR {ss : List FSpec} (b : Bool) (l : List Nat) (h : StableAll Ext ss) : StableAll Ext (.pred (fun W v => TwinR W v b l) :: ss) := ⟨fun _ _ _ e h => TwinR.ext h e, h⟩
theorem st_twF {ss : List FSpec} (b1 : Bool) (l1 : List Nat) (b2 : Bool) (l2 : List Nat) (h : StableAll Ext ss) : StableAll Ext (.pred (fun W v => TwF W v b1 l1 b2 l2) :: ss) := ⟨fun _ _ _ e h => TwF.ext h e, h⟩

set_option maxRecDepth 100000 in
set_option maxHeartbeats 3200000 in
theorem twinFrac_c (v : Value) (b1 : Bool) (l1 : List Nat) (b2 : Bool) (l2 : List Nat) (w : World) (h : AnyL w v b1 l1 b2 l2) :
    Calls Tryz.prog 20 #[v] w fun e w' => ∃ v', e = .returned v' ∧ TwF w' v' b1 l1 b2 l2 ∧ Ext w w' := by
  obtain ⟨a1, c1, a2, c2, rfl, k1, k2, h1, h2⟩ := h
  have T1 := mkHid (fun W (e : Ext w W) => twinInt_c _ b1 l1 W k1 (h1.ext e))
  have T2 := mkHid (fun W (e : Ext w W) => twinInt_c _ b2 l2 W k2 (h2.ext e))
  clear h1 h2 k1 k2
  obtain ⟨n1, hn1⟩ : ∃ n, n = l1.length := ⟨_, rfl⟩
  obtain ⟨n2, hn2⟩ : ∃ n, n = l2.length := ⟨_, rfl⟩
  rw [← hn1] at T1 ⊢
  rw [← hn2] at T2 ⊢
  replace hn1 := mkHid hn1
  replace hn2 := mkHid hn2
  go_enter Tryz.func20, Tryz.ntmps20
  go_wp2_with fail
  obtain ⟨wb, hwb⟩ : ∃ wb, wb = (w.alloc (.cells #[.bool b1, .slice a1 n1 c1, .bool b2, .slice a2 n2 c2] 27)).alloc (.cells #[.bool false, .slice none 0 0, .bool false, .slice none 0 0] 27) := ⟨_, rfl⟩
  have hE : Ext w wb := by rw [hwb]; exact ((Ext.refl w).al _).al _
  have c10 : ∀ W, Ext wb W → W.cell? ⟨w.heap.size, 0, none⟩ = some (.bool b1) := fun W e => e.cell (by rw [hwb]; go_simp)
  have c11 : ∀ W, Ext wb W → W.cell? ⟨w.heap.size, 1, none⟩ = some (.slice a1 n1 c1) := fun W e => e.cell (by rw [hwb]; go_simp)
  have c12 : ∀ W, Ext wb W → W.cell? ⟨w.heap.size, 2, none⟩ = some (.bool b2) := fun W e => e.cell (by rw [hwb]; go_simp)
  have c13 : ∀ W, Ext wb W → W.cell? ⟨w.heap.size, 3, none⟩ = some (.slice a2 n2 c2) := fun W e => e.cell (by rw [hwb]; go_simp)
  have hB : wb.heap[w.heap.size + 1]? = some (.cells #[.bool false, .slice none 0 0, .bool false, .slice none 0 0] 27) := by rw [hwb]; exact heap_at _ _ _ (by simp)
  rw [← hwb]
  replace hB := mkHid hB
  replace hE := mkHid hE
  clear hwb
  apply region_ext [.val _, .val _, .pred (fun W v => TwinR W v b1 l1), .val _, .val _, .pred (fun W v => TwinR W v b2 l2)] (by kernel_rfl) (stable_vals _ (stable_vals _ (st_twinR _ _ (stable_vals _ (stable_vals _ (st_twinR _ _ trivial))))))
  iterate 2 (refine ⟨fun W hW _ => by go_simp; exact ⟨Ext.refl _, rfl⟩, ?_⟩)
  refine ⟨fun W hW _ => ?g2, fun x2 => ?_⟩
  case g2 =>
    go_simp
    refine (T1.out W (hE.out.trans hW)).mono ?_
    rintro e w' ⟨v, rfl, h1, h2⟩
    exact ⟨v, rfl, h2, h1⟩
  iterate 2 (refine ⟨fun W hW _ => by go_simp; exact ⟨Ext.refl _, rfl⟩, ?_⟩)
  refine ⟨fun W hW _ => ?g5, fun x5 => fun W hW hF => ?fin⟩
  case g5 =>
    go_simp
    refine (T2.out W (hE.out.trans hW)).mono ?_
    rintro e w' ⟨v, rfl, h1, h2⟩
    exact ⟨v, rfl, h2, h1⟩
  case fin =>
    have d2 : TwinR W x2 b1 l1 := hF.2.1 rfl
    have d5 : TwinR W x5 b2 l2 := hF.1 rfl
    obtain ⟨e1, e2, rfl⟩ := d2.shape
    obtain ⟨e3, e4, rfl⟩ := d5.shape
    have hBW := hW.blk hB.out
    have FR := mkHid (show TwF (W.setRow (w.heap.size + 1) #[.bool b1, .slice e1 l1.length e2, .bool b2, .slice e3 l2.length e4]) (.agg #[.bool b1, .slice e1 l1.length e2, .bool b2, .slice e3 l2.length e4]) b1 l1 b2 l2 from ⟨e1, e2, e3, e4, rfl, d2.flat hBW (by simp [flatV]) _, d5.flat hBW (by simp [flatV]) _⟩)
    have FE := mkHid ((hE.out.trans hW).row (show w.heap.size ≤ w.heap.size + 1 by omega) #[.bool b1, .slice e1 l1.length e2, .bool b2, .slice e3 l2.length e4])
    clear hF d2 d5 c10 c11 c12 c13 hW
    go_simp
    go_wp2_with (refine wpList_store_row rfl 27 (.tmp 2) (.tmp 9) rfl (w.heap.size + 1) #[.bool b1, .slice e1 l1.length e2, .bool b2, .slice e3 l2.length e4] rfl rfl 27 _ hBW (by kernel_rfl) rfl (by kernel_rfl) ?_)
    exact bodyPost_ret (results_cell_row rfl _ _ (w.heap.size + 1) 27 #[.bool b1, .slice e1 l1.length e2, .bool b2, .slice e3 l2.length e4] (0, 0) _ rfl (setRow_heap _ _ _ _ _ _ hBW) Tryz.underlying27 rfl (by kernel_rfl)) rfl ⟨_, rfl, FR.out, FE.out⟩

/-- A ray's twin. -/
def TwY (w : World) (v : Value) (bf1 : Bool) (lf1 : List Nat) (bf2 : Bool) (lf2 : List Nat) (bg1 : Bool) (lg1 : List Nat) (bg2 : Bool) (lg2 : List Nat) : Prop :=
  ∃ pf1 qf1 pf2 qf2 pg1 qg1 pg2 qg2, v = .agg #[.bool bf1, .slice pf1 lf1.length qf1, .bool bf2, .slice pf2 lf2.length qf2, .bool bg1, .slice pg1 lg1.length qg1, .bool bg2, .slice pg2 lg2.length qg2] ∧ TwF w (.agg #[.bool bf1, .slice pf1 lf1.length qf1, .bool bf2, .slice pf2 lf2.length qf2]) bf1 lf1 bf2 lf2 ∧ TwF w (.agg #[.bool bg1, .slice pg1 lg1.length qg1, .bool bg2, .slice pg2 lg2.length qg2]) bg1 lg1 bg2 lg2

/-- A matrix's twin. -/
def TwM (w : World) (v : Value) (bf1 : Bool) (lf1 : List Nat) (bf2 : Bool) (lf2 : List Nat) (bg1 : Bool) (lg1 : List Nat) (bg2 : Bool) (lg2 : List Nat) (bh1 : Bool) (lh1 : List Nat) (bh2 : Bool) (lh2 : List Nat) (bk1 : Bool) (lk1 : List Nat) (bk2 : Bool) (lk2 : List Nat) : Prop :=
  ∃ pf1 qf1 pf2 qf2 pg1 qg1 pg2 qg2 ph1 qh1 ph2 qh2 pk1 qk1 pk2 qk2, v = .agg #[.bool bf1, .slice pf1 lf1.length qf1, .bool bf2, .slice pf2 lf2.length qf2, .bool bg1, .slice pg1 lg1.length qg1, .bool bg2, .slice pg2 lg2.length qg2, .bool bh1, .slice ph1 lh1.length qh1, .bool bh2, .slice ph2 lh2.length qh2, .bool bk1, .slice pk1 lk1.length qk1, .bool bk2, .slice pk2 lk2.length qk2] ∧ TwF w (.agg #[.bool bf1, .slice pf1 lf1.length qf1, .bool bf2, .slice pf2 lf2.length qf2]) bf1 lf1 bf2 lf2 ∧ TwF w (.agg #[.bool bg1, .slice pg1 lg1.length qg1, .bool bg2, .slice pg2 lg2.length qg2]) bg1 lg1 bg2 lg2 ∧ TwF w (.agg #[.bool bh1, .slice ph1 lh1.length qh1, .bool bh2, .slice ph2 lh2.length qh2]) bh1 lh1 bh2 lh2 ∧ TwF w (.agg #[.bool bk1, .slice pk1 lk1.length qk1, .bool bk2, .slice pk2 lk2.length qk2]) bk1 lk1 bk2 lk2

set_option maxRecDepth 100000 in
set_option maxHeartbeats 6400000 in
theorem leftFrac_c (bf1 : Bool) (lf1 : List Nat) (bf2 : Bool) (lf2 : List Nat) (af1 af1' : Option Addr) (mf1 cf1 cf1' : Nat) (af2 af2' : Option Addr) (mf2 cf2 cf2' : Nat) (w : World) (kf1 : lf1.length ≤ 4294967296) (kf2 : lf2.length ≤ 4294967296) (t0 : TwinR w (.agg #[.bool bf1, .slice af1' mf1 cf1']) bf1 lf1) (t1 : TwinR w (.agg #[.bool bf2, .slice af2' mf2 cf2']) bf2 lf2) (u0 : AnyR w (.agg #[.bool bf1, .slice af1 mf1 cf1]) bf1 lf1) (u1 : AnyR w (.agg #[.bool bf2, .slice af2 mf2 cf2]) bf2 lf2) :
    Calls Tryz.prog 23 #[.agg #[.bool bf1, .slice af1' mf1 cf1', .bool bf2, .slice af2' mf2 cf2'], .agg #[.bool bf1, .slice af1 mf1 cf1, .bool bf2, .slice af2 mf2 cf2]] w fun e w' => e = .returned (.bool true) ∧ Ext w w' := by
  have K0 := mkHid (fun W (e : Ext w W) => leftInt_c _ _ bf1 lf1 W kf1 (t0.ext e) (u0.ext e))
  have K1 := mkHid (fun W (e : Ext w W) => leftInt_c _ _ bf2 lf2 W kf2 (t1.ext e) (u1.ext e))
  clear t0 t1 u0 u1 kf1 kf2
  obtain ⟨wb, hwb⟩ : ∃ wb, wb = (w.alloc (.cells #[.bool bf1, .slice af1' mf1 cf1', .bool bf2, .slice af2' mf2 cf2'] 27)).alloc (.cells #[.bool bf1, .slice af1 mf1 cf1, .bool bf2, .slice af2 mf2 cf2] 27) := ⟨_, rfl⟩
  have hE : Ext w wb := by rw [hwb]; exact ((Ext.refl w).al _).al _
  have z0 : wb.heap[w.heap.size]? = some (.cells #[.bool bf1, .slice af1' mf1 cf1', .bool bf2, .slice af2' mf2 cf2'] 27 (0, 0)) := by rw [hwb]; exact (heap_alloc_old _ _ (by simp)).trans (heap_alloc_new _ _)
  have z1 : wb.heap[w.heap.size + 1]? = some (.cells #[.bool bf1, .slice af1 mf1 cf1, .bool bf2, .slice af2 mf2 cf2] 27 (0, 0)) := by rw [hwb]; exact heap_at _ _ _ (by simp)
  replace hwb := mkHid hwb
  replace z0 := mkHid z0
  replace z1 := mkHid z1
  replace hE := mkHid hE
  go_enter Tryz.func23, Tryz.ntmps23
  go_wp2_with fail
  rw [← hwb.out]
  clear hwb
  refine (K0.out _ hE.out).mono ?_
  rintro e w1 ⟨rfl, hE1⟩
  replace z0 := mkHid (hE1.blk z0.out)
  replace z1 := mkHid (hE1.blk z1.out)
  replace hE := mkHid (hE.out.trans hE1)
  clear hE1
  have y0 : w1.cell? ⟨w.heap.size, 2, none⟩ = some (.bool bf2) := row16_cells z0.out 2
  have x0 : w1.cell? ⟨w.heap.size + 1, 2, none⟩ = some (.bool bf2) := row16_cells z1.out 2
  have y1 : w1.cell? ⟨w.heap.size, 3, none⟩ = some (.slice af2' mf2 cf2') := row16_cells z0.out 3
  have x1 : w1.cell? ⟨w.heap.size + 1, 3, none⟩ = some (.slice af2 mf2 cf2) := row16_cells z1.out 3
  go_wp2_with fail
  clear x0 y0 x1 y1
  refine (K1.out _ hE.out).mono ?_
  rintro e w2 ⟨rfl, hE2⟩
  replace z0 := mkHid (hE2.blk z0.out)
  replace z1 := mkHid (hE2.blk z1.out)
  replace hE := mkHid (hE.out.trans hE2)
  clear hE2
  go_wp2_with fail
  go_ret
  exact ⟨rfl, hE.out⟩

theorem leftFrac_f (v x : Value) (b1 : Bool) (l1 : List Nat) (b2 : Bool) (l2 : List Nat) (w : World) (k1 : l1.length ≤ 4294967296) (k2 : l2.length ≤ 4294967296) (t : TwF w v b1 l1 b2 l2) (u : AnyL w x b1 l1 b2 l2) :
    Calls Tryz.prog 23 #[v, x] w fun e w' => e = .returned (.bool true) ∧ Ext w w' := by
  obtain ⟨a1, c1, a2, c2, rfl, t1, t2⟩ := t
  obtain ⟨d1, e1, d2, e2, rfl, -, -, u1, u2⟩ := u
  exact leftFrac_c b1 l1 b2 l2 _ _ _ _ _ _ _ _ _ _ w k1 k2 t1 t2 u1 u2

end Go.Proofs.YtplhndmncjoghaaGreatDoor
namespace Go.Proofs.YtplhndmncjoghaaGreatDoor
set_option maxRecDepth 100000
open Go Go.RowKit Go.Proofs
/-- A fraction's twin in rows of its own. -/
def TwFK (lo : Nat) (w : World) (v : Value) (b1 : Bool) (l1 : List Nat) (b2 : Bool) (l2 : List Nat) : Prop :=
  ∃ g1 g2, v = .agg #[.bool b1, .slice (some ⟨g1, 0, none⟩) l1.length (l1.length + 1), .bool b2, .slice (some ⟨g2, 0, none⟩) l2.length (l2.length + 1)] ∧ g1 ≠ g2 ∧ lo ≤ g1 ∧ lo ≤ g2 ∧ TwG w g1 l1 ∧ TwG w g2 l2
theorem TwFK.ext {lo : Nat} {w w' : World} {v : Value} {b1 b2 : Bool} {l1 l2 : List Nat} (h : TwFK lo w v b1 l1 b2 l2) (e : Ext w w') : TwFK lo w' v b1 l1 b2 l2 := by
  obtain ⟨g1, g2, h1, h2, h3, h4, h5, h6⟩ := h
  exact ⟨g1, g2, h1, h2, h3, h4, h5.ext e, h6.ext e⟩
theorem TwFK.twin {lo : Nat} {w : World} {v : Value} {b1 b2 : Bool} {l1 l2 : List Nat} (h : TwFK lo w v b1 l1 b2 l2) : TwF w v b1 l1 b2 l2 := by
  obtain ⟨g1, g2, h1, h2, h3, h4, h5, h6⟩ := h
  exact ⟨_, _, _, _, h1, h5.twin b1, h6.twin b2⟩
theorem TwFK.new {lo : Nat} {w w' : World} {v : Value} {b1 b2 : Bool} {l1 l2 : List Nat} (h : TwFK w.heap.size w' v b1 l1 b2 l2) (hl : lo ≤ w.heap.size) : TwFK lo w' v b1 l1 b2 l2 ∧ ∀ g ∈ Aloof.blks v, w.heap.size ≤ g ∧ g < w'.heap.size := by
  obtain ⟨g1, g2, rfl, h2, h3, h4, h5, h6⟩ := h
  refine ⟨⟨g1, g2, rfl, h2, by omega, by omega, h5, h6⟩, fun k hk => ?_⟩
  have : g1 = k ∨ g2 = k := by simpa [Aloof.blks, Aloof.blk1, Value.cells] using hk
  rcases this with rfl | rfl
  · exact ⟨h3, h5.lt⟩
  · exact ⟨h4, h6.lt⟩
theorem ast_twFK {ss : List Aloof.FSpec} (lo : Nat) (b1 : Bool) (l1 : List Nat) (b2 : Bool) (l2 : List Nat) (h : Aloof.StableAll Ext ss) : Aloof.StableAll Ext (.fresh (fun W v => TwFK lo W v b1 l1 b2 l2) :: ss) :=
  ⟨fun _ _ _ e h => ⟨TwFK.ext h.1 e, fun g hg => Nat.lt_of_lt_of_le (h.2 g hg) e.size⟩, h⟩
set_option maxRecDepth 100000 in
set_option maxHeartbeats 3200000 in
theorem twinFrac_k (v : Value) (b1 : Bool) (l1 : List Nat) (b2 : Bool) (l2 : List Nat) (w : World) (h : AnyL w v b1 l1 b2 l2) :
    Calls Tryz.prog 20 #[v] w fun e w' => ∃ v', e = .returned v' ∧ TwFK w.heap.size w' v' b1 l1 b2 l2 ∧ Ext w w' := by
  obtain ⟨a1, c1, a2, c2, rfl, k1, k2, h1, h2⟩ := h
  have T1 := mkHid (fun W (e : Ext w W) => twinInt_k _ b1 l1 W k1 (h1.ext e))
  have T2 := mkHid (fun W (e : Ext w W) => twinInt_k _ b2 l2 W k2 (h2.ext e))
  clear h1 h2 k1 k2
  obtain ⟨n1, hn1⟩ : ∃ n, n = l1.length := ⟨_, rfl⟩
  obtain ⟨n2, hn2⟩ : ∃ n, n = l2.length := ⟨_, rfl⟩
  rw [← hn1] at T1 ⊢
  rw [← hn2] at T2 ⊢
  replace hn1 := mkHid hn1
  replace hn2 := mkHid hn2
  go_enter Tryz.func20, Tryz.ntmps20
  go_wp2_with fail
  obtain ⟨wb, hwb⟩ : ∃ wb, wb = (w.alloc (.cells #[.bool b1, .slice a1 n1 c1, .bool b2, .slice a2 n2 c2] 27)).alloc (.cells #[.bool false, .slice none 0 0, .bool false, .slice none 0 0] 27) := ⟨_, rfl⟩
  have hE : Ext w wb := by rw [hwb]; exact ((Ext.refl w).al _).al _
  have c10 : ∀ W, Ext wb W → W.cell? ⟨w.heap.size, 0, none⟩ = some (.bool b1) := fun W e => e.cell (by rw [hwb]; go_simp)
  have c11 : ∀ W, Ext wb W → W.cell? ⟨w.heap.size, 1, none⟩ = some (.slice a1 n1 c1) := fun W e => e.cell (by rw [hwb]; go_simp)
  have c12 : ∀ W, Ext wb W → W.cell? ⟨w.heap.size, 2, none⟩ = some (.bool b2) := fun W e => e.cell (by rw [hwb]; go_simp)
  have c13 : ∀ W, Ext wb W → W.cell? ⟨w.heap.size, 3, none⟩ = some (.slice a2 n2 c2) := fun W e => e.cell (by rw [hwb]; go_simp)
  have hB : wb.heap[w.heap.size + 1]? = some (.cells #[.bool false, .slice none 0 0, .bool false, .slice none 0 0] 27) := by rw [hwb]; exact heap_at _ _ _ (by simp)
  have hlo : Hid (w.heap.size + 2 = wb.heap.size) := mkHid (by rw [hwb]; simp)
  rw [← hwb]
  replace hB := mkHid hB
  replace hE := mkHid hE
  clear hwb
  have hlo : w.heap.size + 2 = wb.heap.size := hlo.out
  apply region_aloof [.val _, .val _, .fresh (fun W v => TwinK (w.heap.size + 2) W v b1 l1), .val _, .val _, .fresh (fun W v => TwinK (w.heap.size + 2) W v b2 l2)] (by kernel_rfl) (ast_val _ (ast_val _ (ast_twinK _ _ _ (ast_val _ (ast_val _ (ast_twinK _ _ _ trivial))))))
  iterate 2 (refine ⟨fun W hW _ => by go_simp; exact ⟨Ext.refl _, rfl⟩, ?_⟩)
  refine ⟨fun W hW _ => ?g2, fun x2 => ?_⟩
  case g2 =>
    go_simp
    refine (T1.out W (hE.out.trans hW)).mono ?_
    rintro e w' ⟨v, rfl, h1, h2⟩
    exact ⟨v, rfl, h2, h1.new (by have := hW.size; omega)⟩
  iterate 2 (refine ⟨fun W hW _ => by go_simp; exact ⟨Ext.refl _, rfl⟩, ?_⟩)
  refine ⟨fun W hW _ => ?g5, fun x5 => fun W hW hF hA => ?fin⟩
  case g5 =>
    go_simp
    refine (T2.out W (hE.out.trans hW)).mono ?_
    rintro e w' ⟨v, rfl, h1, h2⟩
    exact ⟨v, rfl, h2, h1.new (by have := hW.size; omega)⟩
  case fin =>
    have d2 : TwinK (w.heap.size + 2) W x2 b1 l1 := (hF.2.1 rfl).1
    have d5 : TwinK (w.heap.size + 2) W x5 b2 l2 := (hF.1 rfl).1
    have hap := hA (2, .fresh (fun W v => TwinK (w.heap.size + 2) W v b1 l1), x2) (5, .fresh (fun W v => TwinK (w.heap.size + 2) W v b2 l2), x5) (by simp) (by simp) rfl rfl (by simp)
    obtain ⟨g1, rfl, p1, p2⟩ := d2
    obtain ⟨g2, rfl, p3, p4⟩ := d5
    have hne : g1 ≠ g2 := by
      intro e
      subst e
      exact hap g1 (by simp [Aloof.blks, Aloof.blk1, Value.cells]) (by simp [Aloof.blks, Aloof.blk1, Value.cells])
    have hBW := hW.blk hB.out
    rw [hn1.out, hn2.out]
    have FR := mkHid (show TwFK w.heap.size (W.setRow (w.heap.size + 1) #[.bool b1, .slice (some ⟨g1, 0, none⟩) l1.length (l1.length + 1), .bool b2, .slice (some ⟨g2, 0, none⟩) l2.length (l2.length + 1)]) (.agg #[.bool b1, .slice (some ⟨g1, 0, none⟩) l1.length (l1.length + 1), .bool b2, .slice (some ⟨g2, 0, none⟩) l2.length (l2.length + 1)]) b1 l1 b2 l2 from ⟨g1, g2, rfl, hne, by omega, by omega, p2.other (by omega) _, p4.other (by omega) _⟩)
    have FE := mkHid ((hE.out.trans hW).row (show w.heap.size ≤ w.heap.size + 1 by omega) #[.bool b1, .slice (some ⟨g1, 0, none⟩) l1.length (l1.length + 1), .bool b2, .slice (some ⟨g2, 0, none⟩) l2.length (l2.length + 1)])
    clear hF hA hap p2 p4 c10 c11 c12 c13 hW
    go_simp
    go_wp2_with (refine wpList_store_row rfl 27 (.tmp 2) (.tmp 9) rfl (w.heap.size + 1) #[.bool b1, .slice (some ⟨g1, 0, none⟩) l1.length (l1.length + 1), .bool b2, .slice (some ⟨g2, 0, none⟩) l2.length (l2.length + 1)] rfl rfl 27 _ hBW (by kernel_rfl) rfl (by kernel_rfl) ?_)
    exact bodyPost_ret (results_cell_row rfl _ _ (w.heap.size + 1) 27 #[.bool b1, .slice (some ⟨g1, 0, none⟩) l1.length (l1.length + 1), .bool b2, .slice (some ⟨g2, 0, none⟩) l2.length (l2.length + 1)] (0, 0) _ rfl (setRow_heap _ _ _ _ _ _ hBW) Tryz.underlying27 rfl (by kernel_rfl)) rfl ⟨_, rfl, FR.out, FE.out⟩

end Go.Proofs.YtplhndmncjoghaaGreatDoor
namespace Go.Proofs.YtplhndmncjoghaaGreatDoor
set_option maxRecDepth 100000
open Go Go.RowKit Go.Proofs
/-- A twin in rows of its own. -/
def TwEK (lo : Nat) (w : World) (v : Value) (kd : Int) (b1 : Bool) (l1 : List Nat) (b2 : Bool) (l2 : List Nat) (b3 : Bool) (l3 : List Nat) (b4 : Bool) (l4 : List Nat) : Prop :=
  ∃ g1 g2 g3 g4, v = .agg #[.int .u8 kd, .bool b1, .slice (some ⟨g1, 0, none⟩) l1.length (l1.length + 1), .bool b2, .slice (some ⟨g2, 0, none⟩) l2.length (l2.length + 1), .bool b3, .slice (some ⟨g3, 0, none⟩) l3.length (l3.length + 1), .bool b4, .slice (some ⟨g4, 0, none⟩) l4.length (l4.length + 1)] ∧ (g1 ≠ g2 ∧ g1 ≠ g3 ∧ g1 ≠ g4 ∧ g2 ≠ g3 ∧ g2 ≠ g4 ∧ g3 ≠ g4) ∧ (lo ≤ g1 ∧ lo ≤ g2 ∧ lo ≤ g3 ∧ lo ≤ g4) ∧ TwG w g1 l1 ∧ TwG w g2 l2 ∧ TwG w g3 l3 ∧ TwG w g4 l4
theorem TwEK.ext {lo : Nat} {w w' : World} {v : Value} {kd : Int} {b1 : Bool} {l1 : List Nat} {b2 : Bool} {l2 : List Nat} {b3 : Bool} {l3 : List Nat} {b4 : Bool} {l4 : List Nat} (h : TwEK lo w v kd b1 l1 b2 l2 b3 l3 b4 l4) (e : Ext w w') : TwEK lo w' v kd b1 l1 b2 l2 b3 l3 b4 l4 := by
  obtain ⟨g1, g2, g3, g4, h1, h2, h3, t1, t2, t3, t4⟩ := h
  exact ⟨g1, g2, g3, g4, h1, h2, h3, t1.ext e, t2.ext e, t3.ext e, t4.ext e⟩
theorem TwEK.new {lo : Nat} {w w' : World} {v : Value} {kd : Int} {b1 : Bool} {l1 : List Nat} {b2 : Bool} {l2 : List Nat} {b3 : Bool} {l3 : List Nat} {b4 : Bool} {l4 : List Nat} (h : TwEK w.heap.size w' v kd b1 l1 b2 l2 b3 l3 b4 l4) (hl : lo ≤ w.heap.size) : TwEK lo w' v kd b1 l1 b2 l2 b3 l3 b4 l4 ∧ ∀ g ∈ Aloof.blks v, w.heap.size ≤ g ∧ g < w'.heap.size := by
  obtain ⟨g1, g2, g3, g4, rfl, h2, h3, t1, t2, t3, t4⟩ := h
  refine ⟨⟨g1, g2, g3, g4, rfl, h2, ⟨by omega, by omega, by omega, by omega⟩, t1, t2, t3, t4⟩, fun k hk => ?_⟩
  have : g1 = k ∨ g2 = k ∨ g3 = k ∨ g4 = k := by simpa [Aloof.blks, Aloof.blk1, Value.cells] using hk
  rcases this with rfl | rfl | rfl | rfl
  · exact ⟨h3.1, t1.lt⟩
  · exact ⟨h3.2.1, t2.lt⟩
  · exact ⟨h3.2.2.1, t3.lt⟩
  · exact ⟨h3.2.2.2, t4.lt⟩
theorem ast_TwEK {ss : List Aloof.FSpec} (lo : Nat) (kd : Int) (b1 : Bool) (l1 : List Nat) (b2 : Bool) (l2 : List Nat) (b3 : Bool) (l3 : List Nat) (b4 : Bool) (l4 : List Nat) (h : Aloof.StableAll Ext ss) : Aloof.StableAll Ext (.fresh (fun W v => TwEK lo W v kd b1 l1 b2 l2 b3 l3 b4 l4) :: ss) :=
  ⟨fun _ _ _ e h => ⟨TwEK.ext h.1 e, fun g hg => Nat.lt_of_lt_of_le (h.2 g hg) e.size⟩, h⟩
/-- A twin in rows of its own. -/
def TwPK (lo : Nat) (w : World) (v : Value) (nm : ByteArray) (kd co : Int) (b1 : Bool) (l1 : List Nat) (b2 : Bool) (l2 : List Nat) (b3 : Bool) (l3 : List Nat) (b4 : Bool) (l4 : List Nat) : Prop :=
  ∃ g1 g2 g3 g4, v = .agg #[.string nm, .int .u8 kd, .bool b1, .slice (some ⟨g1, 0, none⟩) l1.length (l1.length + 1), .bool b2, .slice (some ⟨g2, 0, none⟩) l2.length (l2.length + 1), .bool b3, .slice (some ⟨g3, 0, none⟩) l3.length (l3.length + 1), .bool b4, .slice (some ⟨g4, 0, none⟩) l4.length (l4.length + 1), .int .i64 co] ∧ (g1 ≠ g2 ∧ g1 ≠ g3 ∧ g1 ≠ g4 ∧ g2 ≠ g3 ∧ g2 ≠ g4 ∧ g3 ≠ g4) ∧ (lo ≤ g1 ∧ lo ≤ g2 ∧ lo ≤ g3 ∧ lo ≤ g4) ∧ TwG w g1 l1 ∧ TwG w g2 l2 ∧ TwG w g3 l3 ∧ TwG w g4 l4
theorem TwPK.ext {lo : Nat} {w w' : World} {v : Value} {nm : ByteArray} {kd co : Int} {b1 : Bool} {l1 : List Nat} {b2 : Bool} {l2 : List Nat} {b3 : Bool} {l3 : List Nat} {b4 : Bool} {l4 : List Nat} (h : TwPK lo w v nm kd co b1 l1 b2 l2 b3 l3 b4 l4) (e : Ext w w') : TwPK lo w' v nm kd co b1 l1 b2 l2 b3 l3 b4 l4 := by
  obtain ⟨g1, g2, g3, g4, h1, h2, h3, t1, t2, t3, t4⟩ := h
  exact ⟨g1, g2, g3, g4, h1, h2, h3, t1.ext e, t2.ext e, t3.ext e, t4.ext e⟩
theorem TwPK.new {lo : Nat} {w w' : World} {v : Value} {nm : ByteArray} {kd co : Int} {b1 : Bool} {l1 : List Nat} {b2 : Bool} {l2 : List Nat} {b3 : Bool} {l3 : List Nat} {b4 : Bool} {l4 : List Nat} (h : TwPK w.heap.size w' v nm kd co b1 l1 b2 l2 b3 l3 b4 l4) (hl : lo ≤ w.heap.size) : TwPK lo w' v nm kd co b1 l1 b2 l2 b3 l3 b4 l4 ∧ ∀ g ∈ Aloof.blks v, w.heap.size ≤ g ∧ g < w'.heap.size := by
  obtain ⟨g1, g2, g3, g4, rfl, h2, h3, t1, t2, t3, t4⟩ := h
  refine ⟨⟨g1, g2, g3, g4, rfl, h2, ⟨by omega, by omega, by omega, by omega⟩, t1, t2, t3, t4⟩, fun k hk => ?_⟩
  have : g1 = k ∨ g2 = k ∨ g3 = k ∨ g4 = k := by simpa [Aloof.blks, Aloof.blk1, Value.cells] using hk
  rcases this with rfl | rfl | rfl | rfl
  · exact ⟨h3.1, t1.lt⟩
  · exact ⟨h3.2.1, t2.lt⟩
  · exact ⟨h3.2.2.1, t3.lt⟩
  · exact ⟨h3.2.2.2, t4.lt⟩
theorem ast_TwPK {ss : List Aloof.FSpec} (lo : Nat) (nm : ByteArray) (kd co : Int) (b1 : Bool) (l1 : List Nat) (b2 : Bool) (l2 : List Nat) (b3 : Bool) (l3 : List Nat) (b4 : Bool) (l4 : List Nat) (h : Aloof.StableAll Ext ss) : Aloof.StableAll Ext (.fresh (fun W v => TwPK lo W v nm kd co b1 l1 b2 l2 b3 l3 b4 l4) :: ss) :=
  ⟨fun _ _ _ e h => ⟨TwPK.ext h.1 e, fun g hg => Nat.lt_of_lt_of_le (h.2 g hg) e.size⟩, h⟩
set_option maxRecDepth 100000 in
set_option maxHeartbeats 6400000 in
theorem twinElement_k (kd : Int) (b1 : Bool) (l1 : List Nat) (a1 : Option Addr) (n1 c1 : Nat) (b2 : Bool) (l2 : List Nat) (a2 : Option Addr) (n2 c2 : Nat) (b3 : Bool) (l3 : List Nat) (a3 : Option Addr) (n3 c3 : Nat) (b4 : Bool) (l4 : List Nat) (a4 : Option Addr) (n4 c4 : Nat) (w : World) (h1 : AnyL w (.agg #[.bool b1, .slice a1 n1 c1, .bool b2, .slice a2 n2 c2]) b1 l1 b2 l2) (h2 : AnyL w (.agg #[.bool b3, .slice a3 n3 c3, .bool b4, .slice a4 n4 c4]) b3 l3 b4 l4) :
    Calls Tryz.prog 33 #[.agg #[.int .u8 kd, .bool b1, .slice a1 n1 c1, .bool b2, .slice a2 n2 c2, .bool b3, .slice a3 n3 c3, .bool b4, .slice a4 n4 c4]] w fun e w' => ∃ v', e = .returned v' ∧ TwEK w.heap.size w' v' kd b1 l1 b2 l2 b3 l3 b4 l4 ∧ Ext w w' := by
  have T1 := mkHid (fun W (e : Ext w W) => twinFrac_k _ b1 l1 b2 l2 W (h1.ext e))
  have T2 := mkHid (fun W (e : Ext w W) => twinFrac_k _ b3 l3 b4 l4 W (h2.ext e))
  clear h1 h2
  go_enter Tryz.func33, Tryz.ntmps33
  go_wp2_with fail
  obtain ⟨wb, hwb⟩ : ∃ wb, wb = (w.alloc (.cells #[.int .u8 kd, .bool b1, .slice a1 n1 c1, .bool b2, .slice a2 n2 c2, .bool b3, .slice a3 n3 c3, .bool b4, .slice a4 n4 c4] 29)).alloc (.cells #[.int .u8 0, .bool false, .slice none 0 0, .bool false, .slice none 0 0, .bool false, .slice none 0 0, .bool false, .slice none 0 0] 29) := ⟨_, rfl⟩
  have hE : Ext w wb := by rw [hwb]; exact ((Ext.refl w).al _).al _
  have z0 : wb.heap[w.heap.size]? = some (.cells #[.int .u8 kd, .bool b1, .slice a1 n1 c1, .bool b2, .slice a2 n2 c2, .bool b3, .slice a3 n3 c3, .bool b4, .slice a4 n4 c4] 29 (0, 0)) := by rw [hwb]; exact (heap_alloc_old _ _ (by simp)).trans (heap_alloc_new _ _)
  have hB : wb.heap[w.heap.size + 1]? = some (.cells #[.int .u8 0, .bool false, .slice none 0 0, .bool false, .slice none 0 0, .bool false, .slice none 0 0, .bool false, .slice none 0 0] 29 (0, 0)) := by rw [hwb]; exact heap_at _ _ _ (by simp)
  have hlo : Hid (w.heap.size + 2 = wb.heap.size) := mkHid (by rw [hwb]; simp)
  have z_0 : ∀ W, Ext wb W → W.cell? ⟨w.heap.size, 0, none⟩ = some (.int .u8 kd) := fun W e => e.cell (by simp [World.cell?, z0])
  have z_1 : ∀ W, Ext wb W → W.cell? ⟨w.heap.size, 1, none⟩ = some (.bool b1) := fun W e => e.cell (by simp [World.cell?, z0])
  have z_2 : ∀ W, Ext wb W → W.cell? ⟨w.heap.size, 2, none⟩ = some (.slice a1 n1 c1) := fun W e => e.cell (by simp [World.cell?, z0])
  have z_3 : ∀ W, Ext wb W → W.cell? ⟨w.heap.size, 3, none⟩ = some (.bool b2) := fun W e => e.cell (by simp [World.cell?, z0])
  have z_4 : ∀ W, Ext wb W → W.cell? ⟨w.heap.size, 4, none⟩ = some (.slice a2 n2 c2) := fun W e => e.cell (by simp [World.cell?, z0])
  have z_5 : ∀ W, Ext wb W → W.cell? ⟨w.heap.size, 5, none⟩ = some (.bool b3) := fun W e => e.cell (by simp [World.cell?, z0])
  have z_6 : ∀ W, Ext wb W → W.cell? ⟨w.heap.size, 6, none⟩ = some (.slice a3 n3 c3) := fun W e => e.cell (by simp [World.cell?, z0])
  have z_7 : ∀ W, Ext wb W → W.cell? ⟨w.heap.size, 7, none⟩ = some (.bool b4) := fun W e => e.cell (by simp [World.cell?, z0])
  have z_8 : ∀ W, Ext wb W → W.cell? ⟨w.heap.size, 8, none⟩ = some (.slice a4 n4 c4) := fun W e => e.cell (by simp [World.cell?, z0])
  rw [← hwb]
  clear hwb z0
  replace hB := mkHid hB
  replace hE := mkHid hE
  have hlo : w.heap.size + 2 = wb.heap.size := hlo.out
  apply region_aloof [.val _, .val _, .val _, .val _, .fresh (fun W v => TwFK (w.heap.size + 2) W v b1 l1 b2 l2), .val _, .val _, .fresh (fun W v => TwFK (w.heap.size + 2) W v b3 l3 b4 l4)] (by kernel_rfl) (ast_val _ (ast_val _ (ast_val _ (ast_val _ (ast_twFK _ _ _ _ _ (ast_val _ (ast_val _ (ast_twFK _ _ _ _ _ trivial))))))))
  iterate 4 (refine ⟨fun W hW _ => by go_simp; exact ⟨Ext.refl _, rfl⟩, ?_⟩)
  refine ⟨fun W hW _ => ?g2, fun x2 => ?_⟩
  case g2 =>
    go_simp
    refine (T1.out W (hE.out.trans hW)).mono ?_
    rintro e w' ⟨v, rfl, h1, h2⟩
    exact ⟨v, rfl, h2, h1.new (by have := hW.size; omega)⟩
  iterate 2 (refine ⟨fun W hW _ => by go_simp; exact ⟨Ext.refl _, rfl⟩, ?_⟩)
  refine ⟨fun W hW _ => ?g5, fun x5 => fun W hW hF hA => ?fin⟩
  case g5 =>
    go_simp
    refine (T2.out W (hE.out.trans hW)).mono ?_
    rintro e w' ⟨v, rfl, h1, h2⟩
    exact ⟨v, rfl, h2, h1.new (by have := hW.size; omega)⟩
  case fin =>
    have d2 : TwFK (w.heap.size + 2) W x2 b1 l1 b2 l2 := (hF.2.1 rfl).1
    have d5 : TwFK (w.heap.size + 2) W x5 b3 l3 b4 l4 := (hF.1 rfl).1
    have hap := hA (4, .fresh (fun W v => TwFK (w.heap.size + 2) W v b1 l1 b2 l2), x2) (7, .fresh (fun W v => TwFK (w.heap.size + 2) W v b3 l3 b4 l4), x5) (by simp) (by simp) rfl rfl (by simp)
    obtain ⟨g1, g2, rfl, p1, p2, p3, p4, p5⟩ := d2
    obtain ⟨g3, g4, rfl, q1, q2, q3, q4, q5⟩ := d5
    have hx : ∀ g, (g = g1 ∨ g = g2) → (g = g3 ∨ g = g4) → False := fun g e1 e2 => hap g (by simp [Aloof.blks, Aloof.blk1, Value.cells]; rcases e1 with rfl | rfl <;> simp) (by simp [Aloof.blks, Aloof.blk1, Value.cells]; rcases e2 with rfl | rfl <;> simp)
    have hne : g1 ≠ g2 ∧ g1 ≠ g3 ∧ g1 ≠ g4 ∧ g2 ≠ g3 ∧ g2 ≠ g4 ∧ g3 ≠ g4 := ⟨p1, fun e => hx g1 (.inl rfl) (.inl e), fun e => hx g1 (.inl rfl) (.inr e), fun e => hx g2 (.inr rfl) (.inl e), fun e => hx g2 (.inr rfl) (.inr e), q1⟩
    clear hx
    have hBW := hW.blk hB.out
    have FR := mkHid (show TwEK w.heap.size (W.setRow (w.heap.size + 1) #[.int .u8 kd, .bool b1, .slice (some ⟨g1, 0, none⟩) l1.length (l1.length + 1), .bool b2, .slice (some ⟨g2, 0, none⟩) l2.length (l2.length + 1), .bool b3, .slice (some ⟨g3, 0, none⟩) l3.length (l3.length + 1), .bool b4, .slice (some ⟨g4, 0, none⟩) l4.length (l4.length + 1)]) (.agg #[.int .u8 kd, .bool b1, .slice (some ⟨g1, 0, none⟩) l1.length (l1.length + 1), .bool b2, .slice (some ⟨g2, 0, none⟩) l2.length (l2.length + 1), .bool b3, .slice (some ⟨g3, 0, none⟩) l3.length (l3.length + 1), .bool b4, .slice (some ⟨g4, 0, none⟩) l4.length (l4.length + 1)]) kd b1 l1 b2 l2 b3 l3 b4 l4 from ⟨g1, g2, g3, g4, rfl, hne, ⟨by omega, by omega, by omega, by omega⟩, p4.other (by omega) _, p5.other (by omega) _, q4.other (by omega) _, q5.other (by omega) _⟩)
    have FE := mkHid ((hE.out.trans hW).row (show w.heap.size ≤ w.heap.size + 1 by omega) #[.int .u8 kd, .bool b1, .slice (some ⟨g1, 0, none⟩) l1.length (l1.length + 1), .bool b2, .slice (some ⟨g2, 0, none⟩) l2.length (l2.length + 1), .bool b3, .slice (some ⟨g3, 0, none⟩) l3.length (l3.length + 1), .bool b4, .slice (some ⟨g4, 0, none⟩) l4.length (l4.length + 1)])
    clear hF hA hap p4 p5 q4 q5 hne hW z_0 z_1 z_2 z_3 z_4 z_5 z_6 z_7 z_8
    go_simp
    go_wp2_with (refine wpList_store_row rfl 29 (.tmp 2) (.tmp 11) rfl (w.heap.size + 1) #[.int .u8 kd, .bool b1, .slice (some ⟨g1, 0, none⟩) l1.length (l1.length + 1), .bool b2, .slice (some ⟨g2, 0, none⟩) l2.length (l2.length + 1), .bool b3, .slice (some ⟨g3, 0, none⟩) l3.length (l3.length + 1), .bool b4, .slice (some ⟨g4, 0, none⟩) l4.length (l4.length + 1)] rfl rfl 29 _ hBW (by kernel_rfl) rfl (by kernel_rfl) ?_)
    exact bodyPost_ret (results_cell_row rfl _ _ (w.heap.size + 1) 29 #[.int .u8 kd, .bool b1, .slice (some ⟨g1, 0, none⟩) l1.length (l1.length + 1), .bool b2, .slice (some ⟨g2, 0, none⟩) l2.length (l2.length + 1), .bool b3, .slice (some ⟨g3, 0, none⟩) l3.length (l3.length + 1), .bool b4, .slice (some ⟨g4, 0, none⟩) l4.length (l4.length + 1)] (0, 0) _ rfl (setRow_heap _ _ _ _ _ _ hBW) Tryz.underlying29 rfl (by kernel_rfl)) rfl ⟨_, rfl, FR.out, FE.out⟩

set_option maxRecDepth 100000 in
set_option maxHeartbeats 6400000 in
theorem twinPart_k (nm : ByteArray) (kd co : Int) (b1 : Bool) (l1 : List Nat) (a1 : Option Addr) (n1 c1 : Nat) (b2 : Bool) (l2 : List Nat) (a2 : Option Addr) (n2 c2 : Nat) (b3 : Bool) (l3 : List Nat) (a3 : Option Addr) (n3 c3 : Nat) (b4 : Bool) (l4 : List Nat) (a4 : Option Addr) (n4 c4 : Nat) (w : World) (h1 : AnyL w (.agg #[.bool b1, .slice a1 n1 c1, .bool b2, .slice a2 n2 c2]) b1 l1 b2 l2) (h2 : AnyL w (.agg #[.bool b3, .slice a3 n3 c3, .bool b4, .slice a4 n4 c4]) b3 l3 b4 l4) :
    Calls Tryz.prog 9 #[.agg #[.string nm, .int .u8 kd, .bool b1, .slice a1 n1 c1, .bool b2, .slice a2 n2 c2, .bool b3, .slice a3 n3 c3, .bool b4, .slice a4 n4 c4, .int .i64 co]] w fun e w' => ∃ v', e = .returned v' ∧ TwPK w.heap.size w' v' nm kd co b1 l1 b2 l2 b3 l3 b4 l4 ∧ Ext w w' := by
  have T1 := mkHid (fun W (e : Ext w W) => twinElement_k kd b1 l1 a1 n1 c1 b2 l2 a2 n2 c2 b3 l3 a3 n3 c3 b4 l4 a4 n4 c4 W (h1.ext e) (h2.ext e))
  clear h1 h2
  go_enter Tryz.func9, Tryz.ntmps9
  go_wp2_with fail
  obtain ⟨wb, hwb⟩ : ∃ wb, wb = (w.alloc (.cells #[.string nm, .int .u8 kd, .bool b1, .slice a1 n1 c1, .bool b2, .slice a2 n2 c2, .bool b3, .slice a3 n3 c3, .bool b4, .slice a4 n4 c4, .int .i64 co] 31)).alloc (.cells #[.string ⟨#[]⟩, .int .u8 0, .bool false, .slice none 0 0, .bool false, .slice none 0 0, .bool false, .slice none 0 0, .bool false, .slice none 0 0, .int .i64 0] 31) := ⟨_, rfl⟩
  have hE : Ext w wb := by rw [hwb]; exact ((Ext.refl w).al _).al _
  have z0 : wb.heap[w.heap.size]? = some (.cells #[.string nm, .int .u8 kd, .bool b1, .slice a1 n1 c1, .bool b2, .slice a2 n2 c2, .bool b3, .slice a3 n3 c3, .bool b4, .slice a4 n4 c4, .int .i64 co] 31 (0, 0)) := by rw [hwb]; exact (heap_alloc_old _ _ (by simp)).trans (heap_alloc_new _ _)
  have hB : wb.heap[w.heap.size + 1]? = some (.cells #[.string ⟨#[]⟩, .int .u8 0, .bool false, .slice none 0 0, .bool false, .slice none 0 0, .bool false, .slice none 0 0, .bool false, .slice none 0 0, .int .i64 0] 31 (0, 0)) := by rw [hwb]; exact heap_at _ _ _ (by simp)
  have hlo : Hid (w.heap.size + 2 = wb.heap.size) := mkHid (by rw [hwb]; simp)
  have z_0 : ∀ W, Ext wb W → W.cell? ⟨w.heap.size, 0, none⟩ = some (.string nm) := fun W e => e.cell (by simp [World.cell?, z0])
  have z_1 : ∀ W, Ext wb W → W.cell? ⟨w.heap.size, 1, none⟩ = some (.int .u8 kd) := fun W e => e.cell (by simp [World.cell?, z0])
  have z_2 : ∀ W, Ext wb W → W.cell? ⟨w.heap.size, 2, none⟩ = some (.bool b1) := fun W e => e.cell (by simp [World.cell?, z0])
  have z_3 : ∀ W, Ext wb W → W.cell? ⟨w.heap.size, 3, none⟩ = some (.slice a1 n1 c1) := fun W e => e.cell (by simp [World.cell?, z0])
  have z_4 : ∀ W, Ext wb W → W.cell? ⟨w.heap.size, 4, none⟩ = some (.bool b2) := fun W e => e.cell (by simp [World.cell?, z0])
  have z_5 : ∀ W, Ext wb W → W.cell? ⟨w.heap.size, 5, none⟩ = some (.slice a2 n2 c2) := fun W e => e.cell (by simp [World.cell?, z0])
  have z_6 : ∀ W, Ext wb W → W.cell? ⟨w.heap.size, 6, none⟩ = some (.bool b3) := fun W e => e.cell (by simp [World.cell?, z0])
  have z_7 : ∀ W, Ext wb W → W.cell? ⟨w.heap.size, 7, none⟩ = some (.slice a3 n3 c3) := fun W e => e.cell (by simp [World.cell?, z0])
  have z_8 : ∀ W, Ext wb W → W.cell? ⟨w.heap.size, 8, none⟩ = some (.bool b4) := fun W e => e.cell (by simp [World.cell?, z0])
  have z_9 : ∀ W, Ext wb W → W.cell? ⟨w.heap.size, 9, none⟩ = some (.slice a4 n4 c4) := fun W e => e.cell (by simp [World.cell?, z0])
  have z_10 : ∀ W, Ext wb W → W.cell? ⟨w.heap.size, 10, none⟩ = some (.int .i64 co) := fun W e => e.cell (by simp [World.cell?, z0])
  rw [← hwb]
  clear hwb z0
  replace hB := mkHid hB
  replace hE := mkHid hE
  have hlo : w.heap.size + 2 = wb.heap.size := hlo.out
  apply region_aloof [.val _, .val _, .val _, .val _, .fresh (fun W v => TwEK (w.heap.size + 2) W v kd b1 l1 b2 l2 b3 l3 b4 l4), .val _, .val _] (by kernel_rfl) (ast_val _ (ast_val _ (ast_val _ (ast_val _ (ast_TwEK _ _ _ _ _ _ _ _ _ _ (ast_val _ (ast_val _ trivial)))))))
  iterate 4 (refine ⟨fun W hW _ => by go_simp; exact ⟨Ext.refl _, rfl⟩, ?_⟩)
  refine ⟨fun W hW _ => ?g2, fun x2 => ?_⟩
  case g2 =>
    go_simp
    refine (T1.out W (hE.out.trans hW)).mono ?_
    rintro e w' ⟨v, rfl, h1, h2⟩
    exact ⟨v, rfl, h2, h1.new (by have := hW.size; omega)⟩
  iterate 2 (refine ⟨fun W hW _ => by go_simp; exact ⟨Ext.refl _, rfl⟩, ?_⟩)
  intro W hW hF hA
  have d2 : TwEK (w.heap.size + 2) W x2 kd b1 l1 b2 l2 b3 l3 b4 l4 := (hF.1 rfl).1
  obtain ⟨g1, g2, g3, g4, rfl, p1, p2, p3, p4, p5, p6⟩ := d2
  have hBW := hW.blk hB.out
  have FR := mkHid (show TwPK w.heap.size (W.setRow (w.heap.size + 1) #[.string nm, .int .u8 kd, .bool b1, .slice (some ⟨g1, 0, none⟩) l1.length (l1.length + 1), .bool b2, .slice (some ⟨g2, 0, none⟩) l2.length (l2.length + 1), .bool b3, .slice (some ⟨g3, 0, none⟩) l3.length (l3.length + 1), .bool b4, .slice (some ⟨g4, 0, none⟩) l4.length (l4.length + 1), .int .i64 co]) (.agg #[.string nm, .int .u8 kd, .bool b1, .slice (some ⟨g1, 0, none⟩) l1.length (l1.length + 1), .bool b2, .slice (some ⟨g2, 0, none⟩) l2.length (l2.length + 1), .bool b3, .slice (some ⟨g3, 0, none⟩) l3.length (l3.length + 1), .bool b4, .slice (some ⟨g4, 0, none⟩) l4.length (l4.length + 1), .int .i64 co]) nm kd co b1 l1 b2 l2 b3 l3 b4 l4 from ⟨g1, g2, g3, g4, rfl, p1, ⟨by omega, by omega, by omega, by omega⟩, p3.other (by omega) _, p4.other (by omega) _, p5.other (by omega) _, p6.other (by omega) _⟩)
  have FE := mkHid ((hE.out.trans hW).row (show w.heap.size ≤ w.heap.size + 1 by omega) #[.string nm, .int .u8 kd, .bool b1, .slice (some ⟨g1, 0, none⟩) l1.length (l1.length + 1), .bool b2, .slice (some ⟨g2, 0, none⟩) l2.length (l2.length + 1), .bool b3, .slice (some ⟨g3, 0, none⟩) l3.length (l3.length + 1), .bool b4, .slice (some ⟨g4, 0, none⟩) l4.length (l4.length + 1), .int .i64 co])
  clear hF hA p1 p3 p4 p5 p6 hW z_0 z_1 z_2 z_3 z_4 z_5 z_6 z_7 z_8 z_9 z_10
  go_simp
  go_wp2_with (refine wpList_store_row rfl 31 (.tmp 2) (.tmp 10) rfl (w.heap.size + 1) #[.string nm, .int .u8 kd, .bool b1, .slice (some ⟨g1, 0, none⟩) l1.length (l1.length + 1), .bool b2, .slice (some ⟨g2, 0, none⟩) l2.length (l2.length + 1), .bool b3, .slice (some ⟨g3, 0, none⟩) l3.length (l3.length + 1), .bool b4, .slice (some ⟨g4, 0, none⟩) l4.length (l4.length + 1), .int .i64 co] rfl rfl 31 _ hBW (by kernel_rfl) rfl (by kernel_rfl) ?_)
  exact bodyPost_ret (results_cell_row rfl _ _ (w.heap.size + 1) 31 #[.string nm, .int .u8 kd, .bool b1, .slice (some ⟨g1, 0, none⟩) l1.length (l1.length + 1), .bool b2, .slice (some ⟨g2, 0, none⟩) l2.length (l2.length + 1), .bool b3, .slice (some ⟨g3, 0, none⟩) l3.length (l3.length + 1), .bool b4, .slice (some ⟨g4, 0, none⟩) l4.length (l4.length + 1), .int .i64 co] (0, 0) _ rfl (setRow_heap _ _ _ _ _ _ hBW) Tryz.underlying31 rfl (by kernel_rfl)) rfl ⟨_, rfl, FR.out, FE.out⟩

set_option maxRecDepth 100000 in
set_option maxHeartbeats 3200000 in
theorem leftElement_c (kd : Int) (b1 : Bool) (l1 : List Nat) (a1 a1' : Option Addr) (n1 c1 c1' : Nat) (b2 : Bool) (l2 : List Nat) (a2 a2' : Option Addr) (n2 c2 c2' : Nat) (b3 : Bool) (l3 : List Nat) (a3 a3' : Option Addr) (n3 c3 c3' : Nat) (b4 : Bool) (l4 : List Nat) (a4 a4' : Option Addr) (n4 c4 c4' : Nat) (w : World) (k1 : l1.length ≤ 4294967296) (k2 : l2.length ≤ 4294967296) (k3 : l3.length ≤ 4294967296) (k4 : l4.length ≤ 4294967296) (t1 : TwF w (.agg #[.bool b1, .slice a1' n1 c1', .bool b2, .slice a2' n2 c2']) b1 l1 b2 l2) (t2 : TwF w (.agg #[.bool b3, .slice a3' n3 c3', .bool b4, .slice a4' n4 c4']) b3 l3 b4 l4) (u1 : AnyL w (.agg #[.bool b1, .slice a1 n1 c1, .bool b2, .slice a2 n2 c2]) b1 l1 b2 l2) (u2 : AnyL w (.agg #[.bool b3, .slice a3 n3 c3, .bool b4, .slice a4 n4 c4]) b3 l3 b4 l4) :
    Calls Tryz.prog 40 #[.agg #[.int .u8 kd, .bool b1, .slice a1' n1 c1', .bool b2, .slice a2' n2 c2', .bool b3, .slice a3' n3 c3', .bool b4, .slice a4' n4 c4'], .agg #[.int .u8 kd, .bool b1, .slice a1 n1 c1, .bool b2, .slice a2 n2 c2, .bool b3, .slice a3 n3 c3, .bool b4, .slice a4 n4 c4]] w fun e w' => e = .returned (.bool true) ∧ Ext w w' := by
  have K0 := mkHid (fun W (e : Ext w W) => leftFrac_f _ _ b1 l1 b2 l2 W k1 k2 (t1.ext e) (u1.ext e))
  have K1 := mkHid (fun W (e : Ext w W) => leftFrac_f _ _ b3 l3 b4 l4 W k3 k4 (t2.ext e) (u2.ext e))
  clear t1 t2 u1 u2 k1 k2 k3 k4
  obtain ⟨wb, hwb⟩ : ∃ wb, wb = (w.alloc (.cells #[.int .u8 kd, .bool b1, .slice a1' n1 c1', .bool b2, .slice a2' n2 c2', .bool b3, .slice a3' n3 c3', .bool b4, .slice a4' n4 c4'] 29)).alloc (.cells #[.int .u8 kd, .bool b1, .slice a1 n1 c1, .bool b2, .slice a2 n2 c2, .bool b3, .slice a3 n3 c3, .bool b4, .slice a4 n4 c4] 29) := ⟨_, rfl⟩
  have hE : Ext w wb := by rw [hwb]; exact ((Ext.refl w).al _).al _
  have z0 : wb.heap[w.heap.size]? = some (.cells #[.int .u8 kd, .bool b1, .slice a1' n1 c1', .bool b2, .slice a2' n2 c2', .bool b3, .slice a3' n3 c3', .bool b4, .slice a4' n4 c4'] 29 (0, 0)) := by rw [hwb]; exact (heap_alloc_old _ _ (by simp)).trans (heap_alloc_new _ _)
  have z1 : wb.heap[w.heap.size + 1]? = some (.cells #[.int .u8 kd, .bool b1, .slice a1 n1 c1, .bool b2, .slice a2 n2 c2, .bool b3, .slice a3 n3 c3, .bool b4, .slice a4 n4 c4] 29 (0, 0)) := by rw [hwb]; exact heap_at _ _ _ (by simp)
  replace hwb := mkHid hwb
  replace z0 := mkHid z0
  replace z1 := mkHid z1
  replace hE := mkHid hE
  go_enter Tryz.func40, Tryz.ntmps40
  go_wp2_with fail
  rw [← hwb.out]
  clear hwb
  refine (K0.out _ hE.out).mono ?_
  rintro e w1 ⟨rfl, hE1⟩
  replace z0 := mkHid (hE1.blk z0.out)
  replace z1 := mkHid (hE1.blk z1.out)
  replace hE := mkHid (hE.out.trans hE1)
  clear hE1
  have y5 : w1.cell? ⟨w.heap.size, 5, none⟩ = some (.bool b3) := row16_cells z0.out 5
  have x5 : w1.cell? ⟨w.heap.size + 1, 5, none⟩ = some (.bool b3) := row16_cells z1.out 5
  have y6 : w1.cell? ⟨w.heap.size, 6, none⟩ = some (.slice a3' n3 c3') := row16_cells z0.out 6
  have x6 : w1.cell? ⟨w.heap.size + 1, 6, none⟩ = some (.slice a3 n3 c3) := row16_cells z1.out 6
  have y7 : w1.cell? ⟨w.heap.size, 7, none⟩ = some (.bool b4) := row16_cells z0.out 7
  have x7 : w1.cell? ⟨w.heap.size + 1, 7, none⟩ = some (.bool b4) := row16_cells z1.out 7
  have y8 : w1.cell? ⟨w.heap.size, 8, none⟩ = some (.slice a4' n4 c4') := row16_cells z0.out 8
  have x8 : w1.cell? ⟨w.heap.size + 1, 8, none⟩ = some (.slice a4 n4 c4) := row16_cells z1.out 8
  go_wp2_with fail
  clear x5 y5 x6 y6 x7 y7 x8 y8
  refine (K1.out _ hE.out).mono ?_
  rintro e w2 ⟨rfl, hE2⟩
  replace z0 := mkHid (hE2.blk z0.out)
  replace z1 := mkHid (hE2.blk z1.out)
  replace hE := mkHid (hE.out.trans hE2)
  clear hE2
  go_wp2_with fail
  go_ret
  exact ⟨rfl, hE.out⟩

set_option maxRecDepth 100000 in
set_option maxHeartbeats 3200000 in
theorem leftPart_c (nm : ByteArray) (kd co : Int) (b1 : Bool) (l1 : List Nat) (a1 a1' : Option Addr) (n1 c1 c1' : Nat) (b2 : Bool) (l2 : List Nat) (a2 a2' : Option Addr) (n2 c2 c2' : Nat) (b3 : Bool) (l3 : List Nat) (a3 a3' : Option Addr) (n3 c3 c3' : Nat) (b4 : Bool) (l4 : List Nat) (a4 a4' : Option Addr) (n4 c4 c4' : Nat) (w : World) (k1 : l1.length ≤ 4294967296) (k2 : l2.length ≤ 4294967296) (k3 : l3.length ≤ 4294967296) (k4 : l4.length ≤ 4294967296) (t1 : TwF w (.agg #[.bool b1, .slice a1' n1 c1', .bool b2, .slice a2' n2 c2']) b1 l1 b2 l2) (t2 : TwF w (.agg #[.bool b3, .slice a3' n3 c3', .bool b4, .slice a4' n4 c4']) b3 l3 b4 l4) (u1 : AnyL w (.agg #[.bool b1, .slice a1 n1 c1, .bool b2, .slice a2 n2 c2]) b1 l1 b2 l2) (u2 : AnyL w (.agg #[.bool b3, .slice a3 n3 c3, .bool b4, .slice a4 n4 c4]) b3 l3 b4 l4) :
    Calls Tryz.prog 12 #[.agg #[.string nm, .int .u8 kd, .bool b1, .slice a1' n1 c1', .bool b2, .slice a2' n2 c2', .bool b3, .slice a3' n3 c3', .bool b4, .slice a4' n4 c4', .int .i64 co], .agg #[.string nm, .int .u8 kd, .bool b1, .slice a1 n1 c1, .bool b2, .slice a2 n2 c2, .bool b3, .slice a3 n3 c3, .bool b4, .slice a4 n4 c4, .int .i64 co]] w fun e w' => e = .returned (.bool true) ∧ Ext w w' := by
  have K0 := mkHid (fun W (e : Ext w W) => leftElement_c kd b1 l1 a1 a1' n1 c1 c1' b2 l2 a2 a2' n2 c2 c2' b3 l3 a3 a3' n3 c3 c3' b4 l4 a4 a4' n4 c4 c4' W k1 k2 k3 k4 (t1.ext e) (t2.ext e) (u1.ext e) (u2.ext e))
  clear t1 t2 u1 u2 k1 k2 k3 k4
  obtain ⟨wb, hwb⟩ : ∃ wb, wb = (w.alloc (.cells #[.string nm, .int .u8 kd, .bool b1, .slice a1' n1 c1', .bool b2, .slice a2' n2 c2', .bool b3, .slice a3' n3 c3', .bool b4, .slice a4' n4 c4', .int .i64 co] 31)).alloc (.cells #[.string nm, .int .u8 kd, .bool b1, .slice a1 n1 c1, .bool b2, .slice a2 n2 c2, .bool b3, .slice a3 n3 c3, .bool b4, .slice a4 n4 c4, .int .i64 co] 31) := ⟨_, rfl⟩
  have hE : Ext w wb := by rw [hwb]; exact ((Ext.refl w).al _).al _
  have z0 : wb.heap[w.heap.size]? = some (.cells #[.string nm, .int .u8 kd, .bool b1, .slice a1' n1 c1', .bool b2, .slice a2' n2 c2', .bool b3, .slice a3' n3 c3', .bool b4, .slice a4' n4 c4', .int .i64 co] 31 (0, 0)) := by rw [hwb]; exact (heap_alloc_old _ _ (by simp)).trans (heap_alloc_new _ _)
  have z1 : wb.heap[w.heap.size + 1]? = some (.cells #[.string nm, .int .u8 kd, .bool b1, .slice a1 n1 c1, .bool b2, .slice a2 n2 c2, .bool b3, .slice a3 n3 c3, .bool b4, .slice a4 n4 c4, .int .i64 co] 31 (0, 0)) := by rw [hwb]; exact heap_at _ _ _ (by simp)
  replace hwb := mkHid hwb
  replace z0 := mkHid z0
  replace z1 := mkHid z1
  replace hE := mkHid hE
  go_enter Tryz.func12, Tryz.ntmps12
  go_wp2_with fail
  rw [← hwb.out]
  clear hwb
  refine (K0.out _ hE.out).mono ?_
  rintro e w1 ⟨rfl, hE1⟩
  replace z0 := mkHid (hE1.blk z0.out)
  replace z1 := mkHid (hE1.blk z1.out)
  replace hE := mkHid (hE.out.trans hE1)
  clear hE1
  have y10 : w1.cell? ⟨w.heap.size, 10, none⟩ = some (.int .i64 co) := row16_cells z0.out 10
  have x10 : w1.cell? ⟨w.heap.size + 1, 10, none⟩ = some (.int .i64 co) := row16_cells z1.out 10
  go_wp2_with fail
  clear x10 y10
  go_ret
  exact ⟨rfl, hE.out⟩

end Go.Proofs.YtplhndmncjoghaaGreatDoor
namespace Go.Proofs.YtplhndmncjoghaaGreatDoor
set_option maxRecDepth 100000
open Go Go.RowKit Go.Proofs
/-- Is it no number? -/
def nanB (a : Nat) : Bool := FloatKind.f64.format.order a a != some .eq
def sameF (a b : Nat) : Bool := ((a : Int) == (b : Int)) || (nanB a && nanB b)
def cxV (z : Nat × Nat) : Value := .complex .f64 z.1 z.2
def sameC (a b : Nat × Nat) : Bool := sameF a.1 b.1 && sameF a.2 b.2
theorem sameF_self (x : Nat) : sameF x x = true := by simp [sameF]
end Go.Proofs.YtplhndmncjoghaaGreatDoor
