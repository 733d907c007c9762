/-
  A region's load of a whole row, by the row's law, where variables are made: no program. Regions that draw their order, in which the front may read a slot that the tail writes: no program. Printed by tools/gen_tail.py out of XFree. ray: Mul's closure: printed by tools/gen_mul.py. ray: Mul, where nothing is refused: printed by tools/gen_mul2.py. The plain law of PeriodSteps: powers by the recurrence. No program. The plain law of PeriodSteps: what goes through. No program. A row's load under a guard that wants it. No program. PeriodSteps, walked: where nothing is reckoned: printed by tools/gen_steps.py.
-/
import Derived.Test.YtpmfohhpaoagfaaME
import Derived.Test.YtpmfohhpaoagfaaMA
import Derived.Test.YtpmfohhpaoagfaaMR
import Derived.Laws.AppendOwn
import Derived.Test.YtpmfohhpaoagfaaML
import Derived.Laws.Cover3
import Derived.Test.YtpmfohhpaoagfaaMS
namespace Go.Proofs.Ytpmfohhpaoagfaa
open Go Go.RowKit Go.Proofs
theorem fr_loadF {P : Program} {S : World → Value → Prop} {o : Oper} {a : Act} {W : World} {X : Prop} {c : Prop} [Decidable c] (hw : c) (ty : TypeId) (x : Operand) (ho : o.op = .load ty x)
    (g : Nat) (hx : a.eval x = .pointer (some ⟨g, 0, none⟩)) (t : TypeId) (cs : Array Value) (fr : Nat × Nat) (d : TypeDesc) (hg : W.heap[g]? = some (.cells cs t fr))
    (hu : P.underlying ty = some d) (hd : (match d with | .struct _ | .array _ _ => true | _ => false) = true) (hi : (P.info? ty).map (·.size) = some cs.size)
    (h : S W (.agg cs)) : if c then Fresh.givesV P S ((execOp a.eval o).run P W) else X := by
  rw [if_pos hw]
  unfold execOp
  simp only [ho, hx, Instr.loadAt, Instr.sureAddr, Sem.run_bind, Sem.run_pure, Result.andThen_ok, run_loadVar_row W g t ty cs fr d hg hu hd hi]
  exact h
end Go.Proofs.Ytpmfohhpaoagfaa
namespace Go.Proofs.Ytpmfohhpaoagfaa.Tail
open Go Go.RowKit Go.Proofs.Ytpmfohhpaoagfaa
def okOper (l : List Oper) (n i : Nat) (o : Oper) : Bool :=
  (o.after.toList.all fun e => !Region.binds .any e || decide (e.on < i)) &&
  (if i < n then
    o.dst.isSome && (List.range l.length).all fun j => match l[j]? with
      | some oj => (match oj.dst with
        | some d => (!(o.looksAt l.toArray).contains d || (decide (j < i) && hasEdge o j) || decide (n ≤ j)) && (j == i || o.dst != some d)
        | none => true)
      | none => true
  else (List.range i).all fun j => ancB l 16 o j)
def okFree (n size : Nat) (l : List Oper) : Bool :=
  Region.noSelect l.toArray && decide (n ≤ l.length) && (l.all fun o => match o.dst with | some d => decide (d < size) | none => true) &&
    (List.range l.length).all fun i => match l[i]? with | some o => okOper l n i o | none => true
section
variable {P : Program} {l0 : List Oper} {R : World → World → Prop} {w0 : World} {Q : Exit → Act → World → Prop}
structure OkSpec (l : List Oper) (n size : Nat) : Prop where
  sel : ∀ (j : Nat) (o : Oper) cs b, l[j]? = some o → o.op ≠ .select cs b
  len : n ≤ l.length
  dst : ∀ (j : Nat) (o : Oper) (d : Tmp), l[j]? = some o → o.dst = some d → d < size
  edge : ∀ (i : Nat) (o : Oper), l[i]? = some o → ∀ e ∈ o.after, Region.binds .any e = true → e.on < i
  has : ∀ (i : Nat) (o : Oper), i < n → l[i]? = some o → o.dst.isSome = true
  look : ∀ (i : Nat) (o : Oper) (j : Nat) (oj : Oper) (d : Tmp), i < n → l[i]? = some o → l[j]? = some oj → oj.dst = some d → d ∈ o.looksAt l.toArray → n ≤ j ∨ (j < i ∧ hasEdge o j = true)
  one : ∀ (i : Nat) (o : Oper) (j : Nat) (oj : Oper) (d : Tmp), i < n → l[i]? = some o → l[j]? = some oj → oj.dst = some d → i ≠ j → o.dst ≠ some d
  tail : ∀ (i : Nat) (o : Oper), n ≤ i → l[i]? = some o → ∀ j, j < i → ancB l 16 o j = true
theorem okFree_spec {n size : Nat} {l : List Oper} (h : okFree n size l = true) : OkSpec l n size := by
  simp only [okFree, Bool.and_eq_true, decide_eq_true_eq, List.all_eq_true, List.mem_range] at h
  obtain ⟨⟨⟨h1, h2⟩, h3⟩, h4⟩ := h
  have at_ : ∀ i o, l[i]? = some o → okOper l n i o = true := by
    intro i o ho
    have := h4 i (List.getElem?_eq_some_iff.1 ho).1
    rwa [ho] at this
  refine ⟨fun j o cs b hj => Region.noSelect_spec h1 j o cs b (by simpa using hj), h2, ?_, ?_, ?_, ?_, ?_, ?_⟩
  · intro j o d ho hd
    have := h3 o (List.mem_of_getElem? ho)
    simpa [hd] using this
  · intro i o ho e he hb
    have := at_ i o ho
    simp only [okOper, Bool.and_eq_true, List.all_eq_true, Bool.or_eq_true, Bool.not_eq_true', decide_eq_true_eq] at this
    have := this.1 e (Array.mem_toList_iff.2 he)
    rcases this with h | h
    · rw [h] at hb; cases hb
    · exact h
  · intro i o hi ho
    have := at_ i o ho
    simp only [okOper, Bool.and_eq_true, if_pos hi] at this
    exact this.2.1
  · intro i o j oj d hi ho hj hd hm
    have := at_ i o ho
    simp only [okOper, Bool.and_eq_true, if_pos hi, List.all_eq_true, List.mem_range] at this
    have := this.2.2 j (List.getElem?_eq_some_iff.1 hj).1
    simp only [hj, hd, Bool.and_eq_true, Bool.or_eq_true, Bool.not_eq_true', decide_eq_true_eq] at this
    rcases this.1 with (h | h) | h
    · have := List.contains_iff_mem.2 hm
      rw [h] at this; cases this
    · exact .inr h
    · exact .inl h
  · intro i o j oj d hi ho hj hd hne
    have := at_ i o ho
    simp only [okOper, Bool.and_eq_true, if_pos hi, List.all_eq_true, List.mem_range] at this
    have := this.2.2 j (List.getElem?_eq_some_iff.1 hj).1
    simp only [hj, hd, Bool.and_eq_true, Bool.or_eq_true, beq_iff_eq, bne_iff_ne, ne_eq] at this
    rcases this.2 with h | h
    · exact absurd h.symm hne
    · exact h
  · intro i o hi ho j hj
    have := at_ i o ho
    simp only [okOper, Bool.and_eq_true, if_neg (Nat.not_lt.2 hi), List.all_eq_true, List.mem_range] at this
    exact this.2 j hj
theorem mtmp {specs : List FSpec} {a0 a : Act} {listed : Array Bool} {W : World} (m : Midway l0 specs R w0 a0 listed a W) (ok : OkSpec l0 specs.length a0.tmps.size) (k t : Nat) (hk : k ≤ specs.length)
    (h : ∀ (j : Nat) (oj : Oper), l0[j]? = some oj → oj.dst = some t → specs.length ≤ j ∨ (j < k ∧ listed.getD j false = true)) : (frameAt a0 l0 (valuesOf l0 specs a) k).tmps[t]? = a.tmps[t]? := by
  by_cases hex : ∃ (j : Nat) (oj : Oper), l0[j]? = some oj ∧ oj.dst = some t ∧ j < specs.length
  · obtain ⟨j, oj, hj, hd, hlt⟩ := hex
    obtain ⟨hjk, hlj⟩ := (h j oj hj hd).resolve_left (by omega)
    have ht := ok.dst j oj t hj hd
    rw [frameAt_own a0 l0 _ k t j oj hjk hj hd ht fun i o' hne ho' hd' => ok.one j oj i o' t hlt hj ho' hd' (Ne.symm hne) hd]
    rw [← m.value hlj hj hd]
    have : t < a.tmps.size := by rw [m.tsize]; exact ht
    simp [this]
  · rw [frameAt_other a0 l0 _ k t fun j o hjk ho hd => hex ⟨j, o, ho, hd, by omega⟩, m.other t fun j o ho hl hd => by
      rcases Nat.lt_or_ge j specs.length with h1 | h1
      · exact hex ⟨j, o, ho, hd, h1⟩
      · rw [m.late j h1] at hl; cases hl]
/-- One operation more, none of the tail. -/
theorem mstep {specs : List FSpec} {a0 a : Act} {listed : Array Bool} {W : World} (m : Midway l0 specs R w0 a0 listed a W) (ok : OkSpec l0 specs.length a0.tmps.size) (hrf : ∀ a, R a a) (htr : ∀ a b c, R a b → R b c → R a c)
    (hst : ∀ s ∈ specs, ∀ W W' v, R W W' → s.ok W v → s.ok W' v) (h : freeSteps P l0 R w0 Q 0 specs l0 a0 []) {i : Nat} (hi : i < specs.length) (hr : i ∈ Region.ready .any l0.toArray listed) :
    wpOp P l0.toArray Q i (fun a' W' => Midway l0 specs R w0 a0 (listed.setIfInBounds i true) a' W') a W := by
  obtain ⟨hun, o, ho', hedge⟩ := mem_ready.1 hr
  have ho : l0[i]? = some o := by simpa using ho'
  have hil : i < l0.length := (List.getElem?_eq_some_iff.1 ho).1
  have hlt : i < listed.size := by rw [m.size]; exact hil
  have hat := steps_at h (valuesOf l0 specs a) (valuesOf_fits l0 specs a) i (by omega)
  rw [List.drop_eq_getElem_cons hi, List.drop_eq_getElem_cons hil] at hat
  have hs : specs[i]? = some specs[i] := List.getElem?_eq_getElem hi
  have hoi : l0[i] = o := by
    have := List.getElem?_eq_getElem hil
    rw [ho] at this
    exact (Option.some.inj this).symm
  rw [hoi] at hat
  have hfacts : ∀ p ∈ factsAt specs (valuesOf l0 specs a) i, leans l0 o p.1 = true → p.2.1.ok W p.2.2 := by
    intro p hp hl
    obtain ⟨h1, h2, h3⟩ := mem_factsAt hp
    unfold leans at hl
    split at hl
    · rename_i d hd
      obtain ⟨oj, hj, hdj⟩ := Option.bind_eq_some_iff.1 hd
      have hlook := (ok.look i o p.1 oj d hi ho hj hdj (List.contains_iff_mem.1 hl)).resolve_left (by omega)
      have hlj : listed.getD p.1 false = true := listed_anc (l0 := l0) m.closed 0 o p.1 hedge hlook.2
      have := m.fact p.1 oj d p.2.1 hlj hj hdj h2
      rw [h3, ← m.value hlj hj hdj]
      exact this
    · cases hl
  have hsame : ∀ t, t ∈ o.looksAt l0.toArray → (frameAt a0 l0 (valuesOf l0 specs a) i).tmps[t]? = a.tmps[t]? := by
    intro t ht
    refine mtmp m ok i t (by omega) fun j oj hj hdj => ?_
    have hlook := ok.look i o j oj t hi ho hj hdj ht
    exact hlook.imp id fun hl => ⟨hl.1, listed_anc (l0 := l0) m.closed 0 o j hedge hl.2⟩
  have hev : execOp (frameAt a0 l0 (valuesOf l0 specs a) i).eval o = execOp a.eval o := eval_of_tmps o (fun cs b => ok.sel i o cs b ho) hsame
  have hwa : Region.wanted o (yielded l0.toArray (frameAt a0 l0 (valuesOf l0 specs a) i).tmps) = Region.wanted o (yielded l0.toArray a.tmps) := wanted_of_tmps o hsame
  -- what is left to show of each value
  have next : ∀ W' v, R W W' → specs[i].ok W' v → Midway l0 specs R w0 a0 (listed.setIfInBounds i true) (a.put o.dst v) W' := by
    intro W' v hR hv
    refine ⟨by simpa using m.size, htr _ _ _ m.rel hR, ?_, ?_, ?_, ?_, ?_, ?_⟩
    · rw [← m.defers]; cases o.dst <;> rfl
    · rw [← m.tsize]; cases hd : o.dst <;> simp [Act.put]
    · intro j oj hj hoj e he hb
      by_cases hij : i = j
      · subst hij
        rw [ho] at hoj; cases hoj
        exact getD_set_true (hedge e he hb)
      · rw [getD_set_ne false hij] at hj
        exact getD_set_true (m.closed j oj hj hoj e he hb)
    · intro t ht
      have hne : o.dst ≠ some t := ht i o ho (by simp [hlt])
      rw [← m.other t fun j oj hoj hj => ht j oj hoj (by
        by_cases hij : i = j
        · subst hij; simp [hlt]
        · rw [getD_set_ne false hij]; exact hj)]
      cases hd : o.dst with
      | none => rfl
      | some d =>
        have : d ≠ t := fun e => hne (by rw [hd, e])
        simp [Act.put, Array.getElem?_setIfInBounds_ne this]
    · intro j oj d s hj hoj hdj hsj
      by_cases hij : i = j
      · subst hij
        rw [ho] at hoj; cases hoj
        rw [hs] at hsj; cases hsj
        have hsz : d < a.tmps.size := by rw [m.tsize]; exact ok.dst i _ d ho hdj
        simpa [Act.put, hdj, hsz] using hv
      · rw [getD_set_ne false hij] at hj
        have hf := m.fact j oj d s hj hoj hdj hsj
        have hf := hst s (List.mem_of_getElem? hsj) _ _ _ hR hf
        have hnd : o.dst ≠ some d := ok.one i o j oj d hi ho hoj hdj hij
        cases hd : o.dst with
        | none => simpa [Act.put] using hf
        | some e =>
          have : e ≠ d := fun e' => hnd (by rw [hd, e'])
          simpa [Act.put, Array.getElem?_setIfInBounds_ne this] using hf
    · intro j hj
      rw [getD_set_ne false (show i ≠ j by omega)]
      exact m.late j hj
  unfold wpOp
  simp only [List.getElem?_toArray, ho]
  generalize hsp : specs[i] = s at hat next
  cases s with
  | val c =>
    simp only [freeSteps] at hat
    have hone := hat.1 W m.rel (factsHold_of hfacts)
    rw [hwa, hev] at hone
    split
    · rename_i hw
      rw [if_pos hw] at hone
      refine .inl (upon_of_gives hone fun w' v hv => next _ _ hv.1 hv.2)
    · rename_i hw
      rw [if_neg hw] at hone
      exact next W undef (hrf W) hone
  | pred Φ =>
    simp only [freeSteps] at hat
    have hone := hat.1 W m.rel (factsHold_of hfacts)
    rw [hwa, hev] at hone
    split
    · rename_i hw
      rw [if_pos hw] at hone
      refine .inl (upon_of_gives hone fun w' v hv => next _ _ hv.1 hv.2)
    · rename_i hw
      rw [if_neg hw] at hone
      exact next W undef (hrf W) hone
/-- All of the front is done, and nothing else: the frame is the lexical walk's. -/
theorem mdone {specs : List FSpec} {a0 a : Act} {listed : Array Bool} {W : World} (m : Midway l0 specs R w0 a0 listed a W) (ok : OkSpec l0 specs.length a0.tmps.size) (hall : ∀ j, j < specs.length → listed.getD j false = true) :
    a = frameAt a0 l0 (valuesOf l0 specs a) specs.length ∧ ∀ p ∈ factsAt specs (valuesOf l0 specs a) specs.length, p.2.1.ok W p.2.2 := by
  refine ⟨?_, fun p hp => ?_⟩
  · obtain ⟨tm, df⟩ := a
    have hdf := frameAt_defers a0 l0 (valuesOf l0 specs ⟨tm, df⟩) specs.length
    have htm : tm = (frameAt a0 l0 (valuesOf l0 specs ⟨tm, df⟩) specs.length).tmps := by
      refine Array.ext_getElem? fun t => ?_
      by_cases hex : ∃ (j : Nat) (oj : Oper), l0[j]? = some oj ∧ oj.dst = some t ∧ specs.length ≤ j
      · obtain ⟨j, oj, hj, hd, hge⟩ := hex
        by_cases hin : ∃ (i : Nat) (oi : Oper), l0[i]? = some oi ∧ oi.dst = some t ∧ i < specs.length
        · obtain ⟨i, oi, hi, hdi, hlt⟩ := hin
          exact absurd hdi (ok.one i oi j oj t hlt hi hj hd (by omega))
        · rw [frameAt_other a0 l0 _ _ t fun i o hi ho hd' => hin ⟨i, o, ho, hd', hi⟩]
          refine m.other t fun i o ho hl hd' => ?_
          rcases Nat.lt_or_ge i specs.length with h | h
          · exact hin ⟨i, o, ho, hd', h⟩
          · rw [m.late i h] at hl; cases hl
      · refine (mtmp m ok specs.length t (Nat.le_refl _) fun j oj hj hd => ?_).symm
        have hlt : j < specs.length := by
          rcases Nat.lt_or_ge j specs.length with h | h
          · exact h
          · exact absurd ⟨j, oj, hj, hd, h⟩ hex
        exact .inr ⟨hlt, hall j hlt⟩
    have h1 : (frameAt a0 l0 (valuesOf l0 specs ⟨tm, df⟩) specs.length).defers = df := by rw [hdf, ← m.defers]
    generalize frameAt a0 l0 (valuesOf l0 specs ⟨tm, df⟩) specs.length = f at htm h1
    obtain ⟨ft, fd⟩ := f
    simp only at htm h1
    rw [htm, h1]
  · obtain ⟨h1, h2, h3⟩ := mem_factsAt hp
    have hil : p.1 < l0.length := by have := ok.len; omega
    have ho : l0[p.1]? = some l0[p.1] := List.getElem?_eq_getElem hil
    rw [h3]
    cases hd : l0[p.1].dst with
    | some d =>
      rw [← m.value (hall p.1 h1) ho hd]
      exact m.fact p.1 _ d _ (hall p.1 h1) ho hd h2
    | none =>
      have := ok.has p.1 _ h1 ho
      simp [hd] at this
theorem free_any {specs : List FSpec} {a0 : Act} (ok : OkSpec l0 specs.length a0.tmps.size) (hrf : ∀ a, R a a) (htr : ∀ a b c, R a b → R b c → R a c)
    (hst : ∀ s ∈ specs, ∀ W W' v, R W W' → s.ok W v → s.ok W' v) (h : freeSteps P l0 R w0 Q 0 specs l0 a0 []) :
    ∀ (fuel : Nat) (listed : Array Bool) (a : Act) (W : World), left l0 listed ≤ fuel → Midway l0 specs R w0 a0 listed a W → wpAny P .any l0.toArray Q fuel listed a W := by
  have fin : ∀ (listed : Array Bool) (a : Act) (W : World), Midway l0 specs R w0 a0 listed a W → (∀ j, j < specs.length → listed.getD j false = true) → wpList P l0.toArray Q (l0.drop specs.length) a W := by
    intro listed a W m hall
    obtain ⟨he, hf⟩ := mdone m ok hall
    have hat := steps_at h (valuesOf l0 specs a) (valuesOf_fits l0 specs a) specs.length (Nat.le_refl _)
    rw [List.drop_length] at hat
    simp only [freeSteps] at hat
    have := hat W m.rel (factsHold_of fun p hp _ => hf p hp)
    rwa [← he] at this
  have hlst : ∀ (listed : Array Bool) (a : Act) (W : World), Midway l0 specs R w0 a0 listed a W → (∀ j, j < specs.length → listed.getD j false = true) → ∀ i, i < l0.length → (listed.getD i false = true ↔ i < specs.length) := by
    intro listed a W m hall i hi
    constructor
    · intro hl
      rcases Nat.lt_or_ge i specs.length with h | h
      · exact h
      · rw [m.late i h] at hl; cases hl
    · exact hall i
  intro fuel
  induction fuel with
  | zero =>
    intro listed a W hl m
    have hnone : ∀ i, i < l0.length → listed.getD i true = true := by
      intro i hi
      have h0 : ((List.range l0.length).filter fun i => !listed.getD i true) = [] := List.eq_nil_of_length_eq_zero (by unfold left at hl; omega)
      have := List.filter_eq_nil_iff.1 h0 i (List.mem_range.2 hi)
      simpa using this
    have hall : ∀ j, j < specs.length → listed.getD j false = true := by
      intro j hj
      have h1 := hnone j (by have := ok.len; omega)
      rcases listed_cases (listed := listed) (i := j) (by rw [m.size]; have := ok.len; omega) with h2 | h2
      · exact h2
      · rw [h2] at h1; cases h1
    have hn : specs.length = l0.length := by
      rcases Nat.lt_or_ge specs.length l0.length with h1 | h1
      · have h2 := hnone specs.length h1
        have h3 := m.late specs.length (Nat.le_refl _)
        rcases listed_cases (listed := listed) (i := specs.length) (by rw [m.size]; exact h1) with h4 | h4
        · rw [h4] at h3; cases h3
        · rw [h4] at h2; cases h2
      · have := ok.len; omega
    exact tail_forced ok.tail 0 specs.length listed a W 0 (Nat.le_refl _) hn (Nat.le_refl _) m.size m.closed (hlst _ _ _ m hall) ok.edge (fin _ _ _ m hall)
  | succ fuel ih =>
    intro listed a W hl m
    by_cases hall : ∀ j, j < specs.length → listed.getD j false = true
    · refine tail_forced ok.tail (l0.length - specs.length) specs.length listed a W (fuel + 1) (Nat.le_refl _) (by have := ok.len; omega) ?_ m.size m.closed (hlst _ _ _ m hall) ok.edge (fin _ _ _ m hall)
      have := left_ge (l := l0) (listed := listed) (n := specs.length) fun i h1 h2 => by
        have := m.late i h1
        have hlt : i < listed.size := by rw [m.size]; exact h2
        simpa [hlt] using this
      omega
    · refine ⟨fun h0 => ?_, fun i hi => ?_⟩
      · refine absurd (fun j => ?_) hall
        induction j using Nat.strongRecOn with
        | _ j ihj =>
          intro hj
          have hjl : j < l0.length := by have := ok.len; omega
          have hoj : l0[j]? = some l0[j] := List.getElem?_eq_getElem hjl
          rcases listed_cases (listed := listed) (i := j) (by rw [m.size]; exact hjl) with h1 | h1
          · exact h1
          · have hm : j ∈ Region.ready .any l0.toArray listed := mem_ready.2 ⟨h1, l0[j], by simp [hjl], fun e he hb => by
              have := ok.edge j _ hoj e he hb
              exact ihj e.on this (by omega)⟩
            rw [h0] at hm
            cases hm
      · obtain ⟨hun, o, ho', hedge⟩ := mem_ready.1 hi
        have hil : i < l0.length := by have := lt_of_unlisted hun; rw [m.size] at this; exact this
        have hn : i < specs.length := by
          rcases Nat.lt_or_ge i specs.length with h1 | h1
          · exact h1
          · exact absurd (fun j hj => listed_anc m.closed 16 o j hedge (ok.tail i o h1 (by simpa using ho') j (by omega))) hall
        exact wpOp_mono (fun a' W' m' => ih _ a' W' (by have := left_set hil hun; omega) m') (mstep m ok hrf htr hst h hn hi)
theorem region_tail {id : Nat} {l : List Oper} {a : Act} {w : World} (R : World → World → Prop) (specs : List FSpec) (hm : P.follows .mixedOrders = true) (hok : okFree specs.length a.tmps.size l = true)
    (hrf : ∀ a, R a a) (htr : ∀ a b c, R a b → R b c → R a c) (hdr : ∀ a, R a a.drew) (hst : ∀ s ∈ specs, ∀ W W' v, R W W' → s.ok W v → s.ok W' v)
    (h : freeSteps P l R w Q 0 specs l a []) : (Code.region id l.toArray true).wp P Q a w := by
  refine wp_region_any hm ?_
  have hsz : l.toArray.size = l.length := by simp
  have hget : ∀ i : Nat, (Array.replicate l.toArray.size false).getD i false = false := by
    intro i
    rw [Array.getD_eq_getD_getElem?, Array.getElem?_replicate]
    split <;> rfl
  refine free_any (okFree_spec hok) hrf htr hst h _ _ _ _ ?_ ⟨by simp, hdr w, rfl, rfl, ?_, ?_, ?_, ?_⟩
  · unfold left
    refine Nat.le_trans (List.length_filter_le _ _) ?_
    simp
  · intro i o hi
    rw [hget] at hi; cases hi
  · intro t _; rfl
  · intro j o d s hj
    rw [hget] at hj; cases hj
  · intro j _
    exact hget j
end
theorem region_ext {id : Nat} {l : List Oper} {a : Act} {w : World} {Q : Exit → Act → World → Prop} (specs : List FSpec) (hok : okFree specs.length a.tmps.size l = true) (hst : StableAll Ext specs)
    (h : freeSteps Try.prog l Ext w Q 0 specs l a []) : (Code.region id l.toArray true).wp Try.prog Q a w :=
  region_tail Ext specs mixed hok Ext.refl (fun _ _ _ => Ext.trans) (fun w => (Ext.refl w).dr) (stableAll_mem hst) h
end Go.Proofs.Ytpmfohhpaoagfaa.Tail
namespace Go.Proofs.Ytpmfohhpaoagfaa
open Go Go.RowKit Go.Proofs
theorem wpList_append_ran {P : Program} {ops : Array Oper} {rest : List Oper} {o : Oper} {a : Act} {Q : Exit → Act → World → Prop} {w w' : World} {v' vs vx : Value} (hgd : o.guard = none) (s x : Operand) (t : TypeId)
    (ho : o.op = .call { callee := .builtin .append, args := #[s, x], argTypes := #[t, t] }) (hs : a.eval s = vs) (hx : a.eval x = vx)
    (hr : (Builtin.append_ #[t, t] o.type #[vs, vx]).run P w = .ok v' w') (h : wpList P ops Q rest (a.put o.dst v') w') : wpList P ops Q (o :: rest) a w := by
  refine wpList_plain hgd fun K hK => ?_
  unfold Oper.wp execOp
  simp only [ho, resolve, invoke, builtin, Sem.run_bind, Sem.run_pure, Result.andThen_ok, List.map_toArray, List.map_cons, List.map_nil, hs, hx, hr]
  exact hK _ _ h
theorem append_one {P : Program} (w : World) (base : Nat) (t ty e : TypeId) (i : TypeInfo) (z : Value) (size bytes : Nat) (ht : P.underlying t = some (.slice e)) (hi : P.info? e = some i) (hz : i.zero = some z)
    (hsize : i.size = size) (hby : i.bytes = bytes) (hzs : z.cells.size = size) (hsz : 0 < size)
    (v : Value) (n : Nat) (xs : List Value) (hown : w.ownsRow base e size v n xs)
    (a : Addr) (m c : Nat) (news : List Value) (hl : news.length = m * size) (hnews : ∀ j u, news[j]? = some u → w.cell? (a.add j) = some u) (h1 : ∀ u ∈ news, u.oneCell' = true)
    (h63 : n + m ≤ maxLen) (hbytes : (n + m) * bytes ≤ 140737488355328) (hbase : base ≤ w.heap.size) (hm : 0 < m) :
    ∃ v' w', (Builtin.append_ #[t, t] ty #[v, .slice (some a) m c]).run P w = .ok v' w' ∧ w'.ownsRow base e size v' (n + m) (xs ++ news) ∧
      ((∃ g cap, v = .slice (some ⟨g, 0, none⟩) n cap ∧ v' = .slice (some ⟨g, 0, none⟩) (n + m) cap ∧ w.grownBy w' (some g)) ∨ (v'.ownBlock = some w.heap.size ∧ w.grownBy w' none)) := by
  subst hsize
  subst hby
  have hsmall : n + m ≤ 9223372036854775807 := by simp only [maxLen] at h63; omega
  have hlen : (xs ++ news).length = (n + m) * i.size := by rw [List.length_append, hown.1, hl, Nat.add_mul]
  have grown : ∀ (old : Nat), old < n + m →
      (w.drew.alloc (.cells (xs.toArray ++ news.toArray ++ Builtin.zeroCells z.cells (grownCap w (n + m) old e - (n + m))) e)).ownsRow base e i.size
        (.slice (some ⟨w.heap.size, 0, none⟩) (n + m) (grownCap w (n + m) old e)) (n + m) (xs ++ news) ∧
      w.grownBy (w.drew.alloc (.cells (xs.toArray ++ news.toArray ++ Builtin.zeroCells z.cells (grownCap w (n + m) old e - (n + m))) e)) none := by
    intro old ho
    have hge := grownCap_ge w (n + m) old e
    have hcm : grownCap w (n + m) old e ≤ maxLen := grownCap_le_maxLen w (n + m) old e h63
    refine ⟨⟨hlen, .inr ⟨w.heap.size, _, _, rfl, hbase, heap_alloc_new w.drew _, hge, hcm, ?_, ?_⟩⟩, ⟨rfl, rfl, rfl, by simp, fun k hk _ => Go.heap_alloc_old w.drew _ hk⟩⟩
    · simp only [Array.size_append, List.size_toArray, size_zeroCells, hzs, hown.1, hl, ← Nat.add_mul]
      congr 1
      omega
    · simp only [Array.toList_append, List.append_assoc]
      rw [← List.append_assoc, ← hlen]
      exact List.take_left
  rcases hown.2 with ⟨rfl, rfl⟩ | ⟨g, cap, cur, rfl, hbg, hg, hnc, hcm, hcs, htake⟩
  · have hx : xs = [] := List.eq_nil_of_length_eq_zero (by simpa using hown.1)
    subst hx
    have hr := run_append_nil (P := P) w t ty e i z ht hi hz a m c news hl hnews (by omega) (by omega) (by have hb := hbytes; simp only [Nat.zero_add] at hb; omega)
    have hgr := grown 0 (by omega)
    simp only [Nat.zero_add, List.nil_append, Array.empty_append] at hgr ⊢
    exact ⟨_, _, hr, hgr.1, .inr ⟨rfl, hgr.2⟩⟩
  · by_cases hroom : n + m ≤ cap
    · obtain ⟨w', r1, r2, r3⟩ := run_append_fits w base t ty e i i.size ht hi rfl g n cap xs hown a m c news hl hnews h1 hroom
      exact ⟨_, w', r1, r2, .inl ⟨g, cap, rfl, rfl, r3⟩⟩
    · have holds : ∀ j u, xs[j]? = some u → w.cell? ((⟨g, 0, none⟩ : Addr).add j) = some u := hown.cells (g := g) rfl
      have hr := run_append_grow (P := P) w t ty e i z ht hi hz ⟨g, 0, none⟩ n cap xs hown.1 holds a m c news hl hnews (by omega) (by omega) (growslice_fits (by omega) hbytes)
      have hgr := grown cap (by omega)
      exact ⟨_, _, hr, hgr.1, .inr ⟨rfl, hgr.2⟩⟩
theorem Ext.trans_grown {a b c : World} {row : Option Nat} (h : Ext a b) (k : b.grownBy c row) (hr : ∀ i, row = some i → a.heap.size ≤ i) : Ext a c :=
  ⟨k.os.trans h.os, k.tape.trans h.tape, k.output.trans h.output, Nat.le_trans h.size k.size, fun i hi => (k.block i (Nat.lt_of_lt_of_le hi h.size) (fun e => by have := hr i e.symm; omega)).trans (h.block i hi)⟩
theorem infoFr : (Try.prog.info? 26).map (fun i => (i.zero, i.size, i.bytes)) = some (some (.agg #[.bool false, .slice none 0 0, .bool false, .slice none 0 0]), 4, 64) := by kernel_rfl
theorem underFrs : Try.prog.underlying 61 = some (.slice 26) := by kernel_rfl
theorem info_parts2 {P : Program} {e : TypeId} {z : Value} {s b : Nat} (h : (P.info? e).map (fun i => (i.zero, i.size, i.bytes)) = some (some z, s, b)) : ∃ i, P.info? e = some i ∧ i.zero = some z ∧ i.size = s ∧ i.bytes = b := by
  obtain ⟨i, hi, he⟩ := Option.map_eq_some_iff.1 h
  simp only [Prod.mk.injEq] at he
  exact ⟨i, hi, he.1, he.2.1, he.2.2⟩
theorem MagO.grown {w w' : World} {b : Nat} {s : Value} {l : List Nat} {row : Option Nat} (h : MagO w b s l) (k : w.grownBy w' row) (hr : ∀ g, row = some g → ∃ cur fr, w.heap[g]? = some (.cells cur 26 fr)) : MagO w' b s l := by
  obtain ⟨h1, h2⟩ := h
  refine ⟨h1, ?_⟩
  rcases h2 with h2 | ⟨g, cap, cur, a1, a2, a3, a4⟩
  · exact .inl h2
  · refine .inr ⟨g, cap, cur, a1, a2, ?_, a4⟩
    rw [k.block g (Array.getElem?_eq_some_iff.1 a3).1 (fun e => by
      obtain ⟨c2, f2, h3⟩ := hr g e.symm
      rw [a3] at h3
      simp at h3)]
    exact a3
theorem IntO.grown {w w' : World} {b : Nat} {v : Value} {x : Int} {row : Option Nat} (h : IntO w b v x) (k : w.grownBy w' row) (hr : ∀ g, row = some g → ∃ cur fr, w.heap[g]? = some (.cells cur 26 fr)) : IntO w' b v x := by
  obtain ⟨s, h1, h2⟩ := h
  exact ⟨s, h1, h2.grown k hr⟩
theorem FracO.grown {w w' : World} {b : Nat} {v : Value} {q : Rat} {row : Option Nat} (h : FracO w b v q) (k : w.grownBy w' row) (hr : ∀ g, row = some g → ∃ cur fr, w.heap[g]? = some (.cells cur 26 fr)) : FracO w' b v q := by
  obtain ⟨b1, a1, n1, c1, b2, a2, n2, c2, h1, h2, h3⟩ := h
  exact ⟨b1, a1, n1, c1, b2, a2, n2, c2, h1, h2.grown k hr, h3.grown k hr⟩
/-- A slice of one fraction in memory of its own. -/
def Sl1 (b : Nat) (q : Rat) (W : World) (v : Value) : Prop := ∃ g E1 E2 E3 E4 E5 E6 E7 E8, v = .slice (some ⟨g, 0, none⟩) 1 1 ∧ W.heap[g]? = some (.cells #[.bool E1, .slice E2 E3 E4, .bool E5, .slice E6 E7 E8] 26 (0, 0)) ∧ FracO W b (.agg #[.bool E1, .slice E2 E3 E4, .bool E5, .slice E6 E7 E8]) q
theorem st_sl1 {ss : List FSpec} (b : Nat) (q : Rat) (h : StableAll Ext ss) : StableAll Ext (.pred (Sl1 b q) :: ss) := ⟨fun _ _ _ e h => by
  obtain ⟨g, E1, E2, E3, E4, E5, E6, E7, E8, h1, h2, h3⟩ := h
  exact ⟨g, E1, E2, E3, E4, E5, E6, E7, E8, h1, e.blk h2, h3.ext e⟩, h⟩
theorem new_cells4 {w : World} {g T : Nat} {x0 x1 x2 x3 : Value} (h : w.heap[g]? = some (.cells #[x0, x1, x2, x3] T (0, 0))) : ∀ j u, [x0, x1, x2, x3][j]? = some u → w.cell? ((⟨g, 0, none⟩ : Addr).add j) = some u := by
  intro j u hu
  have hj : j < 4 := by simpa using (List.getElem?_eq_some_iff.1 hu).1
  have e : (⟨g, 0, none⟩ : Addr).add j = ⟨g, j, none⟩ := by
    unfold Addr.add
    split
    · rename_i h0; subst h0; rfl
    · simp
  rw [e]
  simp only [World.cell?, h]
  rcases (show j = 0 ∨ j = 1 ∨ j = 2 ∨ j = 3 by omega) with rfl | rfl | rfl | rfl <;> simpa using hu
theorem own_type {w : World} {b n : Nat} {g c : Nat} {xs : List Value} (h : w.ownsRow b 26 4 (.slice (some ⟨g, 0, none⟩) n c) n xs) : b ≤ g ∧ ∃ cur fr, w.heap[g]? = some (.cells cur 26 fr) := by
  rcases h.2 with ⟨h2, _⟩ | ⟨k, cap, cur, a1, a2, a3, a4⟩
  · cases h2
  · simp only [Value.slice.injEq, Option.some.injEq, Addr.mk.injEq] at a1
    obtain ⟨⟨rfl, _, _⟩, _, _⟩ := a1
    exact ⟨a2, cur, _, a3⟩
/-- Four fractions behind one another in memory of their own. -/
def Four (b : Nat) (w : World) (v : Value) (x y z t : Rat) : Prop :=
  ∃ E1 E2 E3 E4 E5 E6 E7 E8 F1 F2 F3 F4 F5 F6 F7 F8 G1 G2 G3 G4 G5 G6 G7 G8 H1 H2 H3 H4 H5 H6 H7 H8, w.ownsRow b 26 4 v 4 [.bool E1, .slice E2 E3 E4, .bool E5, .slice E6 E7 E8, .bool F1, .slice F2 F3 F4, .bool F5, .slice F6 F7 F8, .bool G1, .slice G2 G3 G4, .bool G5, .slice G6 G7 G8, .bool H1, .slice H2 H3 H4, .bool H5, .slice H6 H7 H8] ∧ FracO w b (.agg #[.bool E1, .slice E2 E3 E4, .bool E5, .slice E6 E7 E8]) x ∧ FracO w b (.agg #[.bool F1, .slice F2 F3 F4, .bool F5, .slice F6 F7 F8]) y ∧ FracO w b (.agg #[.bool G1, .slice G2 G3 G4, .bool G5, .slice G6 G7 G8]) z ∧ FracO w b (.agg #[.bool H1, .slice H2 H3 H4, .bool H5, .slice H6 H7 H8]) t
set_option maxRecDepth 100000 in
set_option maxHeartbeats 12800000 in
theorem mul1_c (gm gn : Nat) (A1 : Bool) (A2 : Option Addr) (A3 A4 : Nat) (A5 : Bool) (A6 : Option Addr) (A7 A8 : Nat) (B1 : Bool) (B2 : Option Addr) (B3 B4 : Nat) (B5 : Bool) (B6 : Option Addr) (B7 B8 : Nat) (C1 : Bool) (C2 : Option Addr) (C3 C4 : Nat) (C5 : Bool) (C6 : Option Addr) (C7 C8 : Nat) (D1 : Bool) (D2 : Option Addr) (D3 D4 : Nat) (D5 : Bool) (D6 : Option Addr) (D7 D8 : Nat) (P1 : Bool) (P2 : Option Addr) (P3 P4 : Nat) (P5 : Bool) (P6 : Option Addr) (P7 P8 : Nat) (Q1 : Bool) (Q2 : Option Addr) (Q3 Q4 : Nat) (Q5 : Bool) (Q6 : Option Addr) (Q7 Q8 : Nat) (R1 : Bool) (R2 : Option Addr) (R3 R4 : Nat) (R5 : Bool) (R6 : Option Addr) (R7 R8 : Nat) (S1 : Bool) (S2 : Option Addr) (S3 S4 : Nat) (S5 : Bool) (S6 : Option Addr) (S7 S8 : Nat) (a b c d p q r s : Rat) (w : World)
    (na : nf a ≤ 67108864) (nb : nf b ≤ 67108864) (nc : nf c ≤ 67108864) (nd : nf d ≤ 67108864) (np : nf p ≤ 67108864) (nq : nf q ≤ 67108864) (nr : nf r ≤ 67108864) (ns : nf s ≤ 67108864)
    (zM : w.heap[gm]? = some (.cells #[.bool A1, .slice A2 A3 A4, .bool A5, .slice A6 A7 A8, .bool B1, .slice B2 B3 B4, .bool B5, .slice B6 B7 B8, .bool C1, .slice C2 C3 C4, .bool C5, .slice C6 C7 C8, .bool D1, .slice D2 D3 D4, .bool D5, .slice D6 D7 D8] 40 (0, 0))) (zN : w.heap[gn]? = some (.cells #[.bool P1, .slice P2 P3 P4, .bool P5, .slice P6 P7 P8, .bool Q1, .slice Q2 Q3 Q4, .bool Q5, .slice Q6 Q7 Q8, .bool R1, .slice R2 R3 R4, .bool R5, .slice R6 R7 R8, .bool S1, .slice S2 S3 S4, .bool S5, .slice S6 S7 S8] 40 (0, 0)))
    (fA : FracR w (.agg #[.bool A1, .slice A2 A3 A4, .bool A5, .slice A6 A7 A8]) a) (fB : FracR w (.agg #[.bool B1, .slice B2 B3 B4, .bool B5, .slice B6 B7 B8]) b) (fC : FracR w (.agg #[.bool C1, .slice C2 C3 C4, .bool C5, .slice C6 C7 C8]) c) (fD : FracR w (.agg #[.bool D1, .slice D2 D3 D4, .bool D5, .slice D6 D7 D8]) d) (fP : FracR w (.agg #[.bool P1, .slice P2 P3 P4, .bool P5, .slice P6 P7 P8]) p) (fQ : FracR w (.agg #[.bool Q1, .slice Q2 Q3 Q4, .bool Q5, .slice Q6 Q7 Q8]) q) (fR : FracR w (.agg #[.bool R1, .slice R2 R3 R4, .bool R5, .slice R6 R7 R8]) r) (fS : FracR w (.agg #[.bool S1, .slice S2 S3 S4, .bool S5, .slice S6 S7 S8]) s) :
    Calls Try.prog 54 #[.pointer (some ⟨gm, 0, none⟩), .pointer (some ⟨gn, 0, none⟩)] w fun e w' => ∃ v, e = .returned v ∧ Ext w w' ∧ ∃ b0, w.heap.size ≤ b0 ∧ Four b0 w' v (a * p + b * r) (a * q + b * s) (c * p + d * r) (c * q + d * s) := by
  have k0 := mkHid (fun W h1 h2 h3 h4 => pair_f (.agg #[.bool A1, .slice A2 A3 A4, .bool A5, .slice A6 A7 A8]) (.agg #[.bool P1, .slice P2 P3 P4, .bool P5, .slice P6 P7 P8]) (.agg #[.bool B1, .slice B2 B3 B4, .bool B5, .slice B6 B7 B8]) (.agg #[.bool R1, .slice R2 R3 R4, .bool R5, .slice R6 R7 R8]) a p b r W na np nb nr h1 h2 h3 h4)
  have k1 := mkHid (fun W h1 h2 h3 h4 => pair_f (.agg #[.bool A1, .slice A2 A3 A4, .bool A5, .slice A6 A7 A8]) (.agg #[.bool Q1, .slice Q2 Q3 Q4, .bool Q5, .slice Q6 Q7 Q8]) (.agg #[.bool B1, .slice B2 B3 B4, .bool B5, .slice B6 B7 B8]) (.agg #[.bool S1, .slice S2 S3 S4, .bool S5, .slice S6 S7 S8]) a q b s W na nq nb ns h1 h2 h3 h4)
  have k2 := mkHid (fun W h1 h2 h3 h4 => pair_f (.agg #[.bool C1, .slice C2 C3 C4, .bool C5, .slice C6 C7 C8]) (.agg #[.bool P1, .slice P2 P3 P4, .bool P5, .slice P6 P7 P8]) (.agg #[.bool D1, .slice D2 D3 D4, .bool D5, .slice D6 D7 D8]) (.agg #[.bool R1, .slice R2 R3 R4, .bool R5, .slice R6 R7 R8]) c p d r W nc np nd nr h1 h2 h3 h4)
  have k3 := mkHid (fun W h1 h2 h3 h4 => pair_f (.agg #[.bool C1, .slice C2 C3 C4, .bool C5, .slice C6 C7 C8]) (.agg #[.bool Q1, .slice Q2 Q3 Q4, .bool Q5, .slice Q6 Q7 Q8]) (.agg #[.bool D1, .slice D2 D3 D4, .bool D5, .slice D6 D7 D8]) (.agg #[.bool S1, .slice S2 S3 S4, .bool S5, .slice S6 S7 S8]) c q d s W nc nq nd ns h1 h2 h3 h4)
  have ko := mkHid (fun w => fourOf_c A1 A2 A3 A4 A5 A6 A7 A8 B1 B2 B3 B4 B5 B6 B7 B8 C1 C2 C3 C4 C5 C6 C7 C8 D1 D2 D3 D4 D5 D6 D7 D8 w)
  have kn := mkHid (fun w => fourOf_c P1 P2 P3 P4 P5 P6 P7 P8 Q1 Q2 Q3 Q4 Q5 Q6 Q7 Q8 R1 R2 R3 R4 R5 R6 R7 R8 S1 S2 S3 S4 S5 S6 S7 S8 w)
  replace zM := mkHid zM
  replace zN := mkHid zN
  replace fA := mkHid fA
  replace fB := mkHid fB
  replace fC := mkHid fC
  replace fD := mkHid fD
  replace fP := mkHid fP
  replace fQ := mkHid fQ
  replace fR := mkHid fR
  replace fS := mkHid fS
  have hE := mkHid (Ext.refl w)
  clear na nb nc nd np nq nr ns
  go_enter Try.func54, Try.ntmps54
  go_wp2_with fail
  apply region_fresh [.val (.agg #[.bool A1, .slice A2 A3 A4, .bool A5, .slice A6 A7 A8, .bool B1, .slice B2 B3 B4, .bool B5, .slice B6 B7 B8, .bool C1, .slice C2 C3 C4, .bool C5, .slice C6 C7 C8, .bool D1, .slice D2 D3 D4, .bool D5, .slice D6 D7 D8]), .val (.agg #[.bool A1, .slice A2 A3 A4, .bool A5, .slice A6 A7 A8, .bool B1, .slice B2 B3 B4, .bool B5, .slice B6 B7 B8, .bool C1, .slice C2 C3 C4, .bool C5, .slice C6 C7 C8, .bool D1, .slice D2 D3 D4, .bool D5, .slice D6 D7 D8]), .val (.agg #[.bool P1, .slice P2 P3 P4, .bool P5, .slice P6 P7 P8, .bool Q1, .slice Q2 Q3 Q4, .bool Q5, .slice Q6 Q7 Q8, .bool R1, .slice R2 R3 R4, .bool R5, .slice R6 R7 R8, .bool S1, .slice S2 S3 S4, .bool S5, .slice S6 S7 S8]), .val (.agg #[.bool P1, .slice P2 P3 P4, .bool P5, .slice P6 P7 P8, .bool Q1, .slice Q2 Q3 Q4, .bool Q5, .slice Q6 Q7 Q8, .bool R1, .slice R2 R3 R4, .bool R5, .slice R6 R7 R8, .bool S1, .slice S2 S3 S4, .bool S5, .slice S6 S7 S8]), .fresh (VarAt w.heap.size #[.bool false, .slice none 0 0, .bool false, .slice none 0 0, .bool false, .slice none 0 0, .bool false, .slice none 0 0, .bool false, .slice none 0 0, .bool false, .slice none 0 0, .bool false, .slice none 0 0, .bool false, .slice none 0 0] 87), .fresh (VarAt w.heap.size #[.bool false, .slice none 0 0, .bool false, .slice none 0 0, .bool false, .slice none 0 0, .bool false, .slice none 0 0, .bool false, .slice none 0 0, .bool false, .slice none 0 0, .bool false, .slice none 0 0, .bool false, .slice none 0 0] 87)] (by kernel_rfl)
    (Fresh.stable_vals _ (Fresh.stable_vals _ (Fresh.stable_vals _ (Fresh.stable_vals _ (fst_var _ _ _ (fst_var _ _ _ trivial))))))
  refine ⟨fun W hW _ => fr_loadF rfl 40 (.tmp 0) rfl (gm) rfl 40 #[.bool A1, .slice A2 A3 A4, .bool A5, .slice A6 A7 A8, .bool B1, .slice B2 B3 B4, .bool B5, .slice B6 B7 B8, .bool C1, .slice C2 C3 C4, .bool C5, .slice C6 C7 C8, .bool D1, .slice D2 D3 D4, .bool D5, .slice D6 D7 D8] (0, 0) _ (hW.blk zM.out) Try.underlying40 rfl (by kernel_rfl) ⟨Ext.refl _, rfl⟩, ⟨fun W hW _ => ?a1, ⟨fun W hW _ => fr_loadF rfl 40 (.tmp 1) rfl (gn) rfl 40 #[.bool P1, .slice P2 P3 P4, .bool P5, .slice P6 P7 P8, .bool Q1, .slice Q2 Q3 Q4, .bool Q5, .slice Q6 Q7 Q8, .bool R1, .slice R2 R3 R4, .bool R5, .slice R6 R7 R8, .bool S1, .slice S2 S3 S4, .bool S5, .slice S6 S7 S8] (0, 0) _ (hW.blk zN.out) Try.underlying40 rfl (by kernel_rfl) ⟨Ext.refl _, rfl⟩, ⟨fun W hW _ => ?a3,  ⟨fun W hW _ => ?a4, fun va => ⟨fun W hW _ => ?a5, fun vb => fun W hW hF hAp => ?fin⟩⟩⟩⟩⟩⟩
  case a1 =>
    go_simp
    refine (ko.out W).mono ?_
    rintro e w' ⟨rfl, h1⟩
    exact ⟨rfl, h1⟩
  case a3 =>
    go_simp
    refine (kn.out W).mono ?_
    rintro e w' ⟨rfl, h1⟩
    exact ⟨rfl, h1⟩
  case a4 =>
    have hnv := new_var (b := w.heap.size) (cs := #[.bool false, .slice none 0 0, .bool false, .slice none 0 0, .bool false, .slice none 0 0, .bool false, .slice none 0 0, .bool false, .slice none 0 0, .bool false, .slice none 0 0, .bool false, .slice none 0 0, .bool false, .slice none 0 0]) (T := 87) W hW.size
    replace hnv := mkHid hnv
    go_simp
    exact ⟨hnv.out.1, hnv.out.2.1⟩
  case a5 =>
    have hnv := new_var (b := w.heap.size) (cs := #[.bool false, .slice none 0 0, .bool false, .slice none 0 0, .bool false, .slice none 0 0, .bool false, .slice none 0 0, .bool false, .slice none 0 0, .bool false, .slice none 0 0, .bool false, .slice none 0 0, .bool false, .slice none 0 0]) (T := 87) W hW.size
    replace hnv := mkHid hnv
    go_simp
    exact ⟨hnv.out.1, hnv.out.2.1⟩
  case fin =>
    obtain ⟨f9, f8, -⟩ := hF
    obtain ⟨⟨gq, rfl, hgqb, hgq⟩, _⟩ := f9 rfl
    obtain ⟨⟨gp, rfl, hgpb, hgp⟩, _⟩ := f8 rfl
    have hne : gp ≠ gq := by
      intro e
      exact hAp _ _ (List.mem_cons_self ..) (List.mem_cons_of_mem _ (List.mem_cons_self ..)) rfl rfl (by simp) (by rw [e])
    have hrows := two_rows W gp gq #[.bool A1, .slice A2 A3 A4, .bool A5, .slice A6 A7 A8, .bool B1, .slice B2 B3 B4, .bool B5, .slice B6 B7 B8, .bool C1, .slice C2 C3 C4, .bool C5, .slice C6 C7 C8, .bool D1, .slice D2 D3 D4, .bool D5, .slice D6 D7 D8] #[.bool P1, .slice P2 P3 P4, .bool P5, .slice P6 P7 P8, .bool Q1, .slice Q2 Q3 Q4, .bool Q5, .slice Q6 Q7 Q8, .bool R1, .slice R2 R3 R4, .bool R5, .slice R6 R7 R8, .bool S1, .slice S2 S3 S4, .bool S5, .slice S6 S7 S8] _ _ _ hne hgp hgq
    obtain ⟨w1, hw1⟩ : ∃ w1, w1 = (W.setRow gp #[.bool A1, .slice A2 A3 A4, .bool A5, .slice A6 A7 A8, .bool B1, .slice B2 B3 B4, .bool B5, .slice B6 B7 B8, .bool C1, .slice C2 C3 C4, .bool C5, .slice C6 C7 C8, .bool D1, .slice D2 D3 D4, .bool D5, .slice D6 D7 D8]).setRow gq #[.bool P1, .slice P2 P3 P4, .bool P5, .slice P6 P7 P8, .bool Q1, .slice Q2 Q3 Q4, .bool Q5, .slice Q6 Q7 Q8, .bool R1, .slice R2 R3 R4, .bool R5, .slice R6 R7 R8, .bool S1, .slice S2 S3 S4, .bool S5, .slice S6 S7 S8] := ⟨_, rfl⟩
    have fl : ∀ v x, FracR W v x → FracR w1 v x := fun v x h => by rw [hw1]; exact (h.flat hgp (by simp [flatV]) _).flat hrows.2.2 (by simp [flatV]) _
    have hE1 : Ext w w1 := by rw [hw1]; exact ((hE.out.trans hW).row hgpb _).row hgqb _
    have zP : w1.heap[gp]? = some (.cells #[.bool A1, .slice A2 A3 A4, .bool A5, .slice A6 A7 A8, .bool B1, .slice B2 B3 B4, .bool B5, .slice B6 B7 B8, .bool C1, .slice C2 C3 C4, .bool C5, .slice C6 C7 C8, .bool D1, .slice D2 D3 D4, .bool D5, .slice D6 D7 D8] 87 (0, 0)) := by rw [hw1]; exact hrows.1
    have zQ : w1.heap[gq]? = some (.cells #[.bool P1, .slice P2 P3 P4, .bool P5, .slice P6 P7 P8, .bool Q1, .slice Q2 Q3 Q4, .bool Q5, .slice Q6 Q7 Q8, .bool R1, .slice R2 R3 R4, .bool R5, .slice R6 R7 R8, .bool S1, .slice S2 S3 S4, .bool S5, .slice S6 S7 S8] 87 (0, 0)) := by rw [hw1]; exact hrows.2.1
    replace hgp := mkHid hgp
    replace hrows := mkHid hrows
    replace fA := mkHid (fl _ _ (fA.out.ext hW))
    replace fB := mkHid (fl _ _ (fB.out.ext hW))
    replace fC := mkHid (fl _ _ (fC.out.ext hW))
    replace fD := mkHid (fl _ _ (fD.out.ext hW))
    replace fP := mkHid (fl _ _ (fP.out.ext hW))
    replace fQ := mkHid (fl _ _ (fQ.out.ext hW))
    replace fR := mkHid (fl _ _ (fR.out.ext hW))
    replace fS := mkHid (fl _ _ (fS.out.ext hW))
    replace hE := mkHid hE1
    replace zP := mkHid zP
    replace zQ := mkHid zQ
    replace hw1 := mkHid hw1
    clear f9 f8 hAp fl hgq hE1 hW zM zN ko kn hgpb hgqb
    go_simp
    go_wp2_with (first
      | (refine wpList_store_row rfl 87 (.tmp 3) (.tmp 10) rfl gp #[.bool A1, .slice A2 A3 A4, .bool A5, .slice A6 A7 A8, .bool B1, .slice B2 B3 B4, .bool B5, .slice B6 B7 B8, .bool C1, .slice C2 C3 C4, .bool C5, .slice C6 C7 C8, .bool D1, .slice D2 D3 D4, .bool D5, .slice D6 D7 D8] rfl rfl 87 _ hgp.out (by kernel_rfl) rfl (by kernel_rfl) ?_)
      | (refine wpList_store_row rfl 87 (.tmp 4) (.tmp 12) rfl gq #[.bool P1, .slice P2 P3 P4, .bool P5, .slice P6 P7 P8, .bool Q1, .slice Q2 Q3 Q4, .bool Q5, .slice Q6 Q7 Q8, .bool R1, .slice R2 R3 R4, .bool R5, .slice R6 R7 R8, .bool S1, .slice S2 S3 S4, .bool S5, .slice S6 S7 S8] rfl rfl 87 _ hrows.out.2.2 (by kernel_rfl) rfl (by kernel_rfl) ?_; rw [← hw1.out]))
    clear hrows hgp hne
    replace hw1 : True := trivial
    clear hw1
    obtain ⟨b0, hb0⟩ : ∃ b0, b0 = w1.heap.size := ⟨_, rfl⟩
    have hb1 : w.heap.size ≤ b0 := by rw [hb0]; exact hE.out.size
    replace hb0 := mkHid hb0
    have ho := mkHid (show w1.ownsRow b0 26 4 (.slice none 0 0) 0 [] from World.ownsRow_nil _ _ _ _)
    have rzP := zP
    have rzQ := zQ
    have rfA := fA
    have rfB := fB
    have rfC := fC
    have rfD := fD
    have rfP := fP
    have rfQ := fQ
    have rfR := fR
    have rfS := fS
    have hX := mkHid (Ext.refl w1)
    obtain ⟨i0, hi, hz0, hz1, hz2⟩ := info_parts2 infoFr
    replace hi := mkHid hi
    replace hz0 := mkHid hz0
    replace hz1 := mkHid hz1
    replace hz2 := mkHid hz2
    have e1 : IntKind.i64.wrap 1 = 1 := by rw [IntKind.wrap_i64]; omega
    have e2 : IntKind.i64.wrap 2 = 2 := by rw [IntKind.wrap_i64]; omega
    have e3 : IntKind.i64.wrap 3 = 3 := by rw [IntKind.wrap_i64]; omega
    refine wp_loop_rounds 5 ?_
    rw [rounds_succ]
    go_wp2_with fail
    have yP_0 : ∀ W, Ext w1 W → W.cell? ⟨gp, 0, none⟩ = some (.bool A1) := fun W e => by simp [World.cell?, e.blk zP.out]
    have yP_1 : ∀ W, Ext w1 W → W.cell? ⟨gp, 1, none⟩ = some (.slice A2 A3 A4) := fun W e => by simp [World.cell?, e.blk zP.out]
    have yP_2 : ∀ W, Ext w1 W → W.cell? ⟨gp, 2, none⟩ = some (.bool A5) := fun W e => by simp [World.cell?, e.blk zP.out]
    have yP_3 : ∀ W, Ext w1 W → W.cell? ⟨gp, 3, none⟩ = some (.slice A6 A7 A8) := fun W e => by simp [World.cell?, e.blk zP.out]
    have yP_4 : ∀ W, Ext w1 W → W.cell? ⟨gp, 4, none⟩ = some (.bool B1) := fun W e => by simp [World.cell?, e.blk zP.out]
    have yP_5 : ∀ W, Ext w1 W → W.cell? ⟨gp, 5, none⟩ = some (.slice B2 B3 B4) := fun W e => by simp [World.cell?, e.blk zP.out]
    have yP_6 : ∀ W, Ext w1 W → W.cell? ⟨gp, 6, none⟩ = some (.bool B5) := fun W e => by simp [World.cell?, e.blk zP.out]
    have yP_7 : ∀ W, Ext w1 W → W.cell? ⟨gp, 7, none⟩ = some (.slice B6 B7 B8) := fun W e => by simp [World.cell?, e.blk zP.out]
    have yQ_0 : ∀ W, Ext w1 W → W.cell? ⟨gq, 0, none⟩ = some (.bool P1) := fun W e => by simp [World.cell?, e.blk zQ.out]
    have yQ_1 : ∀ W, Ext w1 W → W.cell? ⟨gq, 1, none⟩ = some (.slice P2 P3 P4) := fun W e => by simp [World.cell?, e.blk zQ.out]
    have yQ_2 : ∀ W, Ext w1 W → W.cell? ⟨gq, 2, none⟩ = some (.bool P5) := fun W e => by simp [World.cell?, e.blk zQ.out]
    have yQ_3 : ∀ W, Ext w1 W → W.cell? ⟨gq, 3, none⟩ = some (.slice P6 P7 P8) := fun W e => by simp [World.cell?, e.blk zQ.out]
    have yQ_8 : ∀ W, Ext w1 W → W.cell? ⟨gq, 8, none⟩ = some (.bool R1) := fun W e => by simp [World.cell?, e.blk zQ.out]
    have yQ_9 : ∀ W, Ext w1 W → W.cell? ⟨gq, 9, none⟩ = some (.slice R2 R3 R4) := fun W e => by simp [World.cell?, e.blk zQ.out]
    have yQ_10 : ∀ W, Ext w1 W → W.cell? ⟨gq, 10, none⟩ = some (.bool R5) := fun W e => by simp [World.cell?, e.blk zQ.out]
    have yQ_11 : ∀ W, Ext w1 W → W.cell? ⟨gq, 11, none⟩ = some (.slice R6 R7 R8) := fun W e => by simp [World.cell?, e.blk zQ.out]
    have hs0 : b0 ≤ w1.heap.size := by rw [hb0.out]; exact hX.out.size
    apply Tail.region_ext [.val ((Value.slice none 0 0)), .val _, .val _, .val _, .val _, .val _, .val _, .val _, .val _, .val _, .val _, .val _, .val _, .val _, .val _, .pred (fun W v => FracO W b0 v (a * p + b * r)), .pred (Sl1 b0 (a * p + b * r))] (by kernel_rfl) (stable_vals _ (stable_vals _ (stable_vals _ (stable_vals _ (stable_vals _ (stable_vals _ (stable_vals _ (stable_vals _ (stable_vals _ (stable_vals _ (stable_vals _ (stable_vals _ (stable_vals _ (stable_vals _ (stable_vals _ (st_fracO _ _ (st_sl1 _ _ trivial)))))))))))))))))
    iterate 15 (refine ⟨fun W hW _ => by go_simp; first | exact ⟨Ext.refl _, rfl⟩ | exact Ext.refl _, ?_⟩)
    refine ⟨fun W hW _ => ?c15, fun x15 => ⟨fun W hW hF => ?c16, fun x16 => fun W0 hW hF => ?fin0⟩⟩
    case c15 =>
      go_simp
      refine (k0.out W (fA.out.ext hW) (fP.out.ext hW) (fB.out.ext hW) (fR.out.ext hW)).mono ?_
      rintro e w' ⟨v, rfl, e1, e2⟩
      exact ⟨v, rfl, e1, e2.mono (Nat.le_trans hs0 hW.size)⟩
    case c16 =>
      have dd : FracO W b0 x15 (a * p + b * r) := hF.1 (by kernel_rfl)
      obtain ⟨E1, E2, E3, E4, E5, E6, E7, E8, rfl⟩ := dd.r.shape
      have hs := (Ext.refl W).al (.cells #[.bool E1, .slice E2 E3 E4, .bool E5, .slice E6 E7 E8] 26)
      have hsl := mkHid (show Sl1 b0 (a * p + b * r) (W.alloc (.cells #[.bool E1, .slice E2 E3 E4, .bool E5, .slice E6 E7 E8] 26)) (.slice (some ⟨W.heap.size, 0, none⟩) 1 1) from ⟨_, _, _, _, _, _, _, _, _, rfl, heap_alloc_new _ _, dd.ext hs⟩)
      replace hs := mkHid hs
      clear hF dd
      go_simp
      exact ⟨hs.out, hsl.out⟩
    case fin0 =>
      have dd : Sl1 b0 (a * p + b * r) W0 x16 := hF.1 rfl
      obtain ⟨gs0, E1, E2, E3, E4, E5, E6, E7, E8, rfl, zS, fO0⟩ := dd
      clear hF
      clear yP_0 yP_1 yP_2 yP_3 yP_4 yP_5 yP_6 yP_7 yQ_0 yQ_1 yQ_2 yQ_3 yQ_8 yQ_9 yQ_10 yQ_11
      replace fA := mkHid (fA.out.ext hW)
      replace fB := mkHid (fB.out.ext hW)
      replace fC := mkHid (fC.out.ext hW)
      replace fD := mkHid (fD.out.ext hW)
      replace fP := mkHid (fP.out.ext hW)
      replace fQ := mkHid (fQ.out.ext hW)
      replace fR := mkHid (fR.out.ext hW)
      replace fS := mkHid (fS.out.ext hW)
      replace hE := mkHid (hE.out.trans hW)
      replace zP := mkHid (hW.blk zP.out)
      replace zQ := mkHid (hW.blk zQ.out)
      replace hX := mkHid (hX.out.trans hW)
      replace ho := mkHid (ownsRow_ext ho.out hW)
      clear hW
      obtain ⟨v1, w1x, happ, hown, hgr⟩ := append_one (P := Try.prog) W0 b0 61 61 26 i0 _ 4 64 underFrs hi.out hz0.out hz1.out hz2.out rfl (by omega) ((Value.slice none 0 0)) 0 [] ho.out ⟨gs0, 0, none⟩ 1 1 [.bool E1, .slice E2 E3 E4, .bool E5, .slice E6 E7 E8] rfl
        (new_cells4 zS) (by intro u hu; simp at hu; rcases hu with rfl | rfl | rfl | rfl <;> rfl) (by unfold maxLen; omega) (by omega) (by have := hX.out.size; have := hb0.out; omega) (by omega)
      have hboth : Ext w1 w1x ∧ Ext w w1x ∧ (∀ v x, FracO W0 b0 v x → FracO w1x b0 v x) := by
        rcases hgr with ⟨g2, cap, e1, _, hg⟩ | ⟨_, hg⟩
        · have ho2 := ho.out
          rw [e1] at ho2
          obtain ⟨ht1, ht2⟩ := own_type ho2
          exact ⟨hX.out.trans_grown hg (fun k hk => by cases hk; have := hb0.out; omega), hE.out.trans_grown hg (fun k hk => by cases hk; omega), fun v x h => h.grown hg (fun k hk => by cases hk; exact ht2)⟩
        · exact ⟨hX.out.trans_grown hg (fun k hk => by cases hk), hE.out.trans_grown hg (fun k hk => by cases hk), fun v x h => h.grown hg (fun k hk => by cases hk)⟩
      have hown2 : w1x.ownsRow b0 26 4 v1 1 [.bool E1, .slice E2 E3 E4, .bool E5, .slice E6 E7 E8] := by simpa using hown
      replace happ := mkHid happ
      replace ho := mkHid hown2
      clear hgr hown hown2 zS
      replace fO0 := mkHid (hboth.2.2 _ _ fO0)
      replace hX := mkHid hboth.1
      replace hE := mkHid hboth.2.1
      clear hboth
      replace zP := mkHid (hX.out.blk rzP.out)
      replace zQ := mkHid (hX.out.blk rzQ.out)
      replace fA := mkHid (rfA.out.ext hX.out)
      replace fB := mkHid (rfB.out.ext hX.out)
      replace fC := mkHid (rfC.out.ext hX.out)
      replace fD := mkHid (rfD.out.ext hX.out)
      replace fP := mkHid (rfP.out.ext hX.out)
      replace fQ := mkHid (rfQ.out.ext hX.out)
      replace fR := mkHid (rfR.out.ext hX.out)
      replace fS := mkHid (rfS.out.ext hX.out)
      go_simp
      go_wp2_with (at_builtin; refine wpList_append_ran rfl (.tmp 21) (.tmp 37) 61 rfl rfl rfl happ.out ?_)
      clear happ
      rw [rounds_succ]
      go_wp2_with fail
      have yP_0 : ∀ W, Ext w1x W → W.cell? ⟨gp, 0, none⟩ = some (.bool A1) := fun W e => by simp [World.cell?, e.blk zP.out]
      have yP_1 : ∀ W, Ext w1x W → W.cell? ⟨gp, 1, none⟩ = some (.slice A2 A3 A4) := fun W e => by simp [World.cell?, e.blk zP.out]
      have yP_2 : ∀ W, Ext w1x W → W.cell? ⟨gp, 2, none⟩ = some (.bool A5) := fun W e => by simp [World.cell?, e.blk zP.out]
      have yP_3 : ∀ W, Ext w1x W → W.cell? ⟨gp, 3, none⟩ = some (.slice A6 A7 A8) := fun W e => by simp [World.cell?, e.blk zP.out]
      have yP_4 : ∀ W, Ext w1x W → W.cell? ⟨gp, 4, none⟩ = some (.bool B1) := fun W e => by simp [World.cell?, e.blk zP.out]
      have yP_5 : ∀ W, Ext w1x W → W.cell? ⟨gp, 5, none⟩ = some (.slice B2 B3 B4) := fun W e => by simp [World.cell?, e.blk zP.out]
      have yP_6 : ∀ W, Ext w1x W → W.cell? ⟨gp, 6, none⟩ = some (.bool B5) := fun W e => by simp [World.cell?, e.blk zP.out]
      have yP_7 : ∀ W, Ext w1x W → W.cell? ⟨gp, 7, none⟩ = some (.slice B6 B7 B8) := fun W e => by simp [World.cell?, e.blk zP.out]
      have yQ_4 : ∀ W, Ext w1x W → W.cell? ⟨gq, 4, none⟩ = some (.bool Q1) := fun W e => by simp [World.cell?, e.blk zQ.out]
      have yQ_5 : ∀ W, Ext w1x W → W.cell? ⟨gq, 5, none⟩ = some (.slice Q2 Q3 Q4) := fun W e => by simp [World.cell?, e.blk zQ.out]
      have yQ_6 : ∀ W, Ext w1x W → W.cell? ⟨gq, 6, none⟩ = some (.bool Q5) := fun W e => by simp [World.cell?, e.blk zQ.out]
      have yQ_7 : ∀ W, Ext w1x W → W.cell? ⟨gq, 7, none⟩ = some (.slice Q6 Q7 Q8) := fun W e => by simp [World.cell?, e.blk zQ.out]
      have yQ_12 : ∀ W, Ext w1x W → W.cell? ⟨gq, 12, none⟩ = some (.bool S1) := fun W e => by simp [World.cell?, e.blk zQ.out]
      have yQ_13 : ∀ W, Ext w1x W → W.cell? ⟨gq, 13, none⟩ = some (.slice S2 S3 S4) := fun W e => by simp [World.cell?, e.blk zQ.out]
      have yQ_14 : ∀ W, Ext w1x W → W.cell? ⟨gq, 14, none⟩ = some (.bool S5) := fun W e => by simp [World.cell?, e.blk zQ.out]
      have yQ_15 : ∀ W, Ext w1x W → W.cell? ⟨gq, 15, none⟩ = some (.slice S6 S7 S8) := fun W e => by simp [World.cell?, e.blk zQ.out]
      have hs1 : b0 ≤ w1x.heap.size := by rw [hb0.out]; exact hX.out.size
      apply Tail.region_ext [.val (v1), .val _, .val _, .val _, .val _, .val _, .val _, .val _, .val _, .val _, .val _, .val _, .val _, .val _, .val _, .pred (fun W v => FracO W b0 v (a * q + b * s)), .pred (Sl1 b0 (a * q + b * s))] (by kernel_rfl) (stable_vals _ (stable_vals _ (stable_vals _ (stable_vals _ (stable_vals _ (stable_vals _ (stable_vals _ (stable_vals _ (stable_vals _ (stable_vals _ (stable_vals _ (stable_vals _ (stable_vals _ (stable_vals _ (stable_vals _ (st_fracO _ _ (st_sl1 _ _ trivial)))))))))))))))))
      iterate 15 (refine ⟨fun W hW _ => by go_simp; first | exact ⟨Ext.refl _, rfl⟩ | exact Ext.refl _, ?_⟩)
      refine ⟨fun W hW _ => ?c15, fun x15 => ⟨fun W hW hF => ?c16, fun x16 => fun W1 hW hF => ?fin1⟩⟩
      case c15 =>
        go_simp
        refine (k1.out W (fA.out.ext hW) (fQ.out.ext hW) (fB.out.ext hW) (fS.out.ext hW)).mono ?_
        rintro e w' ⟨v, rfl, e1, e2⟩
        exact ⟨v, rfl, e1, e2.mono (Nat.le_trans hs1 hW.size)⟩
      case c16 =>
        have dd : FracO W b0 x15 (a * q + b * s) := hF.1 (by kernel_rfl)
        obtain ⟨F1, F2, F3, F4, F5, F6, F7, F8, rfl⟩ := dd.r.shape
        have hs := (Ext.refl W).al (.cells #[.bool F1, .slice F2 F3 F4, .bool F5, .slice F6 F7 F8] 26)
        have hsl := mkHid (show Sl1 b0 (a * q + b * s) (W.alloc (.cells #[.bool F1, .slice F2 F3 F4, .bool F5, .slice F6 F7 F8] 26)) (.slice (some ⟨W.heap.size, 0, none⟩) 1 1) from ⟨_, _, _, _, _, _, _, _, _, rfl, heap_alloc_new _ _, dd.ext hs⟩)
        replace hs := mkHid hs
        clear hF dd
        go_simp
        exact ⟨hs.out, hsl.out⟩
      case fin1 =>
        have dd : Sl1 b0 (a * q + b * s) W1 x16 := hF.1 rfl
        obtain ⟨gs1, F1, F2, F3, F4, F5, F6, F7, F8, rfl, zS, fO1⟩ := dd
        clear hF
        clear yP_0 yP_1 yP_2 yP_3 yP_4 yP_5 yP_6 yP_7 yQ_4 yQ_5 yQ_6 yQ_7 yQ_12 yQ_13 yQ_14 yQ_15
        replace fA := mkHid (fA.out.ext hW)
        replace fB := mkHid (fB.out.ext hW)
        replace fC := mkHid (fC.out.ext hW)
        replace fD := mkHid (fD.out.ext hW)
        replace fP := mkHid (fP.out.ext hW)
        replace fQ := mkHid (fQ.out.ext hW)
        replace fR := mkHid (fR.out.ext hW)
        replace fS := mkHid (fS.out.ext hW)
        replace hE := mkHid (hE.out.trans hW)
        replace zP := mkHid (hW.blk zP.out)
        replace zQ := mkHid (hW.blk zQ.out)
        replace hX := mkHid (hX.out.trans hW)
        replace fO0 := mkHid (fO0.out.ext hW)
        replace ho := mkHid (ownsRow_ext ho.out hW)
        clear hW
        obtain ⟨v2, w2x, happ, hown, hgr⟩ := append_one (P := Try.prog) W1 b0 61 61 26 i0 _ 4 64 underFrs hi.out hz0.out hz1.out hz2.out rfl (by omega) (v1) 1 [.bool E1, .slice E2 E3 E4, .bool E5, .slice E6 E7 E8] ho.out ⟨gs1, 0, none⟩ 1 1 [.bool F1, .slice F2 F3 F4, .bool F5, .slice F6 F7 F8] rfl
          (new_cells4 zS) (by intro u hu; simp at hu; rcases hu with rfl | rfl | rfl | rfl <;> rfl) (by unfold maxLen; omega) (by omega) (by have := hX.out.size; have := hb0.out; omega) (by omega)
        have hboth : Ext w1 w2x ∧ Ext w w2x ∧ (∀ v x, FracO W1 b0 v x → FracO w2x b0 v x) := by
          rcases hgr with ⟨g2, cap, e1, _, hg⟩ | ⟨_, hg⟩
          · have ho2 := ho.out
            rw [e1] at ho2
            obtain ⟨ht1, ht2⟩ := own_type ho2
            exact ⟨hX.out.trans_grown hg (fun k hk => by cases hk; have := hb0.out; omega), hE.out.trans_grown hg (fun k hk => by cases hk; omega), fun v x h => h.grown hg (fun k hk => by cases hk; exact ht2)⟩
          · exact ⟨hX.out.trans_grown hg (fun k hk => by cases hk), hE.out.trans_grown hg (fun k hk => by cases hk), fun v x h => h.grown hg (fun k hk => by cases hk)⟩
        have hown2 : w2x.ownsRow b0 26 4 v2 2 [.bool E1, .slice E2 E3 E4, .bool E5, .slice E6 E7 E8, .bool F1, .slice F2 F3 F4, .bool F5, .slice F6 F7 F8] := by simpa using hown
        replace happ := mkHid happ
        replace ho := mkHid hown2
        clear hgr hown hown2 zS
        replace fO0 := mkHid (hboth.2.2 _ _ fO0.out)
        replace fO1 := mkHid (hboth.2.2 _ _ fO1)
        replace hX := mkHid hboth.1
        replace hE := mkHid hboth.2.1
        clear hboth
        replace zP := mkHid (hX.out.blk rzP.out)
        replace zQ := mkHid (hX.out.blk rzQ.out)
        replace fA := mkHid (rfA.out.ext hX.out)
        replace fB := mkHid (rfB.out.ext hX.out)
        replace fC := mkHid (rfC.out.ext hX.out)
        replace fD := mkHid (rfD.out.ext hX.out)
        replace fP := mkHid (rfP.out.ext hX.out)
        replace fQ := mkHid (rfQ.out.ext hX.out)
        replace fR := mkHid (rfR.out.ext hX.out)
        replace fS := mkHid (rfS.out.ext hX.out)
        go_simp
        go_wp2_with (at_builtin; refine wpList_append_ran rfl (.tmp 21) (.tmp 37) 61 rfl rfl rfl happ.out ?_)
        clear happ
        rw [rounds_succ]
        go_wp2_with fail
        have yP_8 : ∀ W, Ext w2x W → W.cell? ⟨gp, 8, none⟩ = some (.bool C1) := fun W e => by simp [World.cell?, e.blk zP.out]
        have yP_9 : ∀ W, Ext w2x W → W.cell? ⟨gp, 9, none⟩ = some (.slice C2 C3 C4) := fun W e => by simp [World.cell?, e.blk zP.out]
        have yP_10 : ∀ W, Ext w2x W → W.cell? ⟨gp, 10, none⟩ = some (.bool C5) := fun W e => by simp [World.cell?, e.blk zP.out]
        have yP_11 : ∀ W, Ext w2x W → W.cell? ⟨gp, 11, none⟩ = some (.slice C6 C7 C8) := fun W e => by simp [World.cell?, e.blk zP.out]
        have yP_12 : ∀ W, Ext w2x W → W.cell? ⟨gp, 12, none⟩ = some (.bool D1) := fun W e => by simp [World.cell?, e.blk zP.out]
        have yP_13 : ∀ W, Ext w2x W → W.cell? ⟨gp, 13, none⟩ = some (.slice D2 D3 D4) := fun W e => by simp [World.cell?, e.blk zP.out]
        have yP_14 : ∀ W, Ext w2x W → W.cell? ⟨gp, 14, none⟩ = some (.bool D5) := fun W e => by simp [World.cell?, e.blk zP.out]
        have yP_15 : ∀ W, Ext w2x W → W.cell? ⟨gp, 15, none⟩ = some (.slice D6 D7 D8) := fun W e => by simp [World.cell?, e.blk zP.out]
        have yQ_0 : ∀ W, Ext w2x W → W.cell? ⟨gq, 0, none⟩ = some (.bool P1) := fun W e => by simp [World.cell?, e.blk zQ.out]
        have yQ_1 : ∀ W, Ext w2x W → W.cell? ⟨gq, 1, none⟩ = some (.slice P2 P3 P4) := fun W e => by simp [World.cell?, e.blk zQ.out]
        have yQ_2 : ∀ W, Ext w2x W → W.cell? ⟨gq, 2, none⟩ = some (.bool P5) := fun W e => by simp [World.cell?, e.blk zQ.out]
        have yQ_3 : ∀ W, Ext w2x W → W.cell? ⟨gq, 3, none⟩ = some (.slice P6 P7 P8) := fun W e => by simp [World.cell?, e.blk zQ.out]
        have yQ_8 : ∀ W, Ext w2x W → W.cell? ⟨gq, 8, none⟩ = some (.bool R1) := fun W e => by simp [World.cell?, e.blk zQ.out]
        have yQ_9 : ∀ W, Ext w2x W → W.cell? ⟨gq, 9, none⟩ = some (.slice R2 R3 R4) := fun W e => by simp [World.cell?, e.blk zQ.out]
        have yQ_10 : ∀ W, Ext w2x W → W.cell? ⟨gq, 10, none⟩ = some (.bool R5) := fun W e => by simp [World.cell?, e.blk zQ.out]
        have yQ_11 : ∀ W, Ext w2x W → W.cell? ⟨gq, 11, none⟩ = some (.slice R6 R7 R8) := fun W e => by simp [World.cell?, e.blk zQ.out]
        have hs2 : b0 ≤ w2x.heap.size := by rw [hb0.out]; exact hX.out.size
        apply Tail.region_ext [.val (v2), .val _, .val _, .val _, .val _, .val _, .val _, .val _, .val _, .val _, .val _, .val _, .val _, .val _, .val _, .pred (fun W v => FracO W b0 v (c * p + d * r)), .pred (Sl1 b0 (c * p + d * r))] (by kernel_rfl) (stable_vals _ (stable_vals _ (stable_vals _ (stable_vals _ (stable_vals _ (stable_vals _ (stable_vals _ (stable_vals _ (stable_vals _ (stable_vals _ (stable_vals _ (stable_vals _ (stable_vals _ (stable_vals _ (stable_vals _ (st_fracO _ _ (st_sl1 _ _ trivial)))))))))))))))))
        iterate 15 (refine ⟨fun W hW _ => by go_simp; first | exact ⟨Ext.refl _, rfl⟩ | exact Ext.refl _, ?_⟩)
        refine ⟨fun W hW _ => ?c15, fun x15 => ⟨fun W hW hF => ?c16, fun x16 => fun W2 hW hF => ?fin2⟩⟩
        case c15 =>
          go_simp
          refine (k2.out W (fC.out.ext hW) (fP.out.ext hW) (fD.out.ext hW) (fR.out.ext hW)).mono ?_
          rintro e w' ⟨v, rfl, e1, e2⟩
          exact ⟨v, rfl, e1, e2.mono (Nat.le_trans hs2 hW.size)⟩
        case c16 =>
          have dd : FracO W b0 x15 (c * p + d * r) := hF.1 (by kernel_rfl)
          obtain ⟨G1, G2, G3, G4, G5, G6, G7, G8, rfl⟩ := dd.r.shape
          have hs := (Ext.refl W).al (.cells #[.bool G1, .slice G2 G3 G4, .bool G5, .slice G6 G7 G8] 26)
          have hsl := mkHid (show Sl1 b0 (c * p + d * r) (W.alloc (.cells #[.bool G1, .slice G2 G3 G4, .bool G5, .slice G6 G7 G8] 26)) (.slice (some ⟨W.heap.size, 0, none⟩) 1 1) from ⟨_, _, _, _, _, _, _, _, _, rfl, heap_alloc_new _ _, dd.ext hs⟩)
          replace hs := mkHid hs
          clear hF dd
          go_simp
          exact ⟨hs.out, hsl.out⟩
        case fin2 =>
          have dd : Sl1 b0 (c * p + d * r) W2 x16 := hF.1 rfl
          obtain ⟨gs2, G1, G2, G3, G4, G5, G6, G7, G8, rfl, zS, fO2⟩ := dd
          clear hF
          clear yP_8 yP_9 yP_10 yP_11 yP_12 yP_13 yP_14 yP_15 yQ_0 yQ_1 yQ_2 yQ_3 yQ_8 yQ_9 yQ_10 yQ_11
          replace fA := mkHid (fA.out.ext hW)
          replace fB := mkHid (fB.out.ext hW)
          replace fC := mkHid (fC.out.ext hW)
          replace fD := mkHid (fD.out.ext hW)
          replace fP := mkHid (fP.out.ext hW)
          replace fQ := mkHid (fQ.out.ext hW)
          replace fR := mkHid (fR.out.ext hW)
          replace fS := mkHid (fS.out.ext hW)
          replace hE := mkHid (hE.out.trans hW)
          replace zP := mkHid (hW.blk zP.out)
          replace zQ := mkHid (hW.blk zQ.out)
          replace hX := mkHid (hX.out.trans hW)
          replace fO0 := mkHid (fO0.out.ext hW)
          replace fO1 := mkHid (fO1.out.ext hW)
          replace ho := mkHid (ownsRow_ext ho.out hW)
          clear hW
          obtain ⟨v3, w3x, happ, hown, hgr⟩ := append_one (P := Try.prog) W2 b0 61 61 26 i0 _ 4 64 underFrs hi.out hz0.out hz1.out hz2.out rfl (by omega) (v2) 2 [.bool E1, .slice E2 E3 E4, .bool E5, .slice E6 E7 E8, .bool F1, .slice F2 F3 F4, .bool F5, .slice F6 F7 F8] ho.out ⟨gs2, 0, none⟩ 1 1 [.bool G1, .slice G2 G3 G4, .bool G5, .slice G6 G7 G8] rfl
            (new_cells4 zS) (by intro u hu; simp at hu; rcases hu with rfl | rfl | rfl | rfl <;> rfl) (by unfold maxLen; omega) (by omega) (by have := hX.out.size; have := hb0.out; omega) (by omega)
          have hboth : Ext w1 w3x ∧ Ext w w3x ∧ (∀ v x, FracO W2 b0 v x → FracO w3x b0 v x) := by
            rcases hgr with ⟨g2, cap, e1, _, hg⟩ | ⟨_, hg⟩
            · have ho2 := ho.out
              rw [e1] at ho2
              obtain ⟨ht1, ht2⟩ := own_type ho2
              exact ⟨hX.out.trans_grown hg (fun k hk => by cases hk; have := hb0.out; omega), hE.out.trans_grown hg (fun k hk => by cases hk; omega), fun v x h => h.grown hg (fun k hk => by cases hk; exact ht2)⟩
            · exact ⟨hX.out.trans_grown hg (fun k hk => by cases hk), hE.out.trans_grown hg (fun k hk => by cases hk), fun v x h => h.grown hg (fun k hk => by cases hk)⟩
          have hown2 : w3x.ownsRow b0 26 4 v3 3 [.bool E1, .slice E2 E3 E4, .bool E5, .slice E6 E7 E8, .bool F1, .slice F2 F3 F4, .bool F5, .slice F6 F7 F8, .bool G1, .slice G2 G3 G4, .bool G5, .slice G6 G7 G8] := by simpa using hown
          replace happ := mkHid happ
          replace ho := mkHid hown2
          clear hgr hown hown2 zS
          replace fO0 := mkHid (hboth.2.2 _ _ fO0.out)
          replace fO1 := mkHid (hboth.2.2 _ _ fO1.out)
          replace fO2 := mkHid (hboth.2.2 _ _ fO2)
          replace hX := mkHid hboth.1
          replace hE := mkHid hboth.2.1
          clear hboth
          replace zP := mkHid (hX.out.blk rzP.out)
          replace zQ := mkHid (hX.out.blk rzQ.out)
          replace fA := mkHid (rfA.out.ext hX.out)
          replace fB := mkHid (rfB.out.ext hX.out)
          replace fC := mkHid (rfC.out.ext hX.out)
          replace fD := mkHid (rfD.out.ext hX.out)
          replace fP := mkHid (rfP.out.ext hX.out)
          replace fQ := mkHid (rfQ.out.ext hX.out)
          replace fR := mkHid (rfR.out.ext hX.out)
          replace fS := mkHid (rfS.out.ext hX.out)
          go_simp
          go_wp2_with (at_builtin; refine wpList_append_ran rfl (.tmp 21) (.tmp 37) 61 rfl rfl rfl happ.out ?_)
          clear happ
          rw [rounds_succ]
          go_wp2_with fail
          have yP_8 : ∀ W, Ext w3x W → W.cell? ⟨gp, 8, none⟩ = some (.bool C1) := fun W e => by simp [World.cell?, e.blk zP.out]
          have yP_9 : ∀ W, Ext w3x W → W.cell? ⟨gp, 9, none⟩ = some (.slice C2 C3 C4) := fun W e => by simp [World.cell?, e.blk zP.out]
          have yP_10 : ∀ W, Ext w3x W → W.cell? ⟨gp, 10, none⟩ = some (.bool C5) := fun W e => by simp [World.cell?, e.blk zP.out]
          have yP_11 : ∀ W, Ext w3x W → W.cell? ⟨gp, 11, none⟩ = some (.slice C6 C7 C8) := fun W e => by simp [World.cell?, e.blk zP.out]
          have yP_12 : ∀ W, Ext w3x W → W.cell? ⟨gp, 12, none⟩ = some (.bool D1) := fun W e => by simp [World.cell?, e.blk zP.out]
          have yP_13 : ∀ W, Ext w3x W → W.cell? ⟨gp, 13, none⟩ = some (.slice D2 D3 D4) := fun W e => by simp [World.cell?, e.blk zP.out]
          have yP_14 : ∀ W, Ext w3x W → W.cell? ⟨gp, 14, none⟩ = some (.bool D5) := fun W e => by simp [World.cell?, e.blk zP.out]
          have yP_15 : ∀ W, Ext w3x W → W.cell? ⟨gp, 15, none⟩ = some (.slice D6 D7 D8) := fun W e => by simp [World.cell?, e.blk zP.out]
          have yQ_4 : ∀ W, Ext w3x W → W.cell? ⟨gq, 4, none⟩ = some (.bool Q1) := fun W e => by simp [World.cell?, e.blk zQ.out]
          have yQ_5 : ∀ W, Ext w3x W → W.cell? ⟨gq, 5, none⟩ = some (.slice Q2 Q3 Q4) := fun W e => by simp [World.cell?, e.blk zQ.out]
          have yQ_6 : ∀ W, Ext w3x W → W.cell? ⟨gq, 6, none⟩ = some (.bool Q5) := fun W e => by simp [World.cell?, e.blk zQ.out]
          have yQ_7 : ∀ W, Ext w3x W → W.cell? ⟨gq, 7, none⟩ = some (.slice Q6 Q7 Q8) := fun W e => by simp [World.cell?, e.blk zQ.out]
          have yQ_12 : ∀ W, Ext w3x W → W.cell? ⟨gq, 12, none⟩ = some (.bool S1) := fun W e => by simp [World.cell?, e.blk zQ.out]
          have yQ_13 : ∀ W, Ext w3x W → W.cell? ⟨gq, 13, none⟩ = some (.slice S2 S3 S4) := fun W e => by simp [World.cell?, e.blk zQ.out]
          have yQ_14 : ∀ W, Ext w3x W → W.cell? ⟨gq, 14, none⟩ = some (.bool S5) := fun W e => by simp [World.cell?, e.blk zQ.out]
          have yQ_15 : ∀ W, Ext w3x W → W.cell? ⟨gq, 15, none⟩ = some (.slice S6 S7 S8) := fun W e => by simp [World.cell?, e.blk zQ.out]
          have hs3 : b0 ≤ w3x.heap.size := by rw [hb0.out]; exact hX.out.size
          apply Tail.region_ext [.val (v3), .val _, .val _, .val _, .val _, .val _, .val _, .val _, .val _, .val _, .val _, .val _, .val _, .val _, .val _, .pred (fun W v => FracO W b0 v (c * q + d * s)), .pred (Sl1 b0 (c * q + d * s))] (by kernel_rfl) (stable_vals _ (stable_vals _ (stable_vals _ (stable_vals _ (stable_vals _ (stable_vals _ (stable_vals _ (stable_vals _ (stable_vals _ (stable_vals _ (stable_vals _ (stable_vals _ (stable_vals _ (stable_vals _ (stable_vals _ (st_fracO _ _ (st_sl1 _ _ trivial)))))))))))))))))
          iterate 15 (refine ⟨fun W hW _ => by go_simp; first | exact ⟨Ext.refl _, rfl⟩ | exact Ext.refl _, ?_⟩)
          refine ⟨fun W hW _ => ?c15, fun x15 => ⟨fun W hW hF => ?c16, fun x16 => fun W3 hW hF => ?fin3⟩⟩
          case c15 =>
            go_simp
            refine (k3.out W (fC.out.ext hW) (fQ.out.ext hW) (fD.out.ext hW) (fS.out.ext hW)).mono ?_
            rintro e w' ⟨v, rfl, e1, e2⟩
            exact ⟨v, rfl, e1, e2.mono (Nat.le_trans hs3 hW.size)⟩
          case c16 =>
            have dd : FracO W b0 x15 (c * q + d * s) := hF.1 (by kernel_rfl)
            obtain ⟨H1, H2, H3, H4, H5, H6, H7, H8, rfl⟩ := dd.r.shape
            have hs := (Ext.refl W).al (.cells #[.bool H1, .slice H2 H3 H4, .bool H5, .slice H6 H7 H8] 26)
            have hsl := mkHid (show Sl1 b0 (c * q + d * s) (W.alloc (.cells #[.bool H1, .slice H2 H3 H4, .bool H5, .slice H6 H7 H8] 26)) (.slice (some ⟨W.heap.size, 0, none⟩) 1 1) from ⟨_, _, _, _, _, _, _, _, _, rfl, heap_alloc_new _ _, dd.ext hs⟩)
            replace hs := mkHid hs
            clear hF dd
            go_simp
            exact ⟨hs.out, hsl.out⟩
          case fin3 =>
            have dd : Sl1 b0 (c * q + d * s) W3 x16 := hF.1 rfl
            obtain ⟨gs3, H1, H2, H3, H4, H5, H6, H7, H8, rfl, zS, fO3⟩ := dd
            clear hF
            clear yP_8 yP_9 yP_10 yP_11 yP_12 yP_13 yP_14 yP_15 yQ_4 yQ_5 yQ_6 yQ_7 yQ_12 yQ_13 yQ_14 yQ_15
            replace fA := mkHid (fA.out.ext hW)
            replace fB := mkHid (fB.out.ext hW)
            replace fC := mkHid (fC.out.ext hW)
            replace fD := mkHid (fD.out.ext hW)
            replace fP := mkHid (fP.out.ext hW)
            replace fQ := mkHid (fQ.out.ext hW)
            replace fR := mkHid (fR.out.ext hW)
            replace fS := mkHid (fS.out.ext hW)
            replace hE := mkHid (hE.out.trans hW)
            replace zP := mkHid (hW.blk zP.out)
            replace zQ := mkHid (hW.blk zQ.out)
            replace hX := mkHid (hX.out.trans hW)
            replace fO0 := mkHid (fO0.out.ext hW)
            replace fO1 := mkHid (fO1.out.ext hW)
            replace fO2 := mkHid (fO2.out.ext hW)
            replace ho := mkHid (ownsRow_ext ho.out hW)
            clear hW
            obtain ⟨v4, w4x, happ, hown, hgr⟩ := append_one (P := Try.prog) W3 b0 61 61 26 i0 _ 4 64 underFrs hi.out hz0.out hz1.out hz2.out rfl (by omega) (v3) 3 [.bool E1, .slice E2 E3 E4, .bool E5, .slice E6 E7 E8, .bool F1, .slice F2 F3 F4, .bool F5, .slice F6 F7 F8, .bool G1, .slice G2 G3 G4, .bool G5, .slice G6 G7 G8] ho.out ⟨gs3, 0, none⟩ 1 1 [.bool H1, .slice H2 H3 H4, .bool H5, .slice H6 H7 H8] rfl
              (new_cells4 zS) (by intro u hu; simp at hu; rcases hu with rfl | rfl | rfl | rfl <;> rfl) (by unfold maxLen; omega) (by omega) (by have := hX.out.size; have := hb0.out; omega) (by omega)
            have hboth : Ext w1 w4x ∧ Ext w w4x ∧ (∀ v x, FracO W3 b0 v x → FracO w4x b0 v x) := by
              rcases hgr with ⟨g2, cap, e1, _, hg⟩ | ⟨_, hg⟩
              · have ho2 := ho.out
                rw [e1] at ho2
                obtain ⟨ht1, ht2⟩ := own_type ho2
                exact ⟨hX.out.trans_grown hg (fun k hk => by cases hk; have := hb0.out; omega), hE.out.trans_grown hg (fun k hk => by cases hk; omega), fun v x h => h.grown hg (fun k hk => by cases hk; exact ht2)⟩
              · exact ⟨hX.out.trans_grown hg (fun k hk => by cases hk), hE.out.trans_grown hg (fun k hk => by cases hk), fun v x h => h.grown hg (fun k hk => by cases hk)⟩
            have hown2 : w4x.ownsRow b0 26 4 v4 4 [.bool E1, .slice E2 E3 E4, .bool E5, .slice E6 E7 E8, .bool F1, .slice F2 F3 F4, .bool F5, .slice F6 F7 F8, .bool G1, .slice G2 G3 G4, .bool G5, .slice G6 G7 G8, .bool H1, .slice H2 H3 H4, .bool H5, .slice H6 H7 H8] := by simpa using hown
            replace happ := mkHid happ
            replace ho := mkHid hown2
            clear hgr hown hown2 zS
            replace fO0 := mkHid (hboth.2.2 _ _ fO0.out)
            replace fO1 := mkHid (hboth.2.2 _ _ fO1.out)
            replace fO2 := mkHid (hboth.2.2 _ _ fO2.out)
            replace fO3 := mkHid (hboth.2.2 _ _ fO3)
            replace hX := mkHid hboth.1
            replace hE := mkHid hboth.2.1
            clear hboth
            replace zP := mkHid (hX.out.blk rzP.out)
            replace zQ := mkHid (hX.out.blk rzQ.out)
            replace fA := mkHid (rfA.out.ext hX.out)
            replace fB := mkHid (rfB.out.ext hX.out)
            replace fC := mkHid (rfC.out.ext hX.out)
            replace fD := mkHid (rfD.out.ext hX.out)
            replace fP := mkHid (rfP.out.ext hX.out)
            replace fQ := mkHid (rfQ.out.ext hX.out)
            replace fR := mkHid (rfR.out.ext hX.out)
            replace fS := mkHid (rfS.out.ext hX.out)
            go_simp
            go_wp2_with (at_builtin; refine wpList_append_ran rfl (.tmp 21) (.tmp 37) 61 rfl rfl rfl happ.out ?_)
            clear happ
            rw [rounds_succ]
            go_wp2_with fail
            go_ret
            exact ⟨_, rfl, hE.out, b0, hb1, _, _, _, _, _, _, _, _, _, _, _, _, _, _, _, _, _, _, _, _, _, _, _, _, _, _, _, _, _, _, _, _, ho.out, fO0.out, fO1.out, fO2.out, fO3.out⟩
end Go.Proofs.Ytpmfohhpaoagfaa
namespace Go.Proofs.Ytpmfohhpaoagfaa
open Go Go.RowKit Go.Proofs
theorem Four.ext {b : Nat} {w w' : World} {v : Value} {x y z t : Rat} (h : Four b w v x y z t) (e : Ext w w') : Four b w' v x y z t := by
  obtain ⟨E1, E2, E3, E4, E5, E6, E7, E8, F1, F2, F3, F4, F5, F6, F7, F8, G1, G2, G3, G4, G5, G6, G7, G8, H1, H2, H3, H4, H5, H6, H7, H8, h0, h1, h2, h3, h4⟩ := h
  exact ⟨E1, E2, E3, E4, E5, E6, E7, E8, F1, F2, F3, F4, F5, F6, F7, F8, G1, G2, G3, G4, G5, G6, G7, G8, H1, H2, H3, H4, H5, H6, H7, H8, ownsRow_ext h0 e, h1.ext e, h2.ext e, h3.ext e, h4.ext e⟩
theorem Four.row {b g : Nat} {w : World} {v : Value} {x y z t : Rat} (h : Four b w v x y z t) (hg : g < b) (cs : Array Value) : Four b (w.setRow g cs) v x y z t := by
  obtain ⟨E1, E2, E3, E4, E5, E6, E7, E8, F1, F2, F3, F4, F5, F6, F7, F8, G1, G2, G3, G4, G5, G6, G7, G8, H1, H2, H3, H4, H5, H6, H7, H8, h0, h1, h2, h3, h4⟩ := h
  exact ⟨E1, E2, E3, E4, E5, E6, E7, E8, F1, F2, F3, F4, F5, F6, F7, F8, G1, G2, G3, G4, G5, G6, G7, G8, H1, H2, H3, H4, H5, H6, H7, H8, ownsRow_row h0 hg cs, h1.row hg cs, h2.row hg cs, h3.row hg cs, h4.row hg cs⟩
@[go_sem] theorem arr4 (w : World) (a : Option Addr) (c : Nat) : Sem.run Try.prog (Instr.arrayAt 87 (.slice a 4 c)) w = .ok (.pointer a) w :=
  run_arrayAt (P := Try.prog) w 87 26 4 a 4 c (by kernel_rfl) (Nat.le_refl _)
theorem add_at (g j : Nat) : (⟨g, 0, none⟩ : Addr).add j = ⟨g, j, none⟩ := by
  unfold Addr.add
  split
  · rename_i h0; subst h0; rfl
  · simp
/-- The cells of four fractions in memory. -/
theorem Four.opened {b : Nat} {w : World} {v : Value} {x y z t : Rat} (h : Four b w v x y z t) : ∃ g cap, v = .slice (some ⟨g, 0, none⟩) 4 cap ∧ b ≤ g ∧ ∃ E1 E2 E3 E4 E5 E6 E7 E8 F1 F2 F3 F4 F5 F6 F7 F8 G1 G2 G3 G4 G5 G6 G7 G8 H1 H2 H3 H4 H5 H6 H7 H8,
    (∀ j u, [.bool E1, .slice E2 E3 E4, .bool E5, .slice E6 E7 E8, .bool F1, .slice F2 F3 F4, .bool F5, .slice F6 F7 F8, .bool G1, .slice G2 G3 G4, .bool G5, .slice G6 G7 G8, .bool H1, .slice H2 H3 H4, .bool H5, .slice H6 H7 H8][j]? = some u → w.cell? ⟨g, j, none⟩ = some u) ∧ FracR w (.agg #[.bool E1, .slice E2 E3 E4, .bool E5, .slice E6 E7 E8]) x ∧ FracR w (.agg #[.bool F1, .slice F2 F3 F4, .bool F5, .slice F6 F7 F8]) y ∧ FracR w (.agg #[.bool G1, .slice G2 G3 G4, .bool G5, .slice G6 G7 G8]) z ∧ FracR w (.agg #[.bool H1, .slice H2 H3 H4, .bool H5, .slice H6 H7 H8]) t := by
  obtain ⟨E1, E2, E3, E4, E5, E6, E7, E8, F1, F2, F3, F4, F5, F6, F7, F8, G1, G2, G3, G4, G5, G6, G7, G8, H1, H2, H3, H4, H5, H6, H7, H8, h0, h1, h2, h3, h4⟩ := h
  have h0' := h0
  rcases h0.2 with ⟨_, h5⟩ | ⟨g, cap, cur, a1, a2, a3, a4⟩
  · cases h5
  · subst a1
    refine ⟨g, cap, rfl, a2, E1, E2, E3, E4, E5, E6, E7, E8, F1, F2, F3, F4, F5, F6, F7, F8, G1, G2, G3, G4, G5, G6, G7, G8, H1, H2, H3, H4, H5, H6, H7, H8, fun j u hu => ?_, h1.r, h2.r, h3.r, h4.r⟩
    have := h0'.cells (g := g) rfl j u hu
    rwa [add_at] at this
theorem lr_of {w : World} {g : Nat} {E1 : Bool} {E2 : Option Addr} {E3 E4 : Nat} {E5 : Bool} {E6 : Option Addr} {E7 E8 : Nat} {F1 : Bool} {F2 : Option Addr} {F3 F4 : Nat} {F5 : Bool} {F6 : Option Addr} {F7 F8 : Nat} {G1 : Bool} {G2 : Option Addr} {G3 G4 : Nat} {G5 : Bool} {G6 : Option Addr} {G7 G8 : Nat} {H1 : Bool} {H2 : Option Addr} {H3 H4 : Nat} {H5 : Bool} {H6 : Option Addr} {H7 H8 : Nat} {x y z t : Rat}
    (hc : ∀ j u, [.bool E1, .slice E2 E3 E4, .bool E5, .slice E6 E7 E8, .bool F1, .slice F2 F3 F4, .bool F5, .slice F6 F7 F8, .bool G1, .slice G2 G3 G4, .bool G5, .slice G6 G7 G8, .bool H1, .slice H2 H3 H4, .bool H5, .slice H6 H7 H8][j]? = some u → w.cell? ⟨g, j, none⟩ = some u) (h1 : FracR w (.agg #[.bool E1, .slice E2 E3 E4, .bool E5, .slice E6 E7 E8]) x) (h2 : FracR w (.agg #[.bool F1, .slice F2 F3 F4, .bool F5, .slice F6 F7 F8]) y) (h3 : FracR w (.agg #[.bool G1, .slice G2 G3 G4, .bool G5, .slice G6 G7 G8]) z) (h4 : FracR w (.agg #[.bool H1, .slice H2 H3 H4, .bool H5, .slice H6 H7 H8]) t) : LR w g [x, y, z, t] := by
  intro k hk
  have hk2 : k = 0 ∨ k = 1 ∨ k = 2 ∨ k = 3 := by simp at hk; omega
  rcases hk2 with rfl | rfl | rfl | rfl
  · exact ⟨_, _, _, _, _, _, _, _, hc 0 _ rfl, hc 1 _ rfl, hc 2 _ rfl, hc 3 _ rfl, h1⟩
  · exact ⟨_, _, _, _, _, _, _, _, hc 4 _ rfl, hc 5 _ rfl, hc 6 _ rfl, hc 7 _ rfl, h2⟩
  · exact ⟨_, _, _, _, _, _, _, _, hc 8 _ rfl, hc 9 _ rfl, hc 10 _ rfl, hc 11 _ rfl, h3⟩
  · exact ⟨_, _, _, _, _, _, _, _, hc 12 _ rfl, hc 13 _ rfl, hc 14 _ rfl, hc 15 _ rfl, h4⟩
set_option maxRecDepth 100000 in
set_option maxHeartbeats 6400000 in
theorem ans_mul (g gm gn : Nat) (x y z t : Rat) (w : World) (hk : KAt w g 0) (hfine : fine4 x y z t = true)
    (hf : Calls Try.prog 54 #[.pointer (some ⟨gm, 0, none⟩), .pointer (some ⟨gn, 0, none⟩)] w fun e w' => ∃ v, e = .returned v ∧ Ext w w' ∧ ∃ b0, w.heap.size ≤ b0 ∧ Four b0 w' v x y z t) :
    Calls Try.prog 59 #[.pointer (some ⟨g, 0, none⟩), .func (.func 54) #[] #[.pointer (some ⟨gm, 0, none⟩), .pointer (some ⟨gn, 0, none⟩)]] w fun e w' => ∃ v, e = .returned v ∧ KC g w w' ∧ KAt w' g 0 ∧ ∃ b0, w.heap.size ≤ b0 ∧ Four b0 w' v x y z t := by
  have y0 : w.cell? ⟨g, 0, none⟩ = some (.int .i64 0) := by simp [World.cell?, show w.heap[g]? = some (.cells #[.int .i64 0] 83 (0, 0)) from hk]
  replace hk := mkHid (show w.heap[g]? = some (.cells #[.int .i64 0] 83 (0, 0)) from hk)
  replace hf := mkHid hf
  have hfi := hfine
  unfold fine4 at hfi
  simp only [Bool.and_eq_true, decide_eq_true_eq] at hfi
  obtain ⟨⟨⟨b1, b2⟩, b3⟩, b4⟩ := hfi
  have ka := mkHid (fun W g cap h => answer_f g cap [x, y, z, t] W (by simp) (fun q hq => by simp at hq; rcases hq with rfl | rfl | rfl | rfl <;> omega) h)
  have hany : ([x, y, z, t].any fun x => decide (2048 < nf x)) = false := by simp [Nat.not_lt, b1, b2, b3, b4]
  rw [show [x, y, z, t].length = 4 from rfl, hany] at ka
  clear hany b1 b2 b3 b4 hfine
  go_enter Try.func59, Try.ntmps59
  go_wp2_with fail
  refine hf.out.mono ?_
  rintro e w1 ⟨v, rfl, hE1, b0, hb0, hF⟩
  clear hf y0
  have lgs : g < w.heap.size := (Array.getElem?_eq_some_iff.1 hk.out).1
  obtain ⟨gs, cap, rfl, _, E1, E2, E3, E4, E5, E6, E7, E8, F1, F2, F3, F4, F5, F6, F7, F8, G1, G2, G3, G4, G5, G6, G7, G8, H1, H2, H3, H4, H5, H6, H7, H8, hc, f1, f2, f3, f4⟩ := hF.opened
  have hl := mkHid (lr_of hc f1 f2 f3 f4)
  replace hk := mkHid (hE1.blk hk.out)
  replace hF := mkHid hF
  replace hE1 := mkHid hE1
  clear hc f1 f2 f3 f4
  go_wp2_with fail
  refine (ka.out w1 gs cap hl.out).mono ?_
  rintro e w2 ⟨rfl, hx⟩
  have hk2 := hx.blk hk.out
  have f0 := row2_frozen hk2 0
  have y1 : w2.cell? ⟨g, 0, none⟩ = some (.int .i64 0) := by simp [World.cell?, hk2]
  have hX := hE1.out.trans hx
  have hF2 := hF.out.ext hx
  clear hE1 hl hk ka hF
  have hfin := mkHid (show KC g w (w2.setRow g #[.int .i64 0]) ∧ KAt (w2.setRow g #[.int .i64 0]) g 0 ∧ ∃ b0, w.heap.size ≤ b0 ∧ Four b0 (w2.setRow g #[.int .i64 0]) (.slice (some ⟨gs, 0, none⟩) 4 cap) x y z t from
    ⟨(KC.of_ext hX).trans (KC.of_row hk2 _), setRow_heap _ _ _ _ _ _ hk2, b0, hb0, hF2.row (by omega) _⟩)
  replace hk2 := mkHid hk2
  clear hX hF2 hx
  go_wp2_with fail
  go_ret
  rw [set1_row hk2.out]
  exact ⟨_, rfl, hfin.out⟩
set_option maxRecDepth 100000 in
set_option maxHeartbeats 6400000 in
theorem asm_c (g gm gn : Nat) (x y z t : Rat) (w : World) (hk : KAt w g 0) (hfine : fine4 x y z t = true)
    (hf : ∀ W, Ext w W → Calls Try.prog 54 #[.pointer (some ⟨gm, 0, none⟩), .pointer (some ⟨gn, 0, none⟩)] W fun e w' => ∃ v, e = .returned v ∧ Ext W w' ∧ ∃ b0, W.heap.size ≤ b0 ∧ Four b0 w' v x y z t) :
    Calls Try.prog 53 #[.pointer (some ⟨g, 0, none⟩), .func (.func 54) #[] #[.pointer (some ⟨gm, 0, none⟩), .pointer (some ⟨gn, 0, none⟩)]] w fun e w' => ∃ m, e = .returned (.tuple #[m, .int .i64 0]) ∧ KC g w w' ∧ AnyM w' m (some x) (some y) (some z) (some t) := by
  have hEz := (Ext.refl w).al (.cells #[.bool false, .slice none 0 0, .bool false, .slice none 0 0, .bool false, .slice none 0 0, .bool false, .slice none 0 0, .bool false, .slice none 0 0, .bool false, .slice none 0 0, .bool false, .slice none 0 0, .bool false, .slice none 0 0] 40)
  have zZ := heap_alloc_new w (.cells #[.bool false, .slice none 0 0, .bool false, .slice none 0 0, .bool false, .slice none 0 0, .bool false, .slice none 0 0, .bool false, .slice none 0 0, .bool false, .slice none 0 0, .bool false, .slice none 0 0, .bool false, .slice none 0 0] 40)
  have lt : g < w.heap.size := (Array.getElem?_eq_some_iff.1 hk).1
  have ka := mkHid (ans_mul g gm gn x y z t _ (hEz.blk hk) hfine (hf _ hEz))
  have hfi := hfine
  unfold fine4 at hfi
  simp only [Bool.and_eq_true, decide_eq_true_eq] at hfi
  obtain ⟨⟨⟨b1, b2⟩, b3⟩, b4⟩ := hfi
  replace b1 := mkHid b1
  replace b2 := mkHid b2
  replace b3 := mkHid b3
  replace b4 := mkHid b4
  replace zZ := mkHid zZ
  replace hEz := mkHid hEz
  clear hf hk hfine
  go_enter Try.func53, Try.ntmps53
  go_wp2_with fail
  refine ka.out.mono ?_
  rintro e w1 ⟨v, rfl, hC, _, b0, hb0, hF⟩
  clear ka
  obtain ⟨gs, cap, rfl, hgs, E1, E2, E3, E4, E5, E6, E7, E8, F1, F2, F3, F4, F5, F6, F7, F8, G1, G2, G3, G4, G5, G6, G7, G8, H1, H2, H3, H4, H5, H6, H7, H8, hc, f1, f2, f3, f4⟩ := hF.opened
  have zZ1 := hC.blk _ _ (by omega) zZ.out
  have hC1 := (KC.of_ext (g := g) hEz.out).trans hC
  have y0 : w1.cell? ⟨gs, 0, none⟩ = some (.bool E1) := hc 0 _ rfl
  have y1 : w1.cell? ⟨gs, 1, none⟩ = some (.slice E2 E3 E4) := hc 1 _ rfl
  have y2 : w1.cell? ⟨gs, 2, none⟩ = some (.bool E5) := hc 2 _ rfl
  have y3 : w1.cell? ⟨gs, 3, none⟩ = some (.slice E6 E7 E8) := hc 3 _ rfl
  have y4 : w1.cell? ⟨gs, 4, none⟩ = some (.bool F1) := hc 4 _ rfl
  have y5 : w1.cell? ⟨gs, 5, none⟩ = some (.slice F2 F3 F4) := hc 5 _ rfl
  have y6 : w1.cell? ⟨gs, 6, none⟩ = some (.bool F5) := hc 6 _ rfl
  have y7 : w1.cell? ⟨gs, 7, none⟩ = some (.slice F6 F7 F8) := hc 7 _ rfl
  have y8 : w1.cell? ⟨gs, 8, none⟩ = some (.bool G1) := hc 8 _ rfl
  have y9 : w1.cell? ⟨gs, 9, none⟩ = some (.slice G2 G3 G4) := hc 9 _ rfl
  have y10 : w1.cell? ⟨gs, 10, none⟩ = some (.bool G5) := hc 10 _ rfl
  have y11 : w1.cell? ⟨gs, 11, none⟩ = some (.slice G6 G7 G8) := hc 11 _ rfl
  have y12 : w1.cell? ⟨gs, 12, none⟩ = some (.bool H1) := hc 12 _ rfl
  have y13 : w1.cell? ⟨gs, 13, none⟩ = some (.slice H2 H3 H4) := hc 13 _ rfl
  have y14 : w1.cell? ⟨gs, 14, none⟩ = some (.bool H5) := hc 14 _ rfl
  have y15 : w1.cell? ⟨gs, 15, none⟩ = some (.slice H6 H7 H8) := hc 15 _ rfl
  replace hC1 := mkHid hC1
  replace zZ1 := mkHid zZ1
  replace f1 := mkHid f1
  replace f2 := mkHid f2
  replace f3 := mkHid f3
  replace f4 := mkHid f4
  clear hc hF hC zZ
  go_wp2_with fail
  refine (fourM_c E1 E2 E3 E4 E5 E6 E7 E8 F1 F2 F3 F4 F5 F6 F7 F8 G1 G2 G3 G4 G5 G6 G7 G8 H1 H2 H3 H4 H5 H6 H7 H8 w1).mono ?_
  rintro e w2 ⟨rfl, hx⟩
  clear y0 y1 y2 y3 y4 y5 y6 y7 y8 y9 y10 y11 y12 y13 y14 y15
  have zZ2 := hx.blk zZ1.out
  have hC2 := hC1.out.trans (KC.of_ext hx)
  have g1 := ((f1.out.ext hx).flat zZ2 (by simp [flatV]) #[.bool E1, .slice E2 E3 E4, .bool E5, .slice E6 E7 E8, .bool F1, .slice F2 F3 F4, .bool F5, .slice F6 F7 F8, .bool G1, .slice G2 G3 G4, .bool G5, .slice G6 G7 G8, .bool H1, .slice H2 H3 H4, .bool H5, .slice H6 H7 H8]).any (Nat.le_trans b1.out (by decide))
  have g2 := ((f2.out.ext hx).flat zZ2 (by simp [flatV]) #[.bool E1, .slice E2 E3 E4, .bool E5, .slice E6 E7 E8, .bool F1, .slice F2 F3 F4, .bool F5, .slice F6 F7 F8, .bool G1, .slice G2 G3 G4, .bool G5, .slice G6 G7 G8, .bool H1, .slice H2 H3 H4, .bool H5, .slice H6 H7 H8]).any (Nat.le_trans b2.out (by decide))
  have g3 := ((f3.out.ext hx).flat zZ2 (by simp [flatV]) #[.bool E1, .slice E2 E3 E4, .bool E5, .slice E6 E7 E8, .bool F1, .slice F2 F3 F4, .bool F5, .slice F6 F7 F8, .bool G1, .slice G2 G3 G4, .bool G5, .slice G6 G7 G8, .bool H1, .slice H2 H3 H4, .bool H5, .slice H6 H7 H8]).any (Nat.le_trans b3.out (by decide))
  have g4 := ((f4.out.ext hx).flat zZ2 (by simp [flatV]) #[.bool E1, .slice E2 E3 E4, .bool E5, .slice E6 E7 E8, .bool F1, .slice F2 F3 F4, .bool F5, .slice F6 F7 F8, .bool G1, .slice G2 G3 G4, .bool G5, .slice G6 G7 G8, .bool H1, .slice H2 H3 H4, .bool H5, .slice H6 H7 H8]).any (Nat.le_trans b4.out (by decide))
  rw [if_pos b1.out] at g1
  rw [if_pos b2.out] at g2
  rw [if_pos b3.out] at g3
  rw [if_pos b4.out] at g4
  have hC3 : KC g w (w2.setRow w.heap.size #[.bool E1, .slice E2 E3 E4, .bool E5, .slice E6 E7 E8, .bool F1, .slice F2 F3 F4, .bool F5, .slice F6 F7 F8, .bool G1, .slice G2 G3 G4, .bool G5, .slice G6 G7 G8, .bool H1, .slice H2 H3 H4, .bool H5, .slice H6 H7 H8]) := ⟨fun we h1 h2 => (hC2.ext we h1 h2).row h1.size _, fun b o h1 h3 => by
    have := (Array.getElem?_eq_some_iff.1 h3).1
    rw [setRow_other _ _ _ _ (by omega)]
    exact hC2.blk b o h1 h3, fun v q h1 => (hC2.any v q h1).flat zZ2 (by simp [flatV]) _⟩
  have FR : AnyM (w2.setRow w.heap.size #[.bool E1, .slice E2 E3 E4, .bool E5, .slice E6 E7 E8, .bool F1, .slice F2 F3 F4, .bool F5, .slice F6 F7 F8, .bool G1, .slice G2 G3 G4, .bool G5, .slice G6 G7 G8, .bool H1, .slice H2 H3 H4, .bool H5, .slice H6 H7 H8]) (.agg #[.bool E1, .slice E2 E3 E4, .bool E5, .slice E6 E7 E8, .bool F1, .slice F2 F3 F4, .bool F5, .slice F6 F7 F8, .bool G1, .slice G2 G3 G4, .bool G5, .slice G6 G7 G8, .bool H1, .slice H2 H3 H4, .bool H5, .slice H6 H7 H8]) (some x) (some y) (some z) (some t) := ⟨_, _, _, _, _, _, _, _, _, _, _, _, _, _, _, _, _, _, _, _, _, _, _, _, _, _, _, _, _, _, _, _, rfl, g1, g2, g3, g4⟩
  replace hC3 := mkHid hC3
  replace FR := mkHid FR
  replace zZ2 := mkHid zZ2
  clear g1 g2 g3 g4 hC2 hx hC1 zZ1 f1 f2 f3 f4
  go_wp2_with (refine wpList_store_row rfl 40 (.tmp 4) (.tmp 21) rfl w.heap.size #[.bool E1, .slice E2 E3 E4, .bool E5, .slice E6 E7 E8, .bool F1, .slice F2 F3 F4, .bool F5, .slice F6 F7 F8, .bool G1, .slice G2 G3 G4, .bool G5, .slice G6 G7 G8, .bool H1, .slice H2 H3 H4, .bool H5, .slice H6 H7 H8] rfl rfl 40 _ zZ2.out (by kernel_rfl) rfl (by kernel_rfl) ?_)
  exact bodyPost_ret (results_row_tmp rfl _ _ w.heap.size 40 #[.bool E1, .slice E2 E3 E4, .bool E5, .slice E6 E7 E8, .bool F1, .slice F2 F3 F4, .bool F5, .slice F6 F7 F8, .bool G1, .slice G2 G3 G4, .bool G5, .slice G6 G7 G8, .bool H1, .slice H2 H3 H4, .bool H5, .slice H6 H7 H8] _ _ rfl rfl (setRow_heap _ _ _ _ _ _ zZ2.out) Try.underlying40 rfl (by kernel_rfl)) rfl ⟨_, rfl, hC3.out, FR.out⟩
set_option maxRecDepth 100000 in
set_option maxHeartbeats 12800000 in
theorem mul_fine (v v' : Value) (a b c d p q r s : Rat) (w : World) (h : AnyM w v (some a) (some b) (some c) (some d)) (h' : AnyM w v' (some p) (some q) (some r) (some s)) (hk : okM (some a) (some b) (some c) (some d) = true) (hk' : okM (some p) (some q) (some r) (some s) = true)
    (hfine : fine4 (a * p + b * r) (a * q + b * s) (c * p + d * r) (c * q + d * s) = true) :
    Calls Try.prog 23 #[v, v'] w fun e w' => ∃ t, e = .returned (.tuple #[t, .int .i64 0]) ∧ Ext w w' ∧ AnyM w' t (some (a * p + b * r)) (some (a * q + b * s)) (some (c * p + d * r)) (some (c * q + d * s)) := by
  have n1 := h.fracs.2
  have n2 := h'.fracs.2
  obtain ⟨na, nb, nc, nd⟩ := n1
  obtain ⟨np, nq, nr, ns⟩ := n2
  have hM := mkHid h
  have hN := mkHid h'
  obtain ⟨A1, A2, A3, A4, A5, A6, A7, A8, B1, B2, B3, B4, B5, B6, B7, B8, C1, C2, C3, C4, C5, C6, C7, C8, D1, D2, D3, D4, D5, D6, D7, D8, rfl, -⟩ := h
  obtain ⟨P1, P2, P3, P4, P5, P6, P7, P8, Q1, Q2, Q3, Q4, Q5, Q6, Q7, Q8, R1, R2, R3, R4, R5, R6, R7, R8, S1, S2, S3, S4, S5, S6, S7, S8, rfl, -⟩ := h'
  have hE := mkHid (Ext.refl w)
  replace na := mkHid na
  replace nb := mkHid nb
  replace nc := mkHid nc
  replace nd := mkHid nd
  replace np := mkHid np
  replace nq := mkHid nq
  replace nr := mkHid nr
  replace ns := mkHid ns
  replace hfine := mkHid hfine
  go_enter Try.func23, Try.ntmps23
  obtain ⟨w1, hw1⟩ : ∃ w1, w1 = (((w.alloc (.cells #[.bool A1, .slice A2 A3 A4, .bool A5, .slice A6 A7 A8, .bool B1, .slice B2 B3 B4, .bool B5, .slice B6 B7 B8, .bool C1, .slice C2 C3 C4, .bool C5, .slice C6 C7 C8, .bool D1, .slice D2 D3 D4, .bool D5, .slice D6 D7 D8] 40)).alloc (.cells #[.bool P1, .slice P2 P3 P4, .bool P5, .slice P6 P7 P8, .bool Q1, .slice Q2 Q3 Q4, .bool Q5, .slice Q6 Q7 Q8, .bool R1, .slice R2 R3 R4, .bool R5, .slice R6 R7 R8, .bool S1, .slice S2 S3 S4, .bool S5, .slice S6 S7 S8] 40)).alloc (.cells #[.bool false, .slice none 0 0, .bool false, .slice none 0 0, .bool false, .slice none 0 0, .bool false, .slice none 0 0, .bool false, .slice none 0 0, .bool false, .slice none 0 0, .bool false, .slice none 0 0, .bool false, .slice none 0 0] 40)).alloc (.cells #[.int .i64 0] 83) := ⟨_, rfl⟩
  have hx : Ext w w1 := by rw [hw1]; exact (((((Ext.refl w).al _).al _).al _).al _)
  have zM : w1.heap[w.heap.size]? = some (.cells #[.bool A1, .slice A2 A3 A4, .bool A5, .slice A6 A7 A8, .bool B1, .slice B2 B3 B4, .bool B5, .slice B6 B7 B8, .bool C1, .slice C2 C3 C4, .bool C5, .slice C6 C7 C8, .bool D1, .slice D2 D3 D4, .bool D5, .slice D6 D7 D8] 40 (0, 0)) := by rw [hw1]; exact (heap_alloc_old _ _ (by simp <;> omega)).trans ((heap_alloc_old _ _ (by simp <;> omega)).trans ((heap_alloc_old _ _ (by simp <;> omega)).trans (heap_at _ _ _ (by simp))))
  have zN : w1.heap[w.heap.size + 1]? = some (.cells #[.bool P1, .slice P2 P3 P4, .bool P5, .slice P6 P7 P8, .bool Q1, .slice Q2 Q3 Q4, .bool Q5, .slice Q6 Q7 Q8, .bool R1, .slice R2 R3 R4, .bool R5, .slice R6 R7 R8, .bool S1, .slice S2 S3 S4, .bool S5, .slice S6 S7 S8] 40 (0, 0)) := by rw [hw1]; exact (heap_alloc_old _ _ (by simp <;> omega)).trans ((heap_alloc_old _ _ (by simp <;> omega)).trans (heap_at _ _ _ (by simp)))
  have zZ : w1.heap[w.heap.size + 1 + 1]? = some (.cells #[.bool false, .slice none 0 0, .bool false, .slice none 0 0, .bool false, .slice none 0 0, .bool false, .slice none 0 0, .bool false, .slice none 0 0, .bool false, .slice none 0 0, .bool false, .slice none 0 0, .bool false, .slice none 0 0] 40 (0, 0)) := by rw [hw1]; exact (heap_alloc_old _ _ (by simp <;> omega)).trans (heap_at _ _ _ (by simp))
  have zK : w1.heap[w.heap.size + 1 + 1 + 1]? = some (.cells #[.int .i64 0] 83 (0, 0)) := by rw [hw1]; exact heap_at _ _ _ (by simp)
  obtain ⟨g2, hg2⟩ : ∃ g2, g2 = w.heap.size := ⟨_, rfl⟩
  rw [← hg2] at zM zN zZ zK
  go_wp2_with (first
    | (refine wpList_load_row rfl 40 (.tmp 2) rfl (w.heap.size) rfl 40 #[.bool A1, .slice A2 A3 A4, .bool A5, .slice A6 A7 A8, .bool B1, .slice B2 B3 B4, .bool B5, .slice B6 B7 B8, .bool C1, .slice C2 C3 C4, .bool C5, .slice C6 C7 C8, .bool D1, .slice D2 D3 D4, .bool D5, .slice D6 D7 D8] (0, 0) _ ((heap_alloc_old _ _ (by simp <;> omega)).trans ((heap_alloc_old _ _ (by simp <;> omega)).trans ((heap_alloc_old _ _ (by simp <;> omega)).trans (heap_at _ _ _ (by simp))))) Try.underlying40 rfl (by kernel_rfl) ?_)
    | (refine wpList_load_row rfl 40 (.tmp 3) rfl (w.heap.size + 1) rfl 40 #[.bool P1, .slice P2 P3 P4, .bool P5, .slice P6 P7 P8, .bool Q1, .slice Q2 Q3 Q4, .bool Q5, .slice Q6 Q7 Q8, .bool R1, .slice R2 R3 R4, .bool R5, .slice R6 R7 R8, .bool S1, .slice S2 S3 S4, .bool S5, .slice S6 S7 S8] (0, 0) _ ((heap_alloc_old _ _ (by simp <;> omega)).trans ((heap_alloc_old _ _ (by simp <;> omega)).trans (heap_at _ _ _ (by simp)))) Try.underlying40 rfl (by kernel_rfl) ?_))
  rw [← hg2, ← hw1]
  have hgw : w.heap.size ≤ g2 := Nat.le_of_eq hg2.symm
  clear hg2 hw1
  replace hM := mkHid (hM.out.ext hx)
  replace hN := mkHid (hN.out.ext hx)
  replace hE := mkHid (hE.out.trans hx)
  clear hx
  replace zM := mkHid zM
  replace zN := mkHid zN
  replace zZ := mkHid zZ
  replace zK := mkHid zK
  have k1 := kmat0 (g2 + 1 + 1 + 1) _ _ _ _ _ _ zK.out hM.out
  clear zK
  rw [hk, if_pos rfl] at k1
  replace hk := mkHid hk
  replace k1 := mkHid k1
  refine k1.out.mono ?_
  rintro e w3 ⟨rfl, hC, hK⟩
  replace hE := mkHid (hC.ext _ hE.out (by omega))
  replace zM := mkHid (hC.blk _ _ (by omega) zM.out)
  replace zN := mkHid (hC.blk _ _ (by omega) zN.out)
  replace zZ := mkHid (hC.blk _ _ (by omega) zZ.out)
  replace hM := mkHid (AnyM.any hC hM.out)
  replace hN := mkHid (AnyM.any hC hN.out)
  clear hC k1
  have k2 := kmat0 (g2 + 1 + 1 + 1) _ _ _ _ _ _ hK hN.out
  rw [hk', if_pos rfl] at k2
  replace hk' := mkHid hk'
  replace k2 := mkHid k2
  clear hK
  go_wp2_with (first
    | (refine wpList_load_row rfl 40 (.tmp 3) rfl (g2 + 1) rfl 40 #[.bool P1, .slice P2 P3 P4, .bool P5, .slice P6 P7 P8, .bool Q1, .slice Q2 Q3 Q4, .bool Q5, .slice Q6 Q7 Q8, .bool R1, .slice R2 R3 R4, .bool R5, .slice R6 R7 R8, .bool S1, .slice S2 S3 S4, .bool S5, .slice S6 S7 S8] (0, 0) _ (zN.out) Try.underlying40 rfl (by kernel_rfl) ?_))
  refine k2.out.mono ?_
  rintro e w4 ⟨rfl, hC, hK⟩
  replace hE := mkHid (hC.ext _ hE.out (by omega))
  replace zM := mkHid (hC.blk _ _ (by omega) zM.out)
  replace zN := mkHid (hC.blk _ _ (by omega) zN.out)
  replace zZ := mkHid (hC.blk _ _ (by omega) zZ.out)
  replace hM := mkHid (AnyM.any hC hM.out)
  replace hN := mkHid (AnyM.any hC hN.out)
  clear hC k2
  obtain ⟨x1, x2, x3, x4, x5, x6, x7, x8, x9, x10, x11, x12, x13, x14, x15, x16, x17, x18, x19, x20, x21, x22, x23, x24, x25, x26, x27, x28, x29, x30, x31, x32, hh, fA, fB, fC, fD⟩ := hM.out
  simp only [Value.agg.injEq, Array.mk.injEq, List.cons.injEq, Value.bool.injEq, Value.slice.injEq, and_true, and_assoc] at hh
  obtain ⟨rfl, rfl, rfl, rfl, rfl, rfl, rfl, rfl, rfl, rfl, rfl, rfl, rfl, rfl, rfl, rfl, rfl, rfl, rfl, rfl, rfl, rfl, rfl, rfl, rfl, rfl, rfl, rfl, rfl, rfl, rfl, rfl⟩ := hh
  obtain ⟨x1, x2, x3, x4, x5, x6, x7, x8, x9, x10, x11, x12, x13, x14, x15, x16, x17, x18, x19, x20, x21, x22, x23, x24, x25, x26, x27, x28, x29, x30, x31, x32, hh, fP, fQ, fR, fS⟩ := hN.out
  simp only [Value.agg.injEq, Array.mk.injEq, List.cons.injEq, Value.bool.injEq, Value.slice.injEq, and_true, and_assoc] at hh
  obtain ⟨rfl, rfl, rfl, rfl, rfl, rfl, rfl, rfl, rfl, rfl, rfl, rfl, rfl, rfl, rfl, rfl, rfl, rfl, rfl, rfl, rfl, rfl, rfl, rfl, rfl, rfl, rfl, rfl, rfl, rfl, rfl, rfl⟩ := hh
  replace fA := fA.frac.1
  replace fB := fB.frac.1
  replace fC := fC.frac.1
  replace fD := fD.frac.1
  replace fP := fP.frac.1
  replace fQ := fQ.frac.1
  replace fR := fR.frac.1
  replace fS := fS.frac.1
  have ka := asm_c (g2 + 1 + 1 + 1) (g2) (g2 + 1) _ _ _ _ w4 hK hfine.out (fun W e => mul1_c (g2) (g2 + 1) _ _ _ _ _ _ _ _ _ _ _ _ _ _ _ _ _ _ _ _ _ _ _ _ _ _ _ _ _ _ _ _ _ _ _ _ _ _ _ _ _ _ _ _ _ _ _ _ _ _ _ _ _ _ _ _ _ _ _ _ _ _ _ _ a b c d p q r s W (Nat.le_trans na.out (by decide)) (Nat.le_trans nb.out (by decide)) (Nat.le_trans nc.out (by decide)) (Nat.le_trans nd.out (by decide)) (Nat.le_trans np.out (by decide)) (Nat.le_trans nq.out (by decide)) (Nat.le_trans nr.out (by decide)) (Nat.le_trans ns.out (by decide)) (e.blk zM.out) (e.blk zN.out) (fA.ext e) (fB.ext e) (fC.ext e) (fD.ext e) (fP.ext e) (fQ.ext e) (fR.ext e) (fS.ext e))
  replace ka := mkHid ka
  clear fA fB fC fD fP fQ fR fS hK
  clear zM zN hM hN
  go_wp2_with fail
  refine ka.out.mono ?_
  rintro e w5 ⟨m, rfl, hC, hm⟩
  clear ka
  replace hE := mkHid (hC.ext _ hE.out (by omega))
  replace zZ := mkHid (hC.blk _ _ (by omega) zZ.out)
  clear hC
  have hm' := hm
  obtain ⟨E1, E2, E3, E4, E5, E6, E7, E8, F1, F2, F3, F4, F5, F6, F7, F8, G1, G2, G3, G4, G5, G6, G7, G8, H1, H2, H3, H4, H5, H6, H7, H8, rfl, j1, j2, j3, j4⟩ := hm'
  have zw := zZ.out
  have FE := hE.out.row (show w.heap.size ≤ g2 + 1 + 1 by omega) #[.bool E1, .slice E2 E3 E4, .bool E5, .slice E6 E7 E8, .bool F1, .slice F2 F3 F4, .bool F5, .slice F6 F7 F8, .bool G1, .slice G2 G3 G4, .bool G5, .slice G6 G7 G8, .bool H1, .slice H2 H3 H4, .bool H5, .slice H6 H7 H8]
  have FR : AnyM (w5.setRow (g2 + 1 + 1) #[.bool E1, .slice E2 E3 E4, .bool E5, .slice E6 E7 E8, .bool F1, .slice F2 F3 F4, .bool F5, .slice F6 F7 F8, .bool G1, .slice G2 G3 G4, .bool G5, .slice G6 G7 G8, .bool H1, .slice H2 H3 H4, .bool H5, .slice H6 H7 H8]) (.agg #[.bool E1, .slice E2 E3 E4, .bool E5, .slice E6 E7 E8, .bool F1, .slice F2 F3 F4, .bool F5, .slice F6 F7 F8, .bool G1, .slice G2 G3 G4, .bool G5, .slice G6 G7 G8, .bool H1, .slice H2 H3 H4, .bool H5, .slice H6 H7 H8]) (some (a * p + b * r)) (some (a * q + b * s)) (some (c * p + d * r)) (some (c * q + d * s)) := ⟨_, _, _, _, _, _, _, _, _, _, _, _, _, _, _, _, _, _, _, _, _, _, _, _, _, _, _, _, _, _, _, _, rfl, j1.flat zw (by simp [flatV]) _, j2.flat zw (by simp [flatV]) _, j3.flat zw (by simp [flatV]) _, j4.flat zw (by simp [flatV]) _⟩
  replace zw := mkHid zw
  replace FE := mkHid FE
  replace FR := mkHid FR
  clear j1 j2 j3 j4 hm
  go_wp2_with (refine wpList_store_row rfl 40 (.tmp 4) (.tmp 18) rfl (g2 + 1 + 1) #[.bool E1, .slice E2 E3 E4, .bool E5, .slice E6 E7 E8, .bool F1, .slice F2 F3 F4, .bool F5, .slice F6 F7 F8, .bool G1, .slice G2 G3 G4, .bool G5, .slice G6 G7 G8, .bool H1, .slice H2 H3 H4, .bool H5, .slice H6 H7 H8] rfl rfl 40 _ zw.out (by kernel_rfl) rfl (by kernel_rfl) ?_)
  exact bodyPost_ret (results_row_tmp rfl _ _ (g2 + 1 + 1) 40 #[.bool E1, .slice E2 E3 E4, .bool E5, .slice E6 E7 E8, .bool F1, .slice F2 F3 F4, .bool F5, .slice F6 F7 F8, .bool G1, .slice G2 G3 G4, .bool G5, .slice G6 G7 G8, .bool H1, .slice H2 H3 H4, .bool H5, .slice H6 H7 H8] _ _ rfl rfl (setRow_heap _ _ _ _ _ _ zw.out) Try.underlying40 rfl (by kernel_rfl)) rfl ⟨_, rfl, FE.out, FR.out⟩
end Go.Proofs.Ytpmfohhpaoagfaa
namespace Go.Proofs.Ytpmfohhpaoagfaa
open Go Go.RowKit Go.Proofs
theorem powUV_succ (t : Rat) (k : Nat) : powU (k + 1) t = t * powU k t - powV k t ∧ powV (k + 1) t = powU k t := by
  unfold powU powV
  constructor <;> first | rfl | simp [itR] | grind [itR]
/-- The power's determinant. -/
theorem pw_det {a b c d : Rat} (hdet : a * d - b * c = 1) (k : Nat) : pwA k a d * pwA k d a - pwX k a d b * pwX k a d c = 1 := by
  have h := powUV_inv (a + d) k
  have e : pwA k d a = powU k (a + d) * d - powV k (a + d) := by unfold pwA; rw [show d + a = a + d by grind]
  rw [e]
  unfold pwA pwX
  generalize powU k (a + d) = u at *
  generalize powV k (a + d) = v at *
  grind
/-- The matrix by its power. -/
theorem pw_left {a b c d : Rat} (hdet : a * d - b * c = 1) (k : Nat) :
    a * pwA k a d + b * pwX k a d c = pwA (k + 1) a d ∧ a * pwX k a d b + b * pwA k d a = pwX (k + 1) a d b ∧
    c * pwA k a d + d * pwX k a d c = pwX (k + 1) a d c ∧ c * pwX k a d b + d * pwA k d a = pwA (k + 1) d a := by
  obtain ⟨h1, h2⟩ := powUV_succ (a + d) k
  have e : ∀ k, pwA k d a = powU k (a + d) * d - powV k (a + d) := fun k => by unfold pwA; rw [show d + a = a + d by grind]
  rw [e, e]
  unfold pwA pwX
  rw [h1, h2]
  generalize powU k (a + d) = u at *
  generalize powV k (a + d) = v at *
  refine ⟨?_, ?_, ?_, ?_⟩ <;> grind
/-- The power by its matrix. -/
theorem pw_right {a b c d : Rat} (hdet : a * d - b * c = 1) (k : Nat) :
    pwA k a d * a + pwX k a d b * c = pwA (k + 1) a d ∧ pwA k a d * b + pwX k a d b * d = pwX (k + 1) a d b ∧
    pwX k a d c * a + pwA k d a * c = pwX (k + 1) a d c ∧ pwX k a d c * b + pwA k d a * d = pwA (k + 1) d a := by
  obtain ⟨h1, h2⟩ := powUV_succ (a + d) k
  have e : ∀ k, pwA k d a = powU k (a + d) * d - powV k (a + d) := fun k => by unfold pwA; rw [show d + a = a + d by grind]
  rw [e, e]
  unfold pwA pwX
  rw [h1, h2]
  generalize powU k (a + d) = u at *
  generalize powV k (a + d) = v at *
  refine ⟨?_, ?_, ?_, ?_⟩ <;> grind
/-- A power that is not refused: its four are fine. -/
theorem powE_fine {k : Nat} {a b c d : Rat} (h : powE k a b c d = 0) : fine4 (pwA k a d) (pwX k a d b) (pwX k a d c) (pwA k d a) = true := by
  unfold powE fineE at h
  cases hf : fine4 (pwA k a d) (pwX k a d b) (pwX k a d c) (pwA k d a) with
  | true => rfl
  | false => rw [hf] at h; exact absurd h (by decide)
theorem powE_two (k : Nat) (a b c d : Rat) : powE k a b c d = 0 ∨ powE k a b c d = 4 := by
  unfold powE fineE
  split
  · exact .inl rfl
  · exact .inr rfl
end Go.Proofs.Ytpmfohhpaoagfaa
namespace Go.Proofs.Ytpmfohhpaoagfaa
open Go Go.RowKit Go.Proofs
theorem steps_ray {a b c d pa pb pc pd qa qb qc qd : Rat} {oy ou : Option Rat} (lf : a * pa + b * pc = qa ∧ a * pb + b * pd = qb ∧ c * pa + d * pc = qc ∧ c * pb + d * pd = qd)
    (h1 : thE (some pa) (some pb) (some pc) (some pd) oy ou = 0) (h2 : thE (some qa) (some qb) (some qc) (some qd) oy ou = 0)
    (h3 : thE (some a) (some b) (some c) (some d) (thY (some pa) (some pb) (some pc) (some pd) oy ou) (thU (some pa) (some pb) (some pc) (some pd) oy ou) = 0) :
    ∃ y1 z1, thY (some qa) (some qb) (some qc) (some qd) oy ou = some y1 ∧ thU (some qa) (some qb) (some qc) (some qd) oy ou = some z1 ∧
      thY (some a) (some b) (some c) (some d) (thY (some pa) (some pb) (some pc) (some pd) oy ou) (thU (some pa) (some pb) (some pc) (some pd) oy ou) = some y1 ∧
      thU (some a) (some b) (some c) (some d) (thY (some pa) (some pb) (some pc) (some pd) oy ou) (thU (some pa) (some pb) (some pc) (some pd) oy ou) = some z1 := by
  obtain ⟨l1, l2, l3, l4⟩ := lf
  cases oy with
  | none => exact absurd (show (1 : Int) = 0 from h1) (by decide)
  | some y =>
    cases ou with
    | none => exact absurd (show (1 : Int) = 0 from h1) (by decide)
    | some u =>
      obtain ⟨e1, e2, _⟩ := thE_ok h1
      obtain ⟨e3, e4, _⟩ := thE_ok h2
      rw [e1, e2] at h3 ⊢
      obtain ⟨e5, e6, _⟩ := thE_ok h3
      rw [e3, e4, e5, e6]
      refine ⟨_, _, rfl, rfl, ?_, ?_⟩ <;> congr 1 <;> grind
end Go.Proofs.Ytpmfohhpaoagfaa
namespace Go.Proofs.Ytpmfohhpaoagfaa
open Go Go.RowKit Go.Proofs
theorem wpList_load_rowG {P : Program} {ops : Array Oper} {rest : List Oper} {o : Oper} {a : Act} {w : World} {Q : Exit → Act → World → Prop} (hw : Region.wanted o (yielded ops a.tmps) = true) (ty : TypeId) (x : Operand) (ho : o.op = .load ty x)
    (g : Nat) (hx : a.eval x = .pointer (some ⟨g, 0, none⟩)) (t : TypeId) (cs : Array Value) (fr : Nat × Nat) (d : TypeDesc) (hg : w.heap[g]? = some (.cells cs t fr))
    (hu : P.underlying ty = some d) (hd : (match d with | .struct _ | .array _ _ => true | _ => false) = true) (hi : (P.info? ty).map (·.size) = some cs.size)
    (h : wpList P ops Q rest (a.put o.dst (.agg cs)) w) : wpList P ops Q (o :: rest) a w := by
  simp only [wpList]
  rw [if_pos hw]
  exact .inl (wp_load_row ty x ho g hx t cs fr d hg hu hd hi h)
end Go.Proofs.Ytpmfohhpaoagfaa
namespace Go.Proofs.Ytpmfohhpaoagfaa
open Go Go.RowKit Go.Proofs
set_option maxRecDepth 100000 in
set_option maxHeartbeats 25600000 in
theorem steps_big (n : Int) (v r : Value) (w : World) (h : RawM w v) (hr : RawY w r) (hno : ∀ oa ob oc od oy ou, ¬ (AnyM w v oa ob oc od ∧ AnyY w r oy ou)) :
    Calls Try.prog 5 #[v, .int .i64 n, r] w fun e w' => e = .returned (.bool true) ∧ Ext w w' := by
  obtain ⟨v1, v2, v3, v4, v5, v6, v7, v8, v9, v10, v11, v12, v13, v14, v15, v16, rfl, h1, h2, h3, h4⟩ := h
  obtain ⟨u1, u2, u3, u4, u5, u6, u7, u8, rfl, h5, h6⟩ := hr
  obtain ⟨A1, A2, A3, A4, A5, A6, A7, A8, e1, pA, qA, gA⟩ := h1.opened
  simp only [Value.agg.injEq, Array.mk.injEq, List.cons.injEq, and_true] at e1
  obtain ⟨rfl, rfl, rfl, rfl⟩ := e1
  obtain ⟨B1, B2, B3, B4, B5, B6, B7, B8, e1, pB, qB, gB⟩ := h2.opened
  simp only [Value.agg.injEq, Array.mk.injEq, List.cons.injEq, and_true] at e1
  obtain ⟨rfl, rfl, rfl, rfl⟩ := e1
  obtain ⟨C1, C2, C3, C4, C5, C6, C7, C8, e1, pC, qC, gC⟩ := h3.opened
  simp only [Value.agg.injEq, Array.mk.injEq, List.cons.injEq, and_true] at e1
  obtain ⟨rfl, rfl, rfl, rfl⟩ := e1
  obtain ⟨D1, D2, D3, D4, D5, D6, D7, D8, e1, pD, qD, gD⟩ := h4.opened
  simp only [Value.agg.injEq, Array.mk.injEq, List.cons.injEq, and_true] at e1
  obtain ⟨rfl, rfl, rfl, rfl⟩ := e1
  obtain ⟨Y1, Y2, Y3, Y4, Y5, Y6, Y7, Y8, e1, pY, qY, gY⟩ := h5.opened
  simp only [Value.agg.injEq, Array.mk.injEq, List.cons.injEq, and_true] at e1
  obtain ⟨rfl, rfl, rfl, rfl⟩ := e1
  obtain ⟨U1, U2, U3, U4, U5, U6, U7, U8, e1, pU, qU, gU⟩ := h6.opened
  simp only [Value.agg.injEq, Array.mk.injEq, List.cons.injEq, and_true] at e1
  obtain ⟨rfl, rfl, rfl, rfl⟩ := e1
  clear h1 h2 h3 h4 h5 h6
  have kl := mkHid lives_c
  have km := mkHid (fun w => matrixCost_c A1 A2 A3 A4 A5 A6 A7 A8 B1 B2 B3 B4 B5 B6 B7 B8 C1 C2 C3 C4 C5 C6 C7 C8 D1 D2 D3 D4 D5 D6 D7 D8 w pA qA pB qB pC qC pD qD)
  have kr := mkHid (fun w => rayCost_c Y1 Y2 Y3 Y4 Y5 Y6 Y7 Y8 U1 U2 U3 U4 U5 U6 U7 U8 w pY qY pU qU)
  obtain ⟨cA1, cA2, cA3, cA4⟩ := costV_b A3 A7 pA qA
  obtain ⟨cB1, cB2, cB3, cB4⟩ := costV_b B3 B7 pB qB
  obtain ⟨cC1, cC2, cC3, cC4⟩ := costV_b C3 C7 pC qC
  obtain ⟨cD1, cD2, cD3, cD4⟩ := costV_b D3 D7 pD qD
  obtain ⟨cY1, cY2, cY3, cY4⟩ := costV_b Y3 Y7 pY qY
  obtain ⟨cU1, cU2, cU3, cU4⟩ := costV_b U3 U7 pU qU
  generalize costV A3 A7 = CA at *
  generalize costV B3 B7 = CB at *
  generalize costV C3 C7 = CC at *
  generalize costV D3 D7 = CD at *
  generalize costV Y3 Y7 = CY at *
  generalize costV U3 U7 = CU at *
  obtain ⟨CM, hCM⟩ : ∃ C : Int, C = CA + CB + CC + CD := ⟨_, rfl⟩
  obtain ⟨CR, hCR⟩ : ∃ C : Int, C = CY + CU := ⟨_, rfl⟩
  rw [← hCM] at km
  rw [← hCR] at kr
  have kb := mkHid (fun g w h h' => beyond2_c g 2 CM CR w (by omega) (by omega) (by omega) (by omega) h h')
  have small : ¬ CM + CR ≤ 1048576 := fun hs => by
    have l : A3 ≤ 4294967296 ∧ A7 ≤ 4294967296 ∧ B3 ≤ 4294967296 ∧ B7 ≤ 4294967296 ∧ C3 ≤ 4294967296 ∧ C7 ≤ 4294967296 ∧ D3 ≤ 4294967296 ∧ D7 ≤ 4294967296 ∧ Y3 ≤ 4294967296 ∧ Y7 ≤ 4294967296 ∧ U3 ≤ 4294967296 ∧ U7 ≤ 4294967296 := by omega
    obtain ⟨lA1, lA2, lB1, lB2, lC1, lC2, lD1, lD2, lY1, lY2, lU1, lU2⟩ := l
    obtain ⟨oa, fA⟩ := gA lA1 lA2
    obtain ⟨ob, fB⟩ := gB lB1 lB2
    obtain ⟨oc, fC⟩ := gC lC1 lC2
    obtain ⟨od, fD⟩ := gD lD1 lD2
    obtain ⟨oy, fY⟩ := gY lY1 lY2
    obtain ⟨ou, fU⟩ := gU lU1 lU2
    exact hno _ _ _ _ _ _ ⟨⟨_, _, _, _, _, _, _, _, _, _, _, _, _, _, _, _, _, _, _, _, _, _, _, _, _, _, _, _, _, _, _, _, rfl, fA, fB, fC, fD⟩, ⟨_, _, _, _, _, _, _, _, _, _, _, _, _, _, _, _, rfl, fY, fU⟩⟩
  replace small := mkHid small
  clear hCM hCR cA1 cA2 cA3 cA4 pA qA cB1 cB2 cB3 cB4 pB qB cC1 cC2 cC3 cC4 pC qC cD1 cD2 cD3 cD4 pD qD cY1 cY2 cY3 cY4 pY qY cU1 cU2 cU3 cU4 pU qU hno gA gB gC gD gY gU
  have hE := mkHid (Ext.refl w)
  go_enter Try.func5, Try.ntmps5
  obtain ⟨w1, hw1⟩ : ∃ w1, w1 = (w.alloc (.cells #[.bool A1, .slice A2 A3 A4, .bool A5, .slice A6 A7 A8, .bool B1, .slice B2 B3 B4, .bool B5, .slice B6 B7 B8, .bool C1, .slice C2 C3 C4, .bool C5, .slice C6 C7 C8, .bool D1, .slice D2 D3 D4, .bool D5, .slice D6 D7 D8] 40)).alloc (.cells #[.bool Y1, .slice Y2 Y3 Y4, .bool Y5, .slice Y6 Y7 Y8, .bool U1, .slice U2 U3 U4, .bool U5, .slice U6 U7 U8] 48) := ⟨_, rfl⟩
  have hx : Ext w w1 := by rw [hw1]; exact (((Ext.refl w).al _).al _)
  have zM : w1.heap[w.heap.size]? = some (.cells #[.bool A1, .slice A2 A3 A4, .bool A5, .slice A6 A7 A8, .bool B1, .slice B2 B3 B4, .bool B5, .slice B6 B7 B8, .bool C1, .slice C2 C3 C4, .bool C5, .slice C6 C7 C8, .bool D1, .slice D2 D3 D4, .bool D5, .slice D6 D7 D8] 40 (0, 0)) := by rw [hw1]; exact (heap_alloc_old _ _ (by simp <;> omega)).trans (heap_at _ _ _ (by simp))
  have zR : w1.heap[w.heap.size + 1]? = some (.cells #[.bool Y1, .slice Y2 Y3 Y4, .bool Y5, .slice Y6 Y7 Y8, .bool U1, .slice U2 U3 U4, .bool U5, .slice U6 U7 U8] 48 (0, 0)) := by rw [hw1]; exact heap_at _ _ _ (by simp)
  obtain ⟨g2, hg2⟩ : ∃ g2, g2 = w.heap.size := ⟨_, rfl⟩
  rw [← hg2] at zM zR
  go_wp2_with (first
    | (refine wpList_load_row rfl 40 (.tmp 3) rfl (w.heap.size) rfl 40 #[.bool A1, .slice A2 A3 A4, .bool A5, .slice A6 A7 A8, .bool B1, .slice B2 B3 B4, .bool B5, .slice B6 B7 B8, .bool C1, .slice C2 C3 C4, .bool C5, .slice C6 C7 C8, .bool D1, .slice D2 D3 D4, .bool D5, .slice D6 D7 D8] (0, 0) _ ((heap_alloc_old _ _ (by simp <;> omega)).trans (heap_at _ _ _ (by simp))) Try.underlying40 rfl (by kernel_rfl) ?_)
    | (refine wpList_load_row rfl 48 (.tmp 5) rfl (w.heap.size + 1) rfl 48 #[.bool Y1, .slice Y2 Y3 Y4, .bool Y5, .slice Y6 Y7 Y8, .bool U1, .slice U2 U3 U4, .bool U5, .slice U6 U7 U8] (0, 0) _ (heap_at _ _ _ (by simp)) Try.underlying48 rfl (by kernel_rfl) ?_))
  rw [← hg2, ← hw1]
  clear hg2 hw1
  replace hE := mkHid (hE.out.trans hx)
  clear hx
  replace zM := mkHid zM
  replace zR := mkHid zR
  apply region_ext [.val (.agg #[.bool A1, .slice A2 A3 A4, .bool A5, .slice A6 A7 A8, .bool B1, .slice B2 B3 B4, .bool B5, .slice B6 B7 B8, .bool C1, .slice C2 C3 C4, .bool C5, .slice C6 C7 C8, .bool D1, .slice D2 D3 D4, .bool D5, .slice D6 D7 D8]), .val (.int .i64 CM), .val (.agg #[.bool Y1, .slice Y2 Y3 Y4, .bool Y5, .slice Y6 Y7 Y8, .bool U1, .slice U2 U3 U4, .bool U5, .slice U6 U7 U8]), .val (.int .i64 CR), .pred (SlI CM CR), .pred (fun _ v => ByV (CM + CR) v)] (by kernel_rfl) (stable_vals _ (stable_vals _ (stable_vals _ (stable_vals _ (st_slI _ _ (st_byV _ trivial))))))
  refine ⟨fun W hW _ => fr_load rfl 40 (.tmp 3) rfl (g2) rfl 40 #[.bool A1, .slice A2 A3 A4, .bool A5, .slice A6 A7 A8, .bool B1, .slice B2 B3 B4, .bool B5, .slice B6 B7 B8, .bool C1, .slice C2 C3 C4, .bool C5, .slice C6 C7 C8, .bool D1, .slice D2 D3 D4, .bool D5, .slice D6 D7 D8] (0, 0) _ (hW.blk zM.out) Try.underlying40 rfl (by kernel_rfl) ⟨Ext.refl _, rfl⟩, ⟨fun W hW _ => ?b1, ⟨fun W hW _ => fr_load rfl 48 (.tmp 5) rfl (g2 + 1) rfl 48 #[.bool Y1, .slice Y2 Y3 Y4, .bool Y5, .slice Y6 Y7 Y8, .bool U1, .slice U2 U3 U4, .bool U5, .slice U6 U7 U8] (0, 0) _ (hW.blk zR.out) Try.underlying48 rfl (by kernel_rfl) ⟨Ext.refl _, rfl⟩, ⟨fun W hW _ => ?b3,  ⟨fun W hW _ => ?b4, fun x4 => ⟨fun W hW hF => ?b5, fun x5 => ?_⟩⟩⟩⟩⟩⟩
  case b1 =>
    go_simp
    refine (km.out W).mono ?_
    rintro e w' ⟨rfl, h1⟩
    exact ⟨rfl, h1⟩
  case b3 =>
    go_simp
    refine (kr.out W).mono ?_
    rintro e w' ⟨rfl, h1⟩
    exact ⟨rfl, h1⟩
  case b4 =>
    have hs := mkHid ((Ext.refl W).al (.cells #[.int .i64 CM, .int .i64 CR] 3))
    have hsl := mkHid (show SlI CM CR (W.alloc (.cells #[.int .i64 CM, .int .i64 CR] 3)) (.slice (some ⟨W.heap.size, 0, none⟩) 2 2) from ⟨_, rfl, heap_alloc_new _ _⟩)
    go_simp
    exact ⟨hs.out, hsl.out⟩
  case b5 =>
    have dd : SlI CM CR W x4 := hF.1 (by kernel_rfl)
    obtain ⟨g, rfl, hg⟩ := dd
    clear hF
    go_simp
    refine (kb.out g W (by simp [World.cell?, hg]) (by simp [World.cell?, hg])).mono ?_
    rintro e w' ⟨v, rfl, e1, e2⟩
    exact ⟨v, rfl, e1, e2⟩
  intro W1 hW hF
  have hB : ByV (CM + CR) x5 := hF.1 rfl
  obtain ⟨rb, rfl, hB⟩ := hB
  clear hF
  replace hE := mkHid (hE.out.trans hW)
  replace zM := mkHid (hW.blk zM.out)
  replace zR := mkHid (hW.blk zR.out)
  clear hW km kr kb
  go_simp
  cases rb with
  | true =>
    clear hB
    go_wp2_with fail
    refine (kl.out _).mono ?_
    rintro e wl ⟨rfl, hl⟩
    go_wp2_with fail
    go_ret
    exact ⟨rfl, hE.out.trans hl⟩
  | false =>
    exact absurd (hB rfl) (by have := small.out; omega)
set_option maxRecDepth 100000 in
set_option maxHeartbeats 25600000 in
theorem steps_no (n : Int) (v r : Value) (oa ob oc od oy ou : Option Rat) (w : World) (h : AnyM w v oa ob oc od) (hr : AnyY w r oy ou) (hm : okM oa ob oc od = false) :
    Calls Try.prog 5 #[v, .int .i64 n, r] w fun e w' => e = .returned (.bool true) ∧ Ext w w' := by
  have hM := mkHid h
  have hY := mkHid hr
  obtain ⟨A1, A2, A3, A4, A5, A6, A7, A8, B1, B2, B3, B4, B5, B6, B7, B8, C1, C2, C3, C4, C5, C6, C7, C8, D1, D2, D3, D4, D5, D6, D7, D8, rfl, h1, h2, h3, h4⟩ := h
  obtain ⟨Y1, Y2, Y3, Y4, Y5, Y6, Y7, Y8, U1, U2, U3, U4, U5, U6, U7, U8, rfl, h5, h6⟩ := hr
  have pA : A3 ≤ 140737488355328 := Nat.le_trans h1.lens.1 (by decide)
  have qA : A7 ≤ 140737488355328 := Nat.le_trans h1.lens.2 (by decide)
  have pB : B3 ≤ 140737488355328 := Nat.le_trans h2.lens.1 (by decide)
  have qB : B7 ≤ 140737488355328 := Nat.le_trans h2.lens.2 (by decide)
  have pC : C3 ≤ 140737488355328 := Nat.le_trans h3.lens.1 (by decide)
  have qC : C7 ≤ 140737488355328 := Nat.le_trans h3.lens.2 (by decide)
  have pD : D3 ≤ 140737488355328 := Nat.le_trans h4.lens.1 (by decide)
  have qD : D7 ≤ 140737488355328 := Nat.le_trans h4.lens.2 (by decide)
  have pY : Y3 ≤ 140737488355328 := Nat.le_trans h5.lens.1 (by decide)
  have qY : Y7 ≤ 140737488355328 := Nat.le_trans h5.lens.2 (by decide)
  have pU : U3 ≤ 140737488355328 := Nat.le_trans h6.lens.1 (by decide)
  have qU : U7 ≤ 140737488355328 := Nat.le_trans h6.lens.2 (by decide)
  clear h1 h2 h3 h4 h5 h6
  have kl := mkHid lives_c
  have km := mkHid (fun w => matrixCost_c A1 A2 A3 A4 A5 A6 A7 A8 B1 B2 B3 B4 B5 B6 B7 B8 C1 C2 C3 C4 C5 C6 C7 C8 D1 D2 D3 D4 D5 D6 D7 D8 w pA qA pB qB pC qC pD qD)
  have kr := mkHid (fun w => rayCost_c Y1 Y2 Y3 Y4 Y5 Y6 Y7 Y8 U1 U2 U3 U4 U5 U6 U7 U8 w pY qY pU qU)
  obtain ⟨cA1, cA2, cA3, cA4⟩ := costV_b A3 A7 pA qA
  obtain ⟨cB1, cB2, cB3, cB4⟩ := costV_b B3 B7 pB qB
  obtain ⟨cC1, cC2, cC3, cC4⟩ := costV_b C3 C7 pC qC
  obtain ⟨cD1, cD2, cD3, cD4⟩ := costV_b D3 D7 pD qD
  obtain ⟨cY1, cY2, cY3, cY4⟩ := costV_b Y3 Y7 pY qY
  obtain ⟨cU1, cU2, cU3, cU4⟩ := costV_b U3 U7 pU qU
  generalize costV A3 A7 = CA at *
  generalize costV B3 B7 = CB at *
  generalize costV C3 C7 = CC at *
  generalize costV D3 D7 = CD at *
  generalize costV Y3 Y7 = CY at *
  generalize costV U3 U7 = CU at *
  obtain ⟨CM, hCM⟩ : ∃ C : Int, C = CA + CB + CC + CD := ⟨_, rfl⟩
  obtain ⟨CR, hCR⟩ : ∃ C : Int, C = CY + CU := ⟨_, rfl⟩
  rw [← hCM] at km
  rw [← hCR] at kr
  have kb := mkHid (fun g w h h' => beyond2_c g 2 CM CR w (by omega) (by omega) (by omega) (by omega) h h')
  clear hCM hCR cA1 cA2 cA3 cA4 pA qA cB1 cB2 cB3 cB4 pB qB cC1 cC2 cC3 cC4 pC qC cD1 cD2 cD3 cD4 pD qD cY1 cY2 cY3 cY4 pY qY cU1 cU2 cU3 cU4 pU qU 
  replace hm := mkHid hm
  have hE := mkHid (Ext.refl w)
  go_enter Try.func5, Try.ntmps5
  obtain ⟨w1, hw1⟩ : ∃ w1, w1 = (w.alloc (.cells #[.bool A1, .slice A2 A3 A4, .bool A5, .slice A6 A7 A8, .bool B1, .slice B2 B3 B4, .bool B5, .slice B6 B7 B8, .bool C1, .slice C2 C3 C4, .bool C5, .slice C6 C7 C8, .bool D1, .slice D2 D3 D4, .bool D5, .slice D6 D7 D8] 40)).alloc (.cells #[.bool Y1, .slice Y2 Y3 Y4, .bool Y5, .slice Y6 Y7 Y8, .bool U1, .slice U2 U3 U4, .bool U5, .slice U6 U7 U8] 48) := ⟨_, rfl⟩
  have hx : Ext w w1 := by rw [hw1]; exact (((Ext.refl w).al _).al _)
  have zM : w1.heap[w.heap.size]? = some (.cells #[.bool A1, .slice A2 A3 A4, .bool A5, .slice A6 A7 A8, .bool B1, .slice B2 B3 B4, .bool B5, .slice B6 B7 B8, .bool C1, .slice C2 C3 C4, .bool C5, .slice C6 C7 C8, .bool D1, .slice D2 D3 D4, .bool D5, .slice D6 D7 D8] 40 (0, 0)) := by rw [hw1]; exact (heap_alloc_old _ _ (by simp <;> omega)).trans (heap_at _ _ _ (by simp))
  have zR : w1.heap[w.heap.size + 1]? = some (.cells #[.bool Y1, .slice Y2 Y3 Y4, .bool Y5, .slice Y6 Y7 Y8, .bool U1, .slice U2 U3 U4, .bool U5, .slice U6 U7 U8] 48 (0, 0)) := by rw [hw1]; exact heap_at _ _ _ (by simp)
  obtain ⟨g2, hg2⟩ : ∃ g2, g2 = w.heap.size := ⟨_, rfl⟩
  rw [← hg2] at zM zR
  go_wp2_with (first
    | (refine wpList_load_row rfl 40 (.tmp 3) rfl (w.heap.size) rfl 40 #[.bool A1, .slice A2 A3 A4, .bool A5, .slice A6 A7 A8, .bool B1, .slice B2 B3 B4, .bool B5, .slice B6 B7 B8, .bool C1, .slice C2 C3 C4, .bool C5, .slice C6 C7 C8, .bool D1, .slice D2 D3 D4, .bool D5, .slice D6 D7 D8] (0, 0) _ ((heap_alloc_old _ _ (by simp <;> omega)).trans (heap_at _ _ _ (by simp))) Try.underlying40 rfl (by kernel_rfl) ?_)
    | (refine wpList_load_row rfl 48 (.tmp 5) rfl (w.heap.size + 1) rfl 48 #[.bool Y1, .slice Y2 Y3 Y4, .bool Y5, .slice Y6 Y7 Y8, .bool U1, .slice U2 U3 U4, .bool U5, .slice U6 U7 U8] (0, 0) _ (heap_at _ _ _ (by simp)) Try.underlying48 rfl (by kernel_rfl) ?_))
  rw [← hg2, ← hw1]
  clear hg2 hw1
  replace hE := mkHid (hE.out.trans hx)
  replace hM := mkHid (hM.out.ext hx)
  replace hY := mkHid (hY.out.ext hx)
  clear hx
  replace zM := mkHid zM
  replace zR := mkHid zR
  apply region_ext [.val (.agg #[.bool A1, .slice A2 A3 A4, .bool A5, .slice A6 A7 A8, .bool B1, .slice B2 B3 B4, .bool B5, .slice B6 B7 B8, .bool C1, .slice C2 C3 C4, .bool C5, .slice C6 C7 C8, .bool D1, .slice D2 D3 D4, .bool D5, .slice D6 D7 D8]), .val (.int .i64 CM), .val (.agg #[.bool Y1, .slice Y2 Y3 Y4, .bool Y5, .slice Y6 Y7 Y8, .bool U1, .slice U2 U3 U4, .bool U5, .slice U6 U7 U8]), .val (.int .i64 CR), .pred (SlI CM CR), .pred (fun _ v => ByV (CM + CR) v)] (by kernel_rfl) (stable_vals _ (stable_vals _ (stable_vals _ (stable_vals _ (st_slI _ _ (st_byV _ trivial))))))
  refine ⟨fun W hW _ => fr_load rfl 40 (.tmp 3) rfl (g2) rfl 40 #[.bool A1, .slice A2 A3 A4, .bool A5, .slice A6 A7 A8, .bool B1, .slice B2 B3 B4, .bool B5, .slice B6 B7 B8, .bool C1, .slice C2 C3 C4, .bool C5, .slice C6 C7 C8, .bool D1, .slice D2 D3 D4, .bool D5, .slice D6 D7 D8] (0, 0) _ (hW.blk zM.out) Try.underlying40 rfl (by kernel_rfl) ⟨Ext.refl _, rfl⟩, ⟨fun W hW _ => ?b1, ⟨fun W hW _ => fr_load rfl 48 (.tmp 5) rfl (g2 + 1) rfl 48 #[.bool Y1, .slice Y2 Y3 Y4, .bool Y5, .slice Y6 Y7 Y8, .bool U1, .slice U2 U3 U4, .bool U5, .slice U6 U7 U8] (0, 0) _ (hW.blk zR.out) Try.underlying48 rfl (by kernel_rfl) ⟨Ext.refl _, rfl⟩, ⟨fun W hW _ => ?b3,  ⟨fun W hW _ => ?b4, fun x4 => ⟨fun W hW hF => ?b5, fun x5 => ?_⟩⟩⟩⟩⟩⟩
  case b1 =>
    go_simp
    refine (km.out W).mono ?_
    rintro e w' ⟨rfl, h1⟩
    exact ⟨rfl, h1⟩
  case b3 =>
    go_simp
    refine (kr.out W).mono ?_
    rintro e w' ⟨rfl, h1⟩
    exact ⟨rfl, h1⟩
  case b4 =>
    have hs := mkHid ((Ext.refl W).al (.cells #[.int .i64 CM, .int .i64 CR] 3))
    have hsl := mkHid (show SlI CM CR (W.alloc (.cells #[.int .i64 CM, .int .i64 CR] 3)) (.slice (some ⟨W.heap.size, 0, none⟩) 2 2) from ⟨_, rfl, heap_alloc_new _ _⟩)
    go_simp
    exact ⟨hs.out, hsl.out⟩
  case b5 =>
    have dd : SlI CM CR W x4 := hF.1 (by kernel_rfl)
    obtain ⟨g, rfl, hg⟩ := dd
    clear hF
    go_simp
    refine (kb.out g W (by simp [World.cell?, hg]) (by simp [World.cell?, hg])).mono ?_
    rintro e w' ⟨v, rfl, e1, e2⟩
    exact ⟨v, rfl, e1, e2⟩
  intro W1 hW hF
  have hB : ByV (CM + CR) x5 := hF.1 rfl
  obtain ⟨rb, rfl, hB⟩ := hB
  clear hF
  replace hE := mkHid (hE.out.trans hW)
  replace hM := mkHid (hM.out.ext hW)
  replace hY := mkHid (hY.out.ext hW)
  replace zM := mkHid (hW.blk zM.out)
  replace zR := mkHid (hW.blk zR.out)
  clear hW km kr kb
  go_simp
  cases rb with
  | true =>
    clear hB
    go_wp2_with fail
    refine (kl.out _).mono ?_
    rintro e wl ⟨rfl, hl⟩
    go_wp2_with fail
    go_ret
    exact ⟨rfl, hE.out.trans hl⟩
  | false =>
    clear hB
    by_cases hn0 : n < 0
    case pos =>
      go_wp2_with fail
      refine (kl.out _).mono ?_
      rintro e wl ⟨rfl, hl⟩
      go_wp2_with fail
      go_ret
      exact ⟨rfl, hE.out.trans hl⟩
    by_cases hn6 : 60 < n
    case pos =>
      go_wp2_with fail
      refine (kl.out _).mono ?_
      rintro e wl ⟨rfl, hl⟩
      go_wp2_with fail
      go_ret
      exact ⟨rfl, hE.out.trans hl⟩
    obtain ⟨k, rfl⟩ : ∃ k : Nat, n = (k : Int) := ⟨n.toNat, by omega⟩
    have hk : k ≤ 60 := by omega
    have ek : IntKind.i64.wrap ((k : Int) + 1) = ((k + 1 : Nat) : Int) := by rw [IntKind.wrap_i64]; omega
    go_wp2_with (first
      | (refine wpList_load_row rfl 40 (.tmp 3) rfl (g2) rfl 40 #[.bool A1, .slice A2 A3 A4, .bool A5, .slice A6 A7 A8, .bool B1, .slice B2 B3 B4, .bool B5, .slice B6 B7 B8, .bool C1, .slice C2 C3 C4, .bool C5, .slice C6 C7 C8, .bool D1, .slice D2 D3 D4, .bool D5, .slice D6 D7 D8] (0, 0) _ (zM.out) Try.underlying40 rfl (by kernel_rfl) ?_))
    refine (power_none _ _ oa ob oc od _ hM.out hm.out).mono ?_
    rintro e w3 ⟨vp, rfl, hx, hp⟩
    replace hE := mkHid (hE.out.trans hx)
    replace hM := mkHid (hM.out.ext hx)
    replace hY := mkHid (hY.out.ext hx)
    replace zM := mkHid (hx.blk zM.out)
    replace zR := mkHid (hx.blk zR.out)
    clear hx
    replace hp := mkHid hp
    have hh := hp.out
    obtain ⟨P11, P12, P13, P14, P15, P16, P17, P18, P21, P22, P23, P24, P25, P26, P27, P28, P31, P32, P33, P34, P35, P36, P37, P38, P41, P42, P43, P44, P45, P46, P47, P48, rfl, -⟩ := hh
    obtain ⟨w4, hw4⟩ : ∃ w4, w4 = w3.alloc (.cells #[.bool P11, .slice P12 P13 P14, .bool P15, .slice P16 P17 P18, .bool P21, .slice P22 P23 P24, .bool P25, .slice P26 P27 P28, .bool P31, .slice P32 P33 P34, .bool P35, .slice P36 P37 P38, .bool P41, .slice P42 P43 P44, .bool P45, .slice P46 P47 P48] 40) := ⟨_, rfl⟩
    have hx : Ext w3 w4 := by rw [hw4]; exact ((Ext.refl w3).al _)
    have zP : w4.heap[w3.heap.size]? = some (.cells #[.bool P11, .slice P12 P13 P14, .bool P15, .slice P16 P17 P18, .bool P21, .slice P22 P23 P24, .bool P25, .slice P26 P27 P28, .bool P31, .slice P32 P33 P34, .bool P35, .slice P36 P37 P38, .bool P41, .slice P42 P43 P44, .bool P45, .slice P46 P47 P48] 40 (0, 0)) := by rw [hw4]; exact heap_at _ _ _ (by simp)
    obtain ⟨g5, hg5⟩ : ∃ g5, g5 = w3.heap.size := ⟨_, rfl⟩
    rw [← hg5] at zP
    have ltM : g2 < w3.heap.size := (Array.getElem?_eq_some_iff.1 zM.out).1
    go_wp2_with (first
      | (refine wpList_load_row rfl 40 (.tmp 3) rfl (g2) rfl 40 #[.bool A1, .slice A2 A3 A4, .bool A5, .slice A6 A7 A8, .bool B1, .slice B2 B3 B4, .bool B5, .slice B6 B7 B8, .bool C1, .slice C2 C3 C4, .bool C5, .slice C6 C7 C8, .bool D1, .slice D2 D3 D4, .bool D5, .slice D6 D7 D8] (0, 0) _ ((heap_alloc_old _ _ (by first | omega | (simp <;> omega))).trans (zM.out)) Try.underlying40 rfl (by kernel_rfl) ?_)
      | (refine wpList_load_row rfl 40 (.tmp 7) rfl (w3.heap.size) rfl 40 #[.bool P11, .slice P12 P13 P14, .bool P15, .slice P16 P17 P18, .bool P21, .slice P22 P23 P24, .bool P25, .slice P26 P27 P28, .bool P31, .slice P32 P33 P34, .bool P35, .slice P36 P37 P38, .bool P41, .slice P42 P43 P44, .bool P45, .slice P46 P47 P48] (0, 0) _ (heap_at _ _ _ (by simp)) Try.underlying40 rfl (by kernel_rfl) ?_))
    rw [← hg5, ← hw4]
    clear ltM
    clear hg5 hw4
    replace hE := mkHid (hE.out.trans hx)
    replace hM := mkHid (hM.out.ext hx)
    replace hY := mkHid (hY.out.ext hx)
    replace zM := mkHid (hx.blk zM.out)
    replace zR := mkHid (hx.blk zR.out)
    replace hp := mkHid (hp.out.ext hx)
    clear hx
    replace zP := mkHid zP
    refine (power_none _ _ oa ob oc od _ hM.out hm.out).mono ?_
    rintro e w6 ⟨vq, rfl, hx, hq⟩
    replace hE := mkHid (hE.out.trans hx)
    replace hM := mkHid (hM.out.ext hx)
    replace hY := mkHid (hY.out.ext hx)
    replace zM := mkHid (hx.blk zM.out)
    replace zR := mkHid (hx.blk zR.out)
    replace hp := mkHid (hp.out.ext hx)
    replace zP := mkHid (hx.blk zP.out)
    clear hx
    replace hq := mkHid hq
    have hh := hq.out
    obtain ⟨Q11, Q12, Q13, Q14, Q15, Q16, Q17, Q18, Q21, Q22, Q23, Q24, Q25, Q26, Q27, Q28, Q31, Q32, Q33, Q34, Q35, Q36, Q37, Q38, Q41, Q42, Q43, Q44, Q45, Q46, Q47, Q48, rfl, -⟩ := hh
    go_wp2_with fail
    refine (kl.out _).mono ?_
    rintro e wl ⟨rfl, hl⟩
    go_wp2_with fail
    go_ret
    exact ⟨rfl, hE.out.trans (((Ext.refl _).al _).trans hl)⟩
end Go.Proofs.Ytpmfohhpaoagfaa
