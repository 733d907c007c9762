/-
  As FreeT, but an operation of the front may give no value (a store): printed by tools/gen_frees.py. A row that is stored early or late. law25: asked, of a catalogue that is gone: printed by tools/gen_asked.py. law25: asked, Put, of a catalogue that is gone: printed by tools/gen_asked2.py. law01: IntSize, FracSize, Lowest, FracCost. law01: ElementSize, PartsSize of one part: printed by tools/gen_size.py.
-/
import Derived.Test.YtplhndmncjoghaaGreatDoorMAJ
import Derived.Test.YtplhndmncjoghaaGreatDoorMAF
import Derived.Laws.Cover3
import Derived.Test.YtplhndmncjoghaaGreatDoorMAH
import Derived.LoopN
namespace Go.Proofs.YtplhndmncjoghaaGreatDoor
set_option maxRecDepth 100000
open Go Go.RowKit Go.Proofs
def okOperS (l : List Oper) (n i : Nat) (o : Oper) : Bool :=
  (o.after.toList.all fun e => !Region.binds .any e || decide (e.on < i)) &&
  (if i < n then
    (List.range l.length).all fun j => match l[j]? with
      | some oj => (match oj.dst with
        | some d => (!(o.looksAt l.toArray).contains d || (decide (j < i) && hasEdge o j) || decide (n ≤ j)) && (j == i || o.dst != some d)
        | none => true)
      | none => true
  else (List.range i).all fun j => ancB l 16 o j)
def okFreeS (n size : Nat) (l : List Oper) : Bool :=
  Region.noSelect l.toArray && decide (n ≤ l.length) && (l.all fun o => match o.dst with | some d => decide (d < size) | none => true) &&
    (List.range l.length).all fun i => match l[i]? with | some o => okOperS l n i o | none => true
section
variable {P : Program} {l0 : List Oper} {R : World → World → Prop} {w0 : World} {Q : Exit → Act → World → Prop}
structure OkSpecS (l : List Oper) (n size : Nat) : Prop where
  sel : ∀ (j : Nat) (o : Oper) cs b, l[j]? = some o → o.op ≠ .select cs b
  len : n ≤ l.length
  dst : ∀ (j : Nat) (o : Oper) (d : Tmp), l[j]? = some o → o.dst = some d → d < size
  edge : ∀ (i : Nat) (o : Oper), l[i]? = some o → ∀ e ∈ o.after, Region.binds .any e = true → e.on < i
  look : ∀ (i : Nat) (o : Oper) (j : Nat) (oj : Oper) (d : Tmp), i < n → l[i]? = some o → l[j]? = some oj → oj.dst = some d → d ∈ o.looksAt l.toArray → (j < i ∧ hasEdge o j = true) ∨ n ≤ j
  one : ∀ (i : Nat) (o : Oper) (j : Nat) (oj : Oper) (d : Tmp), i < n → l[i]? = some o → l[j]? = some oj → oj.dst = some d → i ≠ j → o.dst ≠ some d
  tail : ∀ (i : Nat) (o : Oper), n ≤ i → l[i]? = some o → ∀ j, j < i → ancB l 16 o j = true
theorem okFree_specS {n size : Nat} {l : List Oper} (h : okFreeS n size l = true) : OkSpecS l n size := by
  simp only [okFreeS, Bool.and_eq_true, decide_eq_true_eq, List.all_eq_true, List.mem_range] at h
  obtain ⟨⟨⟨h1, h2⟩, h3⟩, h4⟩ := h
  have at_ : ∀ i o, l[i]? = some o → okOperS l n i o = true := by
    intro i o ho
    have := h4 i (List.getElem?_eq_some_iff.1 ho).1
    rwa [ho] at this
  refine ⟨fun j o cs b hj => Region.noSelect_spec h1 j o cs b (by simpa using hj), h2, ?_, ?_, ?_, ?_, ?_⟩
  · intro j o d ho hd
    have := h3 o (List.mem_of_getElem? ho)
    simpa [hd] using this
  · intro i o ho e he hb
    have := at_ i o ho
    simp only [okOperS, Bool.and_eq_true, List.all_eq_true, Bool.or_eq_true, Bool.not_eq_true', decide_eq_true_eq] at this
    have := this.1 e (Array.mem_toList_iff.2 he)
    rcases this with h | h
    · rw [h] at hb; cases hb
    · exact h
  · intro i o j oj d hi ho hj hd hm
    have := at_ i o ho
    simp only [okOperS, Bool.and_eq_true, if_pos hi, List.all_eq_true, List.mem_range] at this
    have := this.2 j (List.getElem?_eq_some_iff.1 hj).1
    simp only [hj, hd, Bool.and_eq_true, Bool.or_eq_true, Bool.not_eq_true', decide_eq_true_eq] at this
    rcases this.1 with (h | h) | h
    · have := List.contains_iff_mem.2 hm
      rw [h] at this; cases this
    · exact .inl h
    · exact .inr h
  · intro i o j oj d hi ho hj hd hne
    have := at_ i o ho
    simp only [okOperS, Bool.and_eq_true, if_pos hi, List.all_eq_true, List.mem_range] at this
    have := this.2 j (List.getElem?_eq_some_iff.1 hj).1
    simp only [hj, hd, Bool.and_eq_true, Bool.or_eq_true, beq_iff_eq, bne_iff_ne, ne_eq] at this
    rcases this.2 with h | h
    · exact absurd h.symm hne
    · exact h
  · intro i o hi ho j hj
    have := at_ i o ho
    simp only [okOperS, Bool.and_eq_true, if_neg (Nat.not_lt.2 hi), List.all_eq_true, List.mem_range] at this
    exact this.2 j hj
/-- Where a region stands, whatever came first. -/
structure MidwayS (l : List Oper) (specs : List FSpec) (R : World → World → Prop) (w0 : World) (a0 : Act) (listed : Array Bool) (a : Act) (W : World) : Prop where
  size : listed.size = l.length
  rel : R w0 W
  defers : a.defers = a0.defers
  tsize : a.tmps.size = a0.tmps.size
  closed : ∀ (i : Nat) (o : Oper), listed.getD i false = true → l[i]? = some o → ∀ e ∈ o.after, Region.binds .any e = true → listed.getD e.on false = true
  other : ∀ (t : Tmp), (∀ (j : Nat) (o : Oper), l[j]? = some o → listed.getD j false = true → o.dst ≠ some t) → a.tmps[t]? = a0.tmps[t]?
  fact : ∀ (j : Nat) (o : Oper) (d : Tmp) (s : FSpec), listed.getD j false = true → l[j]? = some o → o.dst = some d → specs[j]? = some s → s.ok W (a.tmps.getD d undef)
  late : ∀ (j : Nat), specs.length ≤ j → listed.getD j false = false
  void : ∀ (j : Nat) (o : Oper) (s : FSpec), listed.getD j false = true → l[j]? = some o → o.dst = none → specs[j]? = some s → s.ok W undef
/-- What an operation without a slot tells does not hang on a value. -/
def VoidAll : List Oper → List FSpec → Prop
  | o :: l, s :: ss => (o.dst = none → ∀ W v, s.ok W v → s.ok W undef) ∧ VoidAll l ss
  | _, _ => True
theorem VoidAll.at_ : ∀ {l : List Oper} {ss : List FSpec} {j : Nat} {o : Oper} {s : FSpec}, VoidAll l ss → l[j]? = some o → ss[j]? = some s → o.dst = none → ∀ W v, s.ok W v → s.ok W undef
  | _ :: _, _ :: _, 0, _, _, h, h1, h2 => by
    simp at h1 h2
    subst h1 h2
    exact h.1
  | _ :: _, _ :: _, j + 1, _, _, h, h1, h2 => VoidAll.at_ (j := j) h.2 (by simpa using h1) (by simpa using h2)
  | [], _, _, _, _, _, h1, _ => by simp at h1
  | _ :: _, [], _, _, _, _, _, h2 => by simp at h2
theorem MidwayS.value {specs : List FSpec} {a0 a : Act} {listed : Array Bool} {W : World} (m : MidwayS l0 specs R w0 a0 listed a W) {j : Nat} {o : Oper} {d : Tmp} (hj : listed.getD j false = true) (ho : l0[j]? = some o) (hd : o.dst = some d) :
    a.tmps.getD d undef = valuesOf l0 specs a j := by
  have hlt : j < specs.length := by
    rcases Nat.lt_or_ge j specs.length with h | h
    · exact h
    · rw [m.late j h] at hj; cases hj
  have hs : specs[j]? = some specs[j] := List.getElem?_eq_getElem hlt
  have := m.fact j o d _ hj ho hd hs
  generalize specs[j] = s at this hs
  cases s with
  | val c => simp only [FSpec.ok] at this; simp [valuesOf, hs, this]
  | pred Φ => simp [valuesOf, hs, ho, hd]
theorem MidwayS.tmpS {specs : List FSpec} {a0 a : Act} {listed : Array Bool} {W : World} (m : MidwayS l0 specs R w0 a0 listed a W) (ok : OkSpecS l0 specs.length a0.tmps.size) (k t : Nat) (hk : k ≤ specs.length)
    (h : ∀ (j : Nat) (oj : Oper), l0[j]? = some oj → oj.dst = some t → (j < k ∧ listed.getD j false = true) ∨ specs.length ≤ j) : (frameAt a0 l0 (valuesOf l0 specs a) k).tmps[t]? = a.tmps[t]? := by
  by_cases hex : ∃ (j : Nat) (oj : Oper), l0[j]? = some oj ∧ oj.dst = some t
  · obtain ⟨j, oj, hj, hd⟩ := hex
    rcases h j oj hj hd with ⟨hjk, hlj⟩ | hge
    case inr =>
      have hfr : ∀ (i : Nat) (oi : Oper), i < specs.length → l0[i]? = some oi → oi.dst ≠ some t := fun i oi hi hoi => ok.one i oi j oj t hi hoi hj hd (by omega)
      rw [frameAt_other a0 l0 _ k t fun i oi hi hoi => hfr i oi (by omega) hoi]
      refine (m.other t fun i oi hoi hl => ?_).symm
      rcases Nat.lt_or_ge i specs.length with hi | hi
      · exact hfr i oi hi hoi
      · rw [m.late i hi] at hl; cases hl
    have ht := ok.dst j oj t hj hd
    rw [frameAt_own a0 l0 _ k t j oj hjk hj hd ht fun i o' hne ho' hd' => by
      rcases Nat.lt_or_ge i specs.length with hi | hi
      · exact ok.one i o' j oj t hi ho' hj hd hne hd'
      · exact ok.one j oj i o' t (by omega) hj ho' hd' (Ne.symm hne) hd]
    rw [← m.value hlj hj hd]
    have : t < a.tmps.size := by rw [m.tsize]; exact ht
    simp [this]
  · rw [frameAt_other a0 l0 _ k t fun j o _ ho hd => hex ⟨j, o, ho, hd⟩, m.other t fun j o ho _ hd => hex ⟨j, o, ho, hd⟩]
/-- One operation more, none of the tail. -/
theorem MidwayS.stepS {specs : List FSpec} {a0 a : Act} {listed : Array Bool} {W : World} (m : MidwayS l0 specs R w0 a0 listed a W) (ok : OkSpecS l0 specs.length a0.tmps.size) (hrf : ∀ a, R a a) (htr : ∀ a b c, R a b → R b c → R a c)
    (hst : ∀ s ∈ specs, ∀ W W' v, R W W' → s.ok W v → s.ok W' v) (hvo : VoidAll l0 specs) (h : freeSteps P l0 R w0 Q 0 specs l0 a0 []) {i : Nat} (hi : i < specs.length) (hr : i ∈ Region.ready .any l0.toArray listed) :
    wpOp P l0.toArray Q i (fun a' W' => MidwayS l0 specs R w0 a0 (listed.setIfInBounds i true) a' W') a W := by
  obtain ⟨hun, o, ho', hedge⟩ := mem_ready.1 hr
  have ho : l0[i]? = some o := by simpa using ho'
  have hil : i < l0.length := (List.getElem?_eq_some_iff.1 ho).1
  have hlt : i < listed.size := by rw [m.size]; exact hil
  have hat := steps_at h (valuesOf l0 specs a) (valuesOf_fits l0 specs a) i (by omega)
  rw [List.drop_eq_getElem_cons hi, List.drop_eq_getElem_cons hil] at hat
  have hs : specs[i]? = some specs[i] := List.getElem?_eq_getElem hi
  have hoi : l0[i] = o := by
    have := List.getElem?_eq_getElem hil
    rw [ho] at this
    exact (Option.some.inj this).symm
  rw [hoi] at hat
  have hfacts : ∀ p ∈ factsAt specs (valuesOf l0 specs a) i, leans l0 o p.1 = true → p.2.1.ok W p.2.2 := by
    intro p hp hl
    obtain ⟨h1, h2, h3⟩ := mem_factsAt hp
    unfold leans at hl
    split at hl
    · rename_i d hd
      obtain ⟨oj, hj, hdj⟩ := Option.bind_eq_some_iff.1 hd
      have hlook := (ok.look i o p.1 oj d hi ho hj hdj (List.contains_iff_mem.1 hl)).resolve_right (by omega)
      have hlj : listed.getD p.1 false = true := listed_anc (l0 := l0) m.closed 0 o p.1 hedge hlook.2
      have := m.fact p.1 oj d p.2.1 hlj hj hdj h2
      rw [h3, ← m.value hlj hj hdj]
      exact this
    · cases hl
  have hsame : ∀ t, t ∈ o.looksAt l0.toArray → (frameAt a0 l0 (valuesOf l0 specs a) i).tmps[t]? = a.tmps[t]? := by
    intro t ht
    refine m.tmpS ok i t (by omega) fun j oj hj hdj => ?_
    rcases ok.look i o j oj t hi ho hj hdj ht with hlook | hlook
    · exact .inl ⟨hlook.1, listed_anc (l0 := l0) m.closed 0 o j hedge hlook.2⟩
    · exact .inr hlook
  have hev : execOp (frameAt a0 l0 (valuesOf l0 specs a) i).eval o = execOp a.eval o := eval_of_tmps o (fun cs b => ok.sel i o cs b ho) hsame
  have hwa : Region.wanted o (yielded l0.toArray (frameAt a0 l0 (valuesOf l0 specs a) i).tmps) = Region.wanted o (yielded l0.toArray a.tmps) := wanted_of_tmps o hsame
  -- what is left to show of each value
  have next : ∀ W' v, R W W' → specs[i].ok W' v → MidwayS l0 specs R w0 a0 (listed.setIfInBounds i true) (a.put o.dst v) W' := by
    intro W' v hR hv
    refine ⟨by simpa using m.size, htr _ _ _ m.rel hR, ?_, ?_, ?_, ?_, ?_, ?_, ?_⟩
    · rw [← m.defers]; cases o.dst <;> rfl
    · rw [← m.tsize]; cases hd : o.dst <;> simp [Act.put]
    · intro j oj hj hoj e he hb
      by_cases hij : i = j
      · subst hij
        rw [ho] at hoj; cases hoj
        exact getD_set_true (hedge e he hb)
      · rw [getD_set_ne false hij] at hj
        exact getD_set_true (m.closed j oj hj hoj e he hb)
    · intro t ht
      have hne : o.dst ≠ some t := ht i o ho (by simp [hlt])
      rw [← m.other t fun j oj hoj hj => ht j oj hoj (by
        by_cases hij : i = j
        · subst hij; simp [hlt]
        · rw [getD_set_ne false hij]; exact hj)]
      cases hd : o.dst with
      | none => rfl
      | some d =>
        have : d ≠ t := fun e => hne (by rw [hd, e])
        simp [Act.put, Array.getElem?_setIfInBounds_ne this]
    · intro j oj d s hj hoj hdj hsj
      by_cases hij : i = j
      · subst hij
        rw [ho] at hoj; cases hoj
        rw [hs] at hsj; cases hsj
        have hsz : d < a.tmps.size := by rw [m.tsize]; exact ok.dst i _ d ho hdj
        simpa [Act.put, hdj, hsz] using hv
      · rw [getD_set_ne false hij] at hj
        have hf := m.fact j oj d s hj hoj hdj hsj
        have hf := hst s (List.mem_of_getElem? hsj) _ _ _ hR hf
        have hnd : o.dst ≠ some d := ok.one i o j oj d hi ho hoj hdj hij
        cases hd : o.dst with
        | none => simpa [Act.put] using hf
        | some e =>
          have : e ≠ d := fun e' => hnd (by rw [hd, e'])
          simpa [Act.put, Array.getElem?_setIfInBounds_ne this] using hf
    · intro j hj
      rw [getD_set_ne false (show i ≠ j by omega)]
      exact m.late j hj
    · intro j oj s hj hoj hdj hsj
      by_cases hij : i = j
      · subst hij
        rw [ho] at hoj; cases hoj
        rw [hs] at hsj; cases hsj
        exact hvo.at_ ho hs hdj _ _ hv
      · rw [getD_set_ne false hij] at hj
        exact hst s (List.mem_of_getElem? hsj) _ _ _ hR (m.void j oj s hj hoj hdj hsj)
  unfold wpOp
  simp only [List.getElem?_toArray, ho]
  generalize hsp : specs[i] = s at hat next
  cases s with
  | val c =>
    simp only [freeSteps] at hat
    have hone := hat.1 W m.rel (factsHold_of hfacts)
    rw [hwa, hev] at hone
    split
    · rename_i hw
      rw [if_pos hw] at hone
      refine .inl (upon_of_gives hone fun w' v hv => next _ _ hv.1 hv.2)
    · rename_i hw
      rw [if_neg hw] at hone
      exact next W undef (hrf W) hone
  | pred Φ =>
    simp only [freeSteps] at hat
    have hone := hat.1 W m.rel (factsHold_of hfacts)
    rw [hwa, hev] at hone
    split
    · rename_i hw
      rw [if_pos hw] at hone
      refine .inl (upon_of_gives hone fun w' v hv => next _ _ hv.1 hv.2)
    · rename_i hw
      rw [if_neg hw] at hone
      exact next W undef (hrf W) hone
/-- All of the front is done, and nothing else: the frame is the lexical walk's. -/
theorem MidwayS.doneS {specs : List FSpec} {a0 a : Act} {listed : Array Bool} {W : World} (m : MidwayS l0 specs R w0 a0 listed a W) (ok : OkSpecS l0 specs.length a0.tmps.size) (hall : ∀ j, j < specs.length → listed.getD j false = true) :
    a = frameAt a0 l0 (valuesOf l0 specs a) specs.length ∧ ∀ p ∈ factsAt specs (valuesOf l0 specs a) specs.length, p.2.1.ok W p.2.2 := by
  refine ⟨?_, fun p hp => ?_⟩
  · obtain ⟨tm, df⟩ := a
    have hdf := frameAt_defers a0 l0 (valuesOf l0 specs ⟨tm, df⟩) specs.length
    have htm : tm = (frameAt a0 l0 (valuesOf l0 specs ⟨tm, df⟩) specs.length).tmps := by
      refine Array.ext_getElem? fun t => ?_
      by_cases hex : ∃ (j : Nat) (oj : Oper), l0[j]? = some oj ∧ oj.dst = some t ∧ specs.length ≤ j
      · obtain ⟨j, oj, hj, hd, hge⟩ := hex
        by_cases hin : ∃ (i : Nat) (oi : Oper), l0[i]? = some oi ∧ oi.dst = some t ∧ i < specs.length
        · obtain ⟨i, oi, hi, hdi, hlt⟩ := hin
          exact absurd hdi (ok.one i oi j oj t hlt hi hj hd (by omega))
        · rw [frameAt_other a0 l0 _ _ t fun i o hi ho hd' => hin ⟨i, o, ho, hd', hi⟩]
          refine m.other t fun i o ho hl hd' => ?_
          rcases Nat.lt_or_ge i specs.length with h | h
          · exact hin ⟨i, o, ho, hd', h⟩
          · rw [m.late i h] at hl; cases hl
      · refine (m.tmpS ok specs.length t (Nat.le_refl _) fun j oj hj hd => ?_).symm
        have hlt : j < specs.length := by
          rcases Nat.lt_or_ge j specs.length with h | h
          · exact h
          · exact absurd ⟨j, oj, hj, hd, h⟩ hex
        exact .inl ⟨hlt, hall j hlt⟩
    have h1 : (frameAt a0 l0 (valuesOf l0 specs ⟨tm, df⟩) specs.length).defers = df := by rw [hdf, ← m.defers]
    generalize frameAt a0 l0 (valuesOf l0 specs ⟨tm, df⟩) specs.length = f at htm h1
    obtain ⟨ft, fd⟩ := f
    simp only at htm h1
    rw [htm, h1]
  · obtain ⟨h1, h2, h3⟩ := mem_factsAt hp
    have hil : p.1 < l0.length := by have := ok.len; omega
    have ho : l0[p.1]? = some l0[p.1] := List.getElem?_eq_getElem hil
    rw [h3]
    cases hd : l0[p.1].dst with
    | some d =>
      rw [← m.value (hall p.1 h1) ho hd]
      exact m.fact p.1 _ d _ (hall p.1 h1) ho hd h2
    | none =>
      have hv := m.void p.1 _ _ (hall p.1 h1) ho hd h2
      have he : valuesOf l0 specs a p.1 = undef ∨ ∃ c, p.2.1 = .val c := by
        cases hq : p.2.1 with
        | val c => exact .inr ⟨c, rfl⟩
        | pred Φ => exact .inl (by simp [valuesOf, h2, hq, ho, hd])
      rcases he with he | ⟨c, he⟩
      · rw [he]; exact hv
      · rw [he] at h2
        have hc : valuesOf l0 specs a p.1 = c := by simp [valuesOf, h2]
        rw [hc, he]; rfl
theorem free_anyS {specs : List FSpec} {a0 : Act} (ok : OkSpecS l0 specs.length a0.tmps.size) (hrf : ∀ a, R a a) (htr : ∀ a b c, R a b → R b c → R a c)
    (hst : ∀ s ∈ specs, ∀ W W' v, R W W' → s.ok W v → s.ok W' v) (hvo : VoidAll l0 specs) (h : freeSteps P l0 R w0 Q 0 specs l0 a0 []) :
    ∀ (fuel : Nat) (listed : Array Bool) (a : Act) (W : World), left l0 listed ≤ fuel → MidwayS l0 specs R w0 a0 listed a W → wpAny P .any l0.toArray Q fuel listed a W := by
  have fin : ∀ (listed : Array Bool) (a : Act) (W : World), MidwayS l0 specs R w0 a0 listed a W → (∀ j, j < specs.length → listed.getD j false = true) → wpList P l0.toArray Q (l0.drop specs.length) a W := by
    intro listed a W m hall
    obtain ⟨he, hf⟩ := m.doneS ok hall
    have hat := steps_at h (valuesOf l0 specs a) (valuesOf_fits l0 specs a) specs.length (Nat.le_refl _)
    rw [List.drop_length] at hat
    simp only [freeSteps] at hat
    have := hat W m.rel (factsHold_of fun p hp _ => hf p hp)
    rwa [← he] at this
  have hlst : ∀ (listed : Array Bool) (a : Act) (W : World), MidwayS l0 specs R w0 a0 listed a W → (∀ j, j < specs.length → listed.getD j false = true) → ∀ i, i < l0.length → (listed.getD i false = true ↔ i < specs.length) := by
    intro listed a W m hall i hi
    constructor
    · intro hl
      rcases Nat.lt_or_ge i specs.length with h | h
      · exact h
      · rw [m.late i h] at hl; cases hl
    · exact hall i
  intro fuel
  induction fuel with
  | zero =>
    intro listed a W hl m
    have hnone : ∀ i, i < l0.length → listed.getD i true = true := by
      intro i hi
      have h0 : ((List.range l0.length).filter fun i => !listed.getD i true) = [] := List.eq_nil_of_length_eq_zero (by unfold left at hl; omega)
      have := List.filter_eq_nil_iff.1 h0 i (List.mem_range.2 hi)
      simpa using this
    have hall : ∀ j, j < specs.length → listed.getD j false = true := by
      intro j hj
      have h1 := hnone j (by have := ok.len; omega)
      rcases listed_cases (listed := listed) (i := j) (by rw [m.size]; have := ok.len; omega) with h2 | h2
      · exact h2
      · rw [h2] at h1; cases h1
    have hn : specs.length = l0.length := by
      rcases Nat.lt_or_ge specs.length l0.length with h1 | h1
      · have h2 := hnone specs.length h1
        have h3 := m.late specs.length (Nat.le_refl _)
        rcases listed_cases (listed := listed) (i := specs.length) (by rw [m.size]; exact h1) with h4 | h4
        · rw [h4] at h3; cases h3
        · rw [h4] at h2; cases h2
      · have := ok.len; omega
    exact tail_forced ok.tail 0 specs.length listed a W 0 (Nat.le_refl _) hn (Nat.le_refl _) m.size m.closed (hlst _ _ _ m hall) ok.edge (fin _ _ _ m hall)
  | succ fuel ih =>
    intro listed a W hl m
    by_cases hall : ∀ j, j < specs.length → listed.getD j false = true
    · refine tail_forced ok.tail (l0.length - specs.length) specs.length listed a W (fuel + 1) (Nat.le_refl _) (by have := ok.len; omega) ?_ m.size m.closed (hlst _ _ _ m hall) ok.edge (fin _ _ _ m hall)
      have := left_ge (l := l0) (listed := listed) (n := specs.length) fun i h1 h2 => by
        have := m.late i h1
        have hlt : i < listed.size := by rw [m.size]; exact h2
        simpa [hlt] using this
      omega
    · refine ⟨fun h0 => ?_, fun i hi => ?_⟩
      · refine absurd (fun j => ?_) hall
        induction j using Nat.strongRecOn with
        | _ j ihj =>
          intro hj
          have hjl : j < l0.length := by have := ok.len; omega
          have hoj : l0[j]? = some l0[j] := List.getElem?_eq_getElem hjl
          rcases listed_cases (listed := listed) (i := j) (by rw [m.size]; exact hjl) with h1 | h1
          · exact h1
          · have hm : j ∈ Region.ready .any l0.toArray listed := mem_ready.2 ⟨h1, l0[j], by simp [hjl], fun e he hb => by
              have := ok.edge j _ hoj e he hb
              exact ihj e.on this (by omega)⟩
            rw [h0] at hm
            cases hm
      · obtain ⟨hun, o, ho', hedge⟩ := mem_ready.1 hi
        have hil : i < l0.length := by have := lt_of_unlisted hun; rw [m.size] at this; exact this
        have hn : i < specs.length := by
          rcases Nat.lt_or_ge i specs.length with h1 | h1
          · exact h1
          · exact absurd (fun j hj => listed_anc m.closed 16 o j hedge (ok.tail i o h1 (by simpa using ho') j (by omega))) hall
        exact wpOp_mono (fun a' W' m' => ih _ a' W' (by have := left_set hil hun; omega) m') (m.stepS ok hrf htr hst hvo h hn hi)
theorem region_freeS {id : Nat} {l : List Oper} {a : Act} {w : World} (R : World → World → Prop) (specs : List FSpec) (hm : P.follows .mixedOrders = true) (hok : okFreeS specs.length a.tmps.size l = true)
    (hrf : ∀ a, R a a) (htr : ∀ a b c, R a b → R b c → R a c) (hdr : ∀ a, R a a.drew) (hst : ∀ s ∈ specs, ∀ W W' v, R W W' → s.ok W v → s.ok W' v) (hvo : VoidAll l specs)
    (h : freeSteps P l R w Q 0 specs l a []) : (Code.region id l.toArray true).wp P Q a w := by
  refine wp_region_any hm ?_
  have hsz : l.toArray.size = l.length := by simp
  have hget : ∀ i : Nat, (Array.replicate l.toArray.size false).getD i false = false := by
    intro i
    rw [Array.getD_eq_getD_getElem?, Array.getElem?_replicate]
    split <;> rfl
  refine free_anyS (okFree_specS hok) hrf htr hst hvo h _ _ _ _ ?_ ⟨by simp, hdr w, rfl, rfl, ?_, ?_, ?_, ?_, ?_⟩
  · unfold left
    refine Nat.le_trans (List.length_filter_le _ _) ?_
    simp
  · intro i o hi
    rw [hget] at hi; cases hi
  · intro t _; rfl
  · intro j o d s hj
    rw [hget] at hj; cases hj
  · intro j _
    exact hget j
  · intro j o s hj
    rw [hget] at hj; cases hj
end
/-- Nothing below has changed but one row, and that has its new cells. -/
structure StR (g : Nat) (new : Array Value) (T : TypeId) (w w' : World) : Prop where
  os : w'.os = w.os
  tape : w'.tape = w.tape
  output : w'.output = w.output
  size : w.heap.size ≤ w'.heap.size
  block : ∀ k, k < w.heap.size → k ≠ g → w'.heap[k]? = w.heap[k]?
  row : w'.heap[g]? = w.heap[g]? ∨ w'.heap[g]? = some (.cells new T (0, 0)) ∨ w.heap.size ≤ g
theorem StR.of_ext {g : Nat} {new : Array Value} {T : TypeId} {w w' : World} (e : Ext w w') : StR g new T w w' :=
  ⟨e.os, e.tape, e.output, e.size, fun k h _ => e.block k h, by
    rcases Nat.lt_or_ge g w.heap.size with h | h
    · exact .inl (e.block g h)
    · exact .inr (.inr h)⟩
theorem StR.refl (g : Nat) (new : Array Value) (T : TypeId) (w : World) : StR g new T w w := .of_ext (Ext.refl w)
theorem StR.trans {g : Nat} {new : Array Value} {T : TypeId} {a b c : World} (h : StR g new T a b) (k : StR g new T b c) : StR g new T a c := by
  refine ⟨k.os.trans h.os, k.tape.trans h.tape, k.output.trans h.output, Nat.le_trans h.size k.size, fun i hi hn => (k.block i (Nat.lt_of_lt_of_le hi h.size) hn).trans (h.block i hi hn), ?_⟩
  rcases k.row with e | e | e
  · rcases h.row with f | f | f
    · exact .inl (e.trans f)
    · exact .inr (.inl (e.trans f))
    · exact .inr (.inr f)
  · exact .inr (.inl e)
  · exact .inr (.inr (Nat.le_trans h.size e))
theorem StR.blk {g k : Nat} {new : Array Value} {T : TypeId} {w w' : World} {o : Obj} (h : StR g new T w w') (hk : w.heap[k]? = some o) (hne : k ≠ g) : w'.heap[k]? = some o :=
  (h.block k (Array.getElem?_eq_some_iff.1 hk).1 hne).trans hk
theorem StR.cell {g : Nat} {new : Array Value} {T : TypeId} {w w' : World} (h : StR g new T w w') {a : Addr} {v : Value} (hc : w.cell? a = some v) (hne : a.block ≠ g) : w'.cell? a = some v :=
  (World.cell?_of_block (h.block a.block (World.block_lt_of_cell? w a hc) hne)).trans hc
/-- The row has cells of its type, old or new. -/
theorem StR.has {g : Nat} {new old : Array Value} {T : TypeId} {w w' : World} (h : StR g new T w w') (ho : w.heap[g]? = some (.cells old T (0, 0))) : ∃ cs, w'.heap[g]? = some (.cells cs T (0, 0)) ∧ (cs = old ∨ cs = new) := by
  rcases h.row with e | e | e
  · exact ⟨old, e.trans ho, .inl rfl⟩
  · exact ⟨new, e, .inr rfl⟩
  · have := (Array.getElem?_eq_some_iff.1 ho).1
    omega
theorem StR.set {g : Nat} {new old : Array Value} {T : TypeId} {w : World} (ho : w.heap[g]? = some (.cells old T (0, 0))) : StR g new T w (w.setRow g new) := by
  refine ⟨rfl, rfl, rfl, by simp, fun k _ hne => setRow_other _ _ _ _ hne, .inr (.inl (setRow_heap _ _ _ _ _ _ ho))⟩
theorem StR.ext {g : Nat} {new : Array Value} {T : TypeId} {b w w' : World} (hb : Ext b w) (h : StR g new T w w') (hg : b.heap.size ≤ g) : Ext b w' :=
  ⟨h.os.trans hb.os, h.tape.trans hb.tape, h.output.trans hb.output, Nat.le_trans hb.size h.size, fun k hk => (h.block k (Nat.lt_of_lt_of_le hk hb.size) (by omega)).trans (hb.block k hk)⟩
theorem region_row {id : Nat} {l : List Oper} {a : Act} {w : World} {Q : Exit → Act → World → Prop} (g : Nat) (new : Array Value) (T : TypeId) (specs : List FSpec) (hok : okFreeS specs.length a.tmps.size l = true) (hst : StableAll (StR g new T) specs) (hvo : VoidAll l specs)
    (h : freeSteps Tryz.prog l (StR g new T) w Q 0 specs l a []) : (Code.region id l.toArray true).wp Tryz.prog Q a w :=
  region_freeS (StR g new T) specs mixed hok (StR.refl g new T) (fun _ _ _ => StR.trans) (fun w => .of_ext ((Ext.refl w).dr)) (stableAll_mem hst) hvo h
/-- The store's word: the row has its new cells. -/
def RowNew (g : Nat) (new : Array Value) (T : TypeId) (W : World) (_ : Value) : Prop := W.heap[g]? = some (.cells new T (0, 0))
theorem st_rowNew {g : Nat} {new : Array Value} {T : TypeId} {ss : List FSpec} (h : StableAll (StR g new T) ss) : StableAll (StR g new T) (.pred (RowNew g new T) :: ss) :=
  ⟨fun W W' _ e (k : W.heap[g]? = _) => by
    show W'.heap[g]? = _
    obtain ⟨cs, h1, h2⟩ := e.has k
    rcases h2 with rfl | rfl <;> exact h1, h⟩
end Go.Proofs.YtplhndmncjoghaaGreatDoor
namespace Go.Proofs.YtplhndmncjoghaaGreatDoor
set_option maxRecDepth 100000
open Go Go.RowKit Go.Proofs
/-- Where a walk stands. -/
inductive Tok : Nat → Prop
  | mk (n : Nat) : Tok n
theorem lt_of_blk {w : World} {k : Nat} {o : Obj} (h : w.heap[k]? = some o) : k < w.heap.size := (Array.getElem?_eq_some_iff.1 h).1
theorem TwG.str {w w' : World} {g k T : Nat} {l : List Nat} {new : Array Value} (h : TwG w g l) (e : StR k new T w w') (hne : g ≠ k) : TwG w' g l := ⟨h.1, e.blk h.2 hne⟩
theorem fr_store_row {P : Program} {S : World → Value → Prop} {o : Oper} {a : Act} {W : World} {X : Prop} {c : Prop} {ic : Decidable c} {ty : TypeId} {x y : Operand} {g : Nat} {t : TypeId} {old new : Array Value} (hw : c) (ho : o.op = .store ty x y)
    (hx : a.eval x = .pointer (some ⟨g, 0, none⟩)) (hy : a.eval y = .agg new) (hg : W.heap[g]? = some (.cells old t (0, 0))) (hi : (P.info? ty).map (·.size) = some new.size) (hs : old.size = new.size) (hc : new.all (·.oneCell') = true)
    (h : S (W.setRow g new) undef) : if c then givesV P S ((execOp a.eval o).run P W) else X := by
  rw [if_pos hw]
  unfold execOp
  simp only [ho, hx, hy, Instr.storeAt, Instr.sureAddr, Sem.run_bind, Sem.run_pure, Result.andThen_ok, run_storeVar_row W g t ty old new hg hi hs hc]
  exact h
theorem fr_store_str {P : Program} {S : World → Value → Prop} {o : Oper} {a : Act} {W wB : World} {X : Prop} {c : Prop} {ic : Decidable c} {ty : TypeId} {x y : Operand} {g : Nat} {t : TypeId} {old new : Array Value} (hw : c) (ho : o.op = .store ty x y)
    (hx : a.eval x = .pointer (some ⟨g, 0, none⟩)) (hy : a.eval y = .agg new) (hB : wB.heap[g]? = some (.cells old t (0, 0))) (hW : StR g new t wB W) (hi : (P.info? ty).map (·.size) = some new.size) (hs : old.size = new.size) (hc : new.all (·.oneCell') = true)
    (h : ∀ W', StR g new t W W' → RowNew g new t W' undef → S W' undef) : if c then givesV P S ((execOp a.eval o).run P W) else X := by
  obtain ⟨cs, hg, hcs⟩ := hW.has hB
  refine fr_store_row hw ho hx hy hg hi (by rcases hcs with rfl | rfl; exact hs; rfl) hc (h _ (StR.set hg) (setRow_heap _ _ _ _ _ _ hg))
theorem sameParts_nil (w : World) : Calls Tryz.prog 26 #[.slice none 0 0, .slice none 0 0] w fun e w' => e = .returned (.bool true) ∧ Ext w w' := by
  go_enter Tryz.func26, Tryz.ntmps26
  go_wp2_with fail
  refine wp_loop_rounds 1 ?_
  rw [rounds_succ]
  go_wp2_with fail
  go_ret
  exact ⟨rfl, Ext.refl _⟩
set_option maxHeartbeats 3200000 in
theorem asked_text (c : Value) (w : World) (h : GoneP w c) (v0 v1 v2 v3 v4 v5 v6 v7 v8 v9 v10 : Value) (nm : ByteArray) (u0 u1 u2 u3 : Value) :
    Calls Tryz.prog 5 #[c, .agg #[.bool true, .slice none 0 0], .agg #[.int .u8 4, v0, v1, v2, v3, v4, v5, v6, v7, v8, v9, v10, .string nm, u0, u1, u2, u3]] w fun e w' => e = .returned (.tuple #[.agg #[.bool true, .slice none 0 0], .bool true]) ∧ Ext w w' := by
  obtain ⟨wb, hwb⟩ : ∃ wb, wb = ((w.alloc (.cells #[.bool true, .slice none 0 0] 39)).alloc (.cells #[.int .u8 4, v0, v1, v2, v3, v4, v5, v6, v7, v8, v9, v10, .string nm, u0, u1, u2, u3] 33)).alloc (.cells #[.bool false, .slice none 0 0] 39) := ⟨_, rfl⟩
  have hE : Ext w wb := by rw [hwb]; exact (((Ext.refl w).al _).al _).al _
  have zR : wb.heap[w.heap.size]? = some (.cells #[.bool true, .slice none 0 0] 39 (0, 0)) := by rw [hwb]; exact ((Ext.refl _).al _).blk ((heap_alloc_old _ _ (by simp)).trans (heap_alloc_new _ _))
  have zO : wb.heap[w.heap.size + 1]? = some (.cells #[.int .u8 4, v0, v1, v2, v3, v4, v5, v6, v7, v8, v9, v10, .string nm, u0, u1, u2, u3] 33 (0, 0)) := by rw [hwb]; exact (heap_alloc_old _ _ (by simp)).trans (heap_at _ _ _ (by simp))
  have zB : wb.heap[w.heap.size + 2]? = some (.cells #[.bool false, .slice none 0 0] 39 (0, 0)) := by rw [hwb]; exact heap_at _ _ _ (by simp)
  replace zR := mkHid zR
  replace zO := mkHid zO
  replace zB := mkHid zB
  replace hE := mkHid hE
  replace hwb := mkHid hwb
  have h := mkHid (fun W (e : Ext w W) => h.ext e)
  go_enter Tryz.func5, Tryz.ntmps5
  have tok : Tok 0 := .mk _
  go_wp2_with (first
    | ((have _t : Tok 0 := tok); clear _t; clear tok; (have tok : Tok 1 := .mk _); go_at_call 24; rw [← hwb.out]; refine (text_g c _ (h.out _ hE.out)).mono ?_; rintro e wc1 ⟨rfl, hx⟩; replace zR := mkHid (hx.blk zR.out); replace zO := mkHid (hx.blk zO.out); replace zB := mkHid (hx.blk zB.out); replace hE := mkHid (hE.out.trans hx); clear hx)
    | ((have _t : Tok 1 := tok); clear _t; clear tok; (have tok : Tok 2 := .mk _); refine wpList_load_row (by rfl) 39 (.tmp 4) rfl (w.heap.size) rfl 39 #[.bool true, .slice none 0 0] (0, 0) _ zR.out Tryz.underlying39 rfl (by kernel_rfl) ?_)
    | ((have _t : Tok 2 := tok); clear _t; clear tok; (have tok : Tok 3 := .mk _); go_at_call 25; refine (rtext_g _).mono ?_; rintro e wc2 ⟨rfl, hx⟩; replace zR := mkHid (hx.blk zR.out); replace zO := mkHid (hx.blk zO.out); replace zB := mkHid (hx.blk zB.out); replace hE := mkHid (hE.out.trans hx); clear hx)
    | ((have _t : Tok 3 := tok); clear _t; clear tok; (have tok : Tok 4 := .mk _); refine wpList_load_row (by rfl) 39 (.tmp 4) rfl (w.heap.size) rfl 39 #[.bool true, .slice none 0 0] (0, 0) _ zR.out Tryz.underlying39 rfl (by kernel_rfl) ?_)
    | ((have _t : Tok 4 := tok); clear _t; clear tok; (have tok : Tok 5 := .mk _); refine wpList_store_row rfl 39 (.tmp 6) (.tmp 147) rfl (w.heap.size + 2) #[.bool true, .slice none 0 0] rfl rfl 39 _ zB.out (by kernel_rfl) rfl (by kernel_rfl) ?_))
  exact bodyPost_ret (results_row_tmp rfl _ _ (w.heap.size + 2) 39 #[.bool true, .slice none 0 0] _ _ rfl rfl (setRow_heap _ _ _ _ _ _ zB.out) Tryz.underlying39 rfl (by kernel_rfl)) rfl ⟨rfl, hE.out.row (show w.heap.size ≤ w.heap.size + 2 by omega) _⟩
set_option maxHeartbeats 6400000 in
theorem asked_get (c : Value) (w : World) (h : GoneP w c) (v0 v1 v2 v3 v4 v5 v6 v7 v8 v9 v10 : Value) (nm : ByteArray) (u0 u1 u2 u3 : Value) :
    Calls Tryz.prog 5 #[c, .agg #[.bool true, .slice none 0 0], .agg #[.int .u8 2, v0, v1, v2, v3, v4, v5, v6, v7, v8, v9, v10, .string nm, u0, u1, u2, u3]] w fun e w' => e = .returned (.tuple #[.agg #[.bool true, .slice none 0 0], .bool true]) ∧ Ext w w' := by
  obtain ⟨wb, hwb⟩ : ∃ wb, wb = ((w.alloc (.cells #[.bool true, .slice none 0 0] 39)).alloc (.cells #[.int .u8 2, v0, v1, v2, v3, v4, v5, v6, v7, v8, v9, v10, .string nm, u0, u1, u2, u3] 33)).alloc (.cells #[.bool false, .slice none 0 0] 39) := ⟨_, rfl⟩
  have hE : Ext w wb := by rw [hwb]; exact (((Ext.refl w).al _).al _).al _
  have zR : wb.heap[w.heap.size]? = some (.cells #[.bool true, .slice none 0 0] 39 (0, 0)) := by rw [hwb]; exact ((Ext.refl _).al _).blk ((heap_alloc_old _ _ (by simp)).trans (heap_alloc_new _ _))
  have zO : wb.heap[w.heap.size + 1]? = some (.cells #[.int .u8 2, v0, v1, v2, v3, v4, v5, v6, v7, v8, v9, v10, .string nm, u0, u1, u2, u3] 33 (0, 0)) := by rw [hwb]; exact (heap_alloc_old _ _ (by simp)).trans (heap_at _ _ _ (by simp))
  have zB : wb.heap[w.heap.size + 2]? = some (.cells #[.bool false, .slice none 0 0] 39 (0, 0)) := by rw [hwb]; exact heap_at _ _ _ (by simp)
  replace zR := mkHid zR
  replace zO := mkHid zO
  replace zB := mkHid zB
  replace hE := mkHid hE
  replace hwb := mkHid hwb
  have h := mkHid (fun W (e : Ext w W) => h.ext e)
  go_enter Tryz.func5, Tryz.ntmps5
  have tok : Tok 6 := .mk _
  go_wp2_with (first
    | ((have _t : Tok 6 := tok); clear _t; clear tok; (have tok : Tok 7 := .mk _); go_at_call 17; rw [← hwb.out]; refine (get_g nm c _ (h.out _ hE.out)).mono ?_; rintro e wc1 ⟨rfl, hx⟩; replace zR := mkHid (hx.blk zR.out); replace zO := mkHid (hx.blk zO.out); replace zB := mkHid (hx.blk zB.out); replace hE := mkHid (hE.out.trans hx); clear hx)
    | ((have _t : Tok 7 := tok); clear _t; clear tok; (have tok : Tok 8 := .mk _); (have hl_zP := mkHid (lt_of_blk zB.out)); (obtain ⟨wa2, ha2⟩ : ∃ W, W = wc1.alloc (.cells #[.string ⟨#[]⟩, .int .u8 0, .bool false, .slice none 0 0, .bool false, .slice none 0 0, .bool false, .slice none 0 0, .bool false, .slice none 0 0, .int .i64 0] 31) := ⟨_, rfl⟩); rw [← ha2]; (have hx : Ext wc1 wa2 := by rw [ha2]; exact (Ext.refl _).al _); replace zR := mkHid (hx.blk zR.out); replace zO := mkHid (hx.blk zO.out); replace zB := mkHid (hx.blk zB.out); replace hE := mkHid (hE.out.trans hx); (have zP := mkHid (show wa2.heap[wc1.heap.size]? = some (.cells #[.string ⟨#[]⟩, .int .u8 0, .bool false, .slice none 0 0, .bool false, .slice none 0 0, .bool false, .slice none 0 0, .bool false, .slice none 0 0, .int .i64 0] 31 (0, 0)) by rw [ha2]; exact heap_alloc_new _ _)); clear hx; replace ha2 := mkHid ha2; (have y12 := row16_cells zO.out 12); refine wpList_load_row (by rfl) 39 (.tmp 4) rfl (w.heap.size) rfl 39 #[.bool true, .slice none 0 0] (0, 0) _ zR.out Tryz.underlying39 rfl (by kernel_rfl) ?_)
    | ((have _t : Tok 8 := tok); clear _t; clear tok; (have tok : Tok 9 := .mk _); go_at_call 18; refine (rget_g nm _).mono ?_; rintro e wc3 ⟨rfl, hx⟩; replace zR := mkHid (hx.blk zR.out); replace zO := mkHid (hx.blk zO.out); replace zB := mkHid (hx.blk zB.out); replace zP := mkHid (hx.blk zP.out); replace hE := mkHid (hE.out.trans hx); clear hx y12))
  (have hl_zQ := mkHid (lt_of_blk zB.out)); (obtain ⟨wa4, ha4⟩ : ∃ W, W = wc3.alloc (.cells #[.string ⟨#[]⟩, .int .u8 0, .bool false, .slice none 0 0, .bool false, .slice none 0 0, .bool false, .slice none 0 0, .bool false, .slice none 0 0, .int .i64 0] 31) := ⟨_, rfl⟩); rw [← ha4]; (have hx : Ext wc3 wa4 := by rw [ha4]; exact (Ext.refl _).al _); replace zR := mkHid (hx.blk zR.out); replace zO := mkHid (hx.blk zO.out); replace zB := mkHid (hx.blk zB.out); replace zP := mkHid (hx.blk zP.out); replace hE := mkHid (hE.out.trans hx); (have zQ := mkHid (show wa4.heap[wc3.heap.size]? = some (.cells #[.string ⟨#[]⟩, .int .u8 0, .bool false, .slice none 0 0, .bool false, .slice none 0 0, .bool false, .slice none 0 0, .bool false, .slice none 0 0, .int .i64 0] 31 (0, 0)) by rw [ha4]; exact heap_alloc_new _ _)); clear hx; replace ha4 := mkHid ha4
  have hEw := hE.out
  have hn_zP := hl_zP.out
  have hn_zQ := hl_zQ.out
  apply region_row (w.heap.size + 2) #[.bool true, .slice none 0 0] 39 [.val (.agg #[.bool true, .slice none 0 0]), .val (.bool false), .val (.bool false), .val (.bool true), .val (.bool true), .val (.agg #[.string ⟨#[]⟩, .int .u8 0, .bool false, .slice none 0 0, .bool false, .slice none 0 0, .bool false, .slice none 0 0, .bool false, .slice none 0 0, .int .i64 0]), .val (.agg #[.string ⟨#[]⟩, .int .u8 0, .bool false, .slice none 0 0, .bool false, .slice none 0 0, .bool false, .slice none 0 0, .bool false, .slice none 0 0, .int .i64 0]), .val (.bool true), .val (.bool true), .pred (RowNew (w.heap.size + 2) #[.bool true, .slice none 0 0] 39), .val (.bool true)]
  case hok => kernel_rfl
  case hst => exact (stable_vals _ (stable_vals _ (stable_vals _ (stable_vals _ (stable_vals _ (stable_vals _ (stable_vals _ (stable_vals _ (stable_vals _ (st_rowNew (stable_vals _ trivial)))))))))))
  case hvo =>
    iterate 9 (refine ⟨(by intro h; cases h), ?_⟩)
    refine ⟨(by intro _ W v h; exact h), ?_⟩
    exact ⟨(by intro h; cases h), trivial⟩
  refine ⟨?ld1, ?_⟩
  case ld1 =>
    intro W hW hF
    have hr := hW.blk zR.out (by omega)
    with_reducible refine fr_load ?zhw 39 (.tmp 4) ?zho (w.heap.size) ?zhx 39 #[.bool true, .slice none 0 0] (0, 0) _ hr Tryz.underlying39 ?zhd ?zhi ?zh
    case zhw => kernel_rfl
    case zho => rfl
    case zhx => kernel_rfl
    case zhd => rfl
    case zhi => kernel_rfl
    case zh => exact ⟨StR.refl _ _ _ _, rfl⟩
  iterate 4 (refine ⟨fun W hW _ => by go_simp; first | exact ⟨StR.refl _ _ _ _, rfl⟩ | exact StR.refl _ _ _ _ | rfl, ?_⟩)
  refine ⟨?ld2, ?_⟩
  case ld2 =>
    intro W hW hF
    have hr := hW.blk zP.out (by omega)
    with_reducible refine fr_load ?zhw 31 (.tmp 15) ?zho (wc1.heap.size) ?zhx 31 #[.string ⟨#[]⟩, .int .u8 0, .bool false, .slice none 0 0, .bool false, .slice none 0 0, .bool false, .slice none 0 0, .bool false, .slice none 0 0, .int .i64 0] (0, 0) _ hr Tryz.underlying31 ?zhd ?zhi ?zh
    case zhw => kernel_rfl
    case zho => rfl
    case zhx => kernel_rfl
    case zhd => rfl
    case zhi => kernel_rfl
    case zh => exact ⟨StR.refl _ _ _ _, rfl⟩
  refine ⟨?ld3, ?_⟩
  case ld3 =>
    intro W hW hF
    have hr := hW.blk zQ.out (by omega)
    with_reducible refine fr_load ?zhw 31 (.tmp 17) ?zho (wc3.heap.size) ?zhx 31 #[.string ⟨#[]⟩, .int .u8 0, .bool false, .slice none 0 0, .bool false, .slice none 0 0, .bool false, .slice none 0 0, .bool false, .slice none 0 0, .int .i64 0] (0, 0) _ hr Tryz.underlying31 ?zhd ?zhi ?zh
    case zhw => kernel_rfl
    case zho => rfl
    case zhx => kernel_rfl
    case zhd => rfl
    case zhi => kernel_rfl
    case zh => exact ⟨StR.refl _ _ _ _, rfl⟩
  refine ⟨fun W hW _ => ?sp, ?_⟩
  case sp =>
    have hEW := StR.ext hEw hW (by omega)
    go_simp
    refine (samePart_l ⟨#[]⟩ ⟨#[]⟩ 0 0 0 0 false none [] 0 false none [] 0 false none [] 0 false none [] 0 false none [] 0 false none [] 0 false none [] 0 false none [] 0 W (RawL.zero W) (RawL.zero W) (RawL.zero W) (RawL.zero W)).mono ?_
    rintro e w' ⟨rfl, hx⟩
    exact ⟨by simp [eqI], StR.of_ext hx⟩
  iterate 1 (refine ⟨fun W hW _ => by go_simp; first | exact ⟨StR.refl _ _ _ _, rfl⟩ | exact StR.refl _ _ _ _ | rfl, ?_⟩)
  refine ⟨?st, fun _ => ⟨fun W hW _ => by go_simp; first | exact ⟨StR.refl _ _ _ _, rfl⟩ | exact StR.refl _ _ _ _, ?_⟩⟩
  case st =>
    intro W hW hF
    with_reducible refine fr_store_str (ty := 39) (x := .tmp 6) (y := .tmp 93) (g := w.heap.size + 2) (t := 39) (new := #[.bool true, .slice none 0 0]) ?zhw ?zho ?zhx ?zhy zB.out hW ?zhi ?zhs ?zhc ?zh
    case zhw => kernel_rfl
    case zho => rfl
    case zhx => kernel_rfl
    case zhy => kernel_rfl
    case zhi => kernel_rfl
    case zhs => rfl
    case zhc => kernel_rfl
    case zh => exact fun _ h1 h2 => ⟨h1, h2⟩
  intro W hW hF
  have hr : W.heap[w.heap.size + 2]? = some (.cells #[.bool true, .slice none 0 0] 39 (0, 0)) := hF.1 rfl
  have hEW := mkHid (StR.ext hEw hW (by omega))
  clear hF hW hEw
  go_simp
  go_wp2_with fail
  exact bodyPost_ret (results_row_tmp rfl _ _ (w.heap.size + 2) 39 #[.bool true, .slice none 0 0] _ _ rfl rfl hr Tryz.underlying39 rfl (by kernel_rfl)) rfl ⟨rfl, hEW.out⟩
set_option maxHeartbeats 6400000 in
theorem asked_all (c : Value) (w : World) (h : GoneP w c) (kd : Int) (v0 v1 v2 v3 v4 v5 v6 v7 v8 v9 v10 : Value) (nm : ByteArray) (u0 u1 u2 u3 : Value) (d0 : (kd == 0) = false) (d1 : (kd == 1) = false) (d2 : (kd == 2) = false) (d3 : (kd == 3) = false) (d4 : (kd == 4) = false) :
    Calls Tryz.prog 5 #[c, .agg #[.bool true, .slice none 0 0], .agg #[.int .u8 kd, v0, v1, v2, v3, v4, v5, v6, v7, v8, v9, v10, .string nm, u0, u1, u2, u3]] w fun e w' => e = .returned (.tuple #[.agg #[.bool true, .slice none 0 0], .bool true]) ∧ Ext w w' := by
  obtain ⟨wb, hwb⟩ : ∃ wb, wb = ((w.alloc (.cells #[.bool true, .slice none 0 0] 39)).alloc (.cells #[.int .u8 kd, v0, v1, v2, v3, v4, v5, v6, v7, v8, v9, v10, .string nm, u0, u1, u2, u3] 33)).alloc (.cells #[.bool false, .slice none 0 0] 39) := ⟨_, rfl⟩
  have hE : Ext w wb := by rw [hwb]; exact (((Ext.refl w).al _).al _).al _
  have zR : wb.heap[w.heap.size]? = some (.cells #[.bool true, .slice none 0 0] 39 (0, 0)) := by rw [hwb]; exact ((Ext.refl _).al _).blk ((heap_alloc_old _ _ (by simp)).trans (heap_alloc_new _ _))
  have zO : wb.heap[w.heap.size + 1]? = some (.cells #[.int .u8 kd, v0, v1, v2, v3, v4, v5, v6, v7, v8, v9, v10, .string nm, u0, u1, u2, u3] 33 (0, 0)) := by rw [hwb]; exact (heap_alloc_old _ _ (by simp)).trans (heap_at _ _ _ (by simp))
  have zB : wb.heap[w.heap.size + 2]? = some (.cells #[.bool false, .slice none 0 0] 39 (0, 0)) := by rw [hwb]; exact heap_at _ _ _ (by simp)
  replace zR := mkHid zR
  replace zO := mkHid zO
  replace zB := mkHid zB
  replace hE := mkHid hE
  replace hwb := mkHid hwb
  have h := mkHid (fun W (e : Ext w W) => h.ext e)
  go_enter Tryz.func5, Tryz.ntmps5
  go_wp2_with fail
  rw [← hwb.out]
  have hEw := hE.out
  apply region_row (w.heap.size + 2) #[.bool true, .slice none 0 0] 39 [.val (.agg #[.bool true, .slice none 0 0]), .val (c), .val (.slice none 0 0), .val (.pointer (some ⟨w.heap.size, 1, none⟩)), .val (.slice none 0 0), .val (.bool true), .pred (RowNew (w.heap.size + 2) #[.bool true, .slice none 0 0] 39), .val (.bool true)]
  case hok => kernel_rfl
  case hst => exact (stable_vals _ (stable_vals _ (stable_vals _ (stable_vals _ (stable_vals _ (stable_vals _ (st_rowNew (stable_vals _ trivial))))))))
  case hvo =>
    iterate 6 (refine ⟨(by intro h; cases h), ?_⟩)
    refine ⟨(by intro _ W v h; exact h), ?_⟩
    exact ⟨(by intro h; cases h), trivial⟩
  refine ⟨?ld4, ?_⟩
  case ld4 =>
    intro W hW hF
    have hr := hW.blk zR.out (by omega)
    with_reducible refine fr_load ?zhw 39 (.tmp 4) ?zho (w.heap.size) ?zhx 39 #[.bool true, .slice none 0 0] (0, 0) _ hr Tryz.underlying39 ?zhd ?zhi ?zh
    case zhw => kernel_rfl
    case zho => rfl
    case zhx => kernel_rfl
    case zhd => rfl
    case zhi => kernel_rfl
    case zh => exact ⟨StR.refl _ _ _ _, rfl⟩
  iterate 1 (refine ⟨fun W hW _ => by go_simp; first | exact ⟨StR.refl _ _ _ _, rfl⟩ | exact StR.refl _ _ _ _ | rfl, ?_⟩)
  refine ⟨fun W hW _ => ?sa, ?_⟩
  case sa =>
    have hEW := StR.ext hEw hW (by omega)
    go_simp
    refine (all_g c W (h.out _ hEW)).mono ?_
    rintro e w' ⟨rfl, hx⟩
    exact ⟨rfl, StR.of_ext hx⟩
  iterate 1 (refine ⟨fun W hW _ => by go_simp; first | exact ⟨StR.refl _ _ _ _, rfl⟩ | exact StR.refl _ _ _ _ | rfl, ?_⟩)
  refine ⟨fun W hW _ => ?cl, ?_⟩
  case cl =>
    have hc : W.cell? ⟨w.heap.size, 1, none⟩ = some (.slice none 0 0) := row16_cells (hW.blk zR.out (by omega)) 1
    go_simp
    first | exact ⟨StR.refl _ _ _ _, rfl⟩ | exact StR.refl _ _ _ _
  refine ⟨fun W hW _ => ?sn, ?_⟩
  case sn =>
    have hEW := StR.ext hEw hW (by omega)
    go_simp
    refine (sameParts_nil W).mono ?_
    rintro e w' ⟨rfl, hx⟩
    exact ⟨rfl, StR.of_ext hx⟩
  refine ⟨?st, fun _ => ⟨fun W hW _ => by go_simp; first | exact ⟨StR.refl _ _ _ _, rfl⟩ | exact StR.refl _ _ _ _, ?_⟩⟩
  case st =>
    intro W hW hF
    with_reducible refine fr_store_str (ty := 39) (x := .tmp 6) (y := .tmp 156) (g := w.heap.size + 2) (t := 39) (new := #[.bool true, .slice none 0 0]) ?zhw ?zho ?zhx ?zhy zB.out hW ?zhi ?zhs ?zhc ?zh
    case zhw => kernel_rfl
    case zho => rfl
    case zhx => kernel_rfl
    case zhy => kernel_rfl
    case zhi => kernel_rfl
    case zhs => rfl
    case zhc => kernel_rfl
    case zh => exact fun _ h1 h2 => ⟨h1, h2⟩
  intro W hW hF
  have hr : W.heap[w.heap.size + 2]? = some (.cells #[.bool true, .slice none 0 0] 39 (0, 0)) := hF.1 rfl
  have hEW := mkHid (StR.ext hEw hW (by omega))
  clear hF hW hEw
  go_simp
  go_wp2_with fail
  exact bodyPost_ret (results_row_tmp rfl _ _ (w.heap.size + 2) 39 #[.bool true, .slice none 0 0] _ _ rfl rfl hr Tryz.underlying39 rfl (by kernel_rfl)) rfl ⟨rfl, hEW.out⟩
set_option maxHeartbeats 6400000 in
theorem asked_near (c : Value) (w : World) (h : GoneP w c) (v0 v1 v2 v3 v4 v5 v6 v7 v8 v9 v10 : Value) (nm : ByteArray) (b1 : Bool) (a1 : Option Addr) (n1 c1 : Nat) (b2 : Bool) (a2 : Option Addr) (n2 c2 : Nat) (l1 l2 : List Nat) (k1 : l1.length ≤ 4294967296) (k2 : l2.length ≤ 4294967296) (hu : AnyL w (.agg #[.bool b1, .slice a1 n1 c1, .bool b2, .slice a2 n2 c2]) b1 l1 b2 l2) :
    Calls Tryz.prog 5 #[c, .agg #[.bool true, .slice none 0 0], .agg #[.int .u8 3, v0, v1, v2, v3, v4, v5, v6, v7, v8, v9, v10, .string nm, .bool b1, .slice a1 n1 c1, .bool b2, .slice a2 n2 c2]] w fun e w' => e = .returned (.tuple #[.agg #[.bool true, .slice none 0 0], .bool true]) ∧ Ext w w' := by
  obtain ⟨wb, hwb⟩ : ∃ wb, wb = ((w.alloc (.cells #[.bool true, .slice none 0 0] 39)).alloc (.cells #[.int .u8 3, v0, v1, v2, v3, v4, v5, v6, v7, v8, v9, v10, .string nm, .bool b1, .slice a1 n1 c1, .bool b2, .slice a2 n2 c2] 33)).alloc (.cells #[.bool false, .slice none 0 0] 39) := ⟨_, rfl⟩
  have hE : Ext w wb := by rw [hwb]; exact (((Ext.refl w).al _).al _).al _
  have zR : wb.heap[w.heap.size]? = some (.cells #[.bool true, .slice none 0 0] 39 (0, 0)) := by rw [hwb]; exact ((Ext.refl _).al _).blk ((heap_alloc_old _ _ (by simp)).trans (heap_alloc_new _ _))
  have zO : wb.heap[w.heap.size + 1]? = some (.cells #[.int .u8 3, v0, v1, v2, v3, v4, v5, v6, v7, v8, v9, v10, .string nm, .bool b1, .slice a1 n1 c1, .bool b2, .slice a2 n2 c2] 33 (0, 0)) := by rw [hwb]; exact (heap_alloc_old _ _ (by simp)).trans (heap_at _ _ _ (by simp))
  have zB : wb.heap[w.heap.size + 2]? = some (.cells #[.bool false, .slice none 0 0] 39 (0, 0)) := by rw [hwb]; exact heap_at _ _ _ (by simp)
  replace zR := mkHid zR
  replace zO := mkHid zO
  replace zB := mkHid zB
  replace hE := mkHid hE
  replace hwb := mkHid hwb
  have h := mkHid (fun W (e : Ext w W) => h.ext e)
  have HU := mkHid (fun W (e : Ext w W) => hu.ext e)
  have zB0 := zB.out
  replace zB0 := mkHid zB0
  clear hu
  go_enter Tryz.func5, Tryz.ntmps5
  have tok : Tok 10 := .mk _
  go_wp2_with (first
    | ((have _t : Tok 10 := tok); clear _t; clear tok; (have tok : Tok 11 := .mk _); rw [← hwb.out]; refine wpList_load_sub (by rfl) 27 (.tmp 104) rfl (w.heap.size + 1) 13 rfl 33 #[.int .u8 3, v0, v1, v2, v3, v4, v5, v6, v7, v8, v9, v10, .string nm, .bool b1, .slice a1 n1 c1, .bool b2, .slice a2 n2 c2] #[.bool b1, .slice a1 n1 c1, .bool b2, .slice a2 n2 c2] (0, 0) _ zO.out rfl Tryz.underlying27 rfl (by kernel_rfl) ?_)
    | ((have _t : Tok 11 := tok); clear _t; clear tok; (have tok : Tok 12 := .mk _); go_at_call 20; refine (twinFrac_k _ b1 l1 b2 l2 _ (HU.out _ hE.out)).mono ?_; rintro e wc1 ⟨v, rfl, ht, hx⟩; replace zR := mkHid (hx.blk zR.out); replace zO := mkHid (hx.blk zO.out); replace zB := mkHid (hx.blk zB.out); replace hE := mkHid (hE.out.trans hx); clear hx; obtain ⟨g1, g2, rfl, hne, hl1, hl2, t1, t2⟩ := ht; replace t1 := mkHid t1; replace t2 := mkHid t2; replace hl1 := mkHid (show w.heap.size + 2 < g1 by have := lt_of_blk zB0.out; omega); replace hl2 := mkHid (show w.heap.size + 2 < g2 by have := lt_of_blk zB0.out; omega); clear hne)
    | ((have _t : Tok 12 := tok); clear _t; clear tok; (have tok : Tok 13 := .mk _); (have hl_zT := mkHid (lt_of_blk zB.out)); (obtain ⟨wa2, ha2⟩ : ∃ W, W = wc1.alloc (.cells #[.bool b1, .slice (some ⟨g1, 0, none⟩) l1.length (l1.length + 1), .bool b2, .slice (some ⟨g2, 0, none⟩) l2.length (l2.length + 1)] 27) := ⟨_, rfl⟩); rw [← ha2]; (have hx : Ext wc1 wa2 := by rw [ha2]; exact (Ext.refl _).al _); replace zR := mkHid (hx.blk zR.out); replace zO := mkHid (hx.blk zO.out); replace zB := mkHid (hx.blk zB.out); replace hE := mkHid (hE.out.trans hx); (have zT := mkHid (show wa2.heap[wc1.heap.size]? = some (.cells #[.bool b1, .slice (some ⟨g1, 0, none⟩) l1.length (l1.length + 1), .bool b2, .slice (some ⟨g2, 0, none⟩) l2.length (l2.length + 1)] 27 (0, 0)) by rw [ha2]; exact heap_alloc_new _ _)); replace t1 := mkHid (t1.out.ext hx); replace t2 := mkHid (t2.out.ext hx); clear hx; replace ha2 := mkHid ha2; refine wpList_load_row (by rfl) 27 (.tmp 19) rfl (wc1.heap.size) rfl 27 #[.bool b1, .slice (some ⟨g1, 0, none⟩) l1.length (l1.length + 1), .bool b2, .slice (some ⟨g2, 0, none⟩) l2.length (l2.length + 1)] (0, 0) _ zT.out Tryz.underlying27 rfl (by kernel_rfl) ?_)
    | ((have _t : Tok 13 := tok); clear _t; clear tok; (have tok : Tok 14 := .mk _); go_at_call 21; refine (near_g _ _ _ _ c _ (h.out _ hE.out)).mono ?_; rintro e wc3 ⟨rfl, hx⟩; replace zR := mkHid (hx.blk zR.out); replace zO := mkHid (hx.blk zO.out); replace zB := mkHid (hx.blk zB.out); replace zT := mkHid (hx.blk zT.out); replace hE := mkHid (hE.out.trans hx); replace t1 := mkHid (t1.out.ext hx); replace t2 := mkHid (t2.out.ext hx); clear hx)
    | ((have _t : Tok 14 := tok); clear _t; clear tok; (have tok : Tok 15 := .mk _); (have hl_zP := mkHid (lt_of_blk zB.out)); (obtain ⟨wa4, ha4⟩ : ∃ W, W = wc3.alloc (.cells #[.string ⟨#[]⟩, .int .u8 0, .bool false, .slice none 0 0, .bool false, .slice none 0 0, .bool false, .slice none 0 0, .bool false, .slice none 0 0, .int .i64 0] 31) := ⟨_, rfl⟩); rw [← ha4]; (have hx : Ext wc3 wa4 := by rw [ha4]; exact (Ext.refl _).al _); replace zR := mkHid (hx.blk zR.out); replace zO := mkHid (hx.blk zO.out); replace zB := mkHid (hx.blk zB.out); replace zT := mkHid (hx.blk zT.out); replace hE := mkHid (hE.out.trans hx); (have zP := mkHid (show wa4.heap[wc3.heap.size]? = some (.cells #[.string ⟨#[]⟩, .int .u8 0, .bool false, .slice none 0 0, .bool false, .slice none 0 0, .bool false, .slice none 0 0, .bool false, .slice none 0 0, .int .i64 0] 31 (0, 0)) by rw [ha4]; exact heap_alloc_new _ _)); replace t1 := mkHid (t1.out.ext hx); replace t2 := mkHid (t2.out.ext hx); clear hx; replace ha4 := mkHid ha4; refine wpList_load_row (by rfl) 39 (.tmp 4) rfl (w.heap.size) rfl 39 #[.bool true, .slice none 0 0] (0, 0) _ zR.out Tryz.underlying39 rfl (by kernel_rfl) ?_)
    | ((have _t : Tok 15 := tok); clear _t; clear tok; (have tok : Tok 16 := .mk _); refine wpList_load_sub (by rfl) 27 (.tmp 115) rfl (w.heap.size + 1) 13 rfl 33 #[.int .u8 3, v0, v1, v2, v3, v4, v5, v6, v7, v8, v9, v10, .string nm, .bool b1, .slice a1 n1 c1, .bool b2, .slice a2 n2 c2] #[.bool b1, .slice a1 n1 c1, .bool b2, .slice a2 n2 c2] (0, 0) _ zO.out rfl Tryz.underlying27 rfl (by kernel_rfl) ?_)
    | ((have _t : Tok 16 := tok); clear _t; clear tok; (have tok : Tok 17 := .mk _); go_at_call 22; refine (rnear_g _ _ _ _ _).mono ?_; rintro e wc5 ⟨rfl, hx⟩; replace zR := mkHid (hx.blk zR.out); replace zO := mkHid (hx.blk zO.out); replace zB := mkHid (hx.blk zB.out); replace zT := mkHid (hx.blk zT.out); replace zP := mkHid (hx.blk zP.out); replace hE := mkHid (hE.out.trans hx); replace t1 := mkHid (t1.out.ext hx); replace t2 := mkHid (t2.out.ext hx); clear hx))
  (have hl_zQ := mkHid (lt_of_blk zB.out)); (obtain ⟨wa6, ha6⟩ : ∃ W, W = wc5.alloc (.cells #[.string ⟨#[]⟩, .int .u8 0, .bool false, .slice none 0 0, .bool false, .slice none 0 0, .bool false, .slice none 0 0, .bool false, .slice none 0 0, .int .i64 0] 31) := ⟨_, rfl⟩); rw [← ha6]; (have hx : Ext wc5 wa6 := by rw [ha6]; exact (Ext.refl _).al _); replace zR := mkHid (hx.blk zR.out); replace zO := mkHid (hx.blk zO.out); replace zB := mkHid (hx.blk zB.out); replace zT := mkHid (hx.blk zT.out); replace zP := mkHid (hx.blk zP.out); replace hE := mkHid (hE.out.trans hx); (have zQ := mkHid (show wa6.heap[wc5.heap.size]? = some (.cells #[.string ⟨#[]⟩, .int .u8 0, .bool false, .slice none 0 0, .bool false, .slice none 0 0, .bool false, .slice none 0 0, .bool false, .slice none 0 0, .int .i64 0] 31 (0, 0)) by rw [ha6]; exact heap_alloc_new _ _)); replace t1 := mkHid (t1.out.ext hx); replace t2 := mkHid (t2.out.ext hx); clear hx; replace ha6 := mkHid ha6
  have u1 := t1.out
  have u2 := t2.out
  have hv1 := hl1.out
  have hv2 := hl2.out
  have hEw := hE.out
  have hn_zT := hl_zT.out
  have hn_zP := hl_zP.out
  have hn_zQ := hl_zQ.out
  apply region_row (w.heap.size + 2) #[.bool true, .slice none 0 0] 39 [.val (.agg #[.bool true, .slice none 0 0]), .val (.int .i64 2), .val (.int .i64 2), .val (.bool true), .val (.bool true), .val (.agg #[.string ⟨#[]⟩, .int .u8 0, .bool false, .slice none 0 0, .bool false, .slice none 0 0, .bool false, .slice none 0 0, .bool false, .slice none 0 0, .int .i64 0]), .val (.agg #[.string ⟨#[]⟩, .int .u8 0, .bool false, .slice none 0 0, .bool false, .slice none 0 0, .bool false, .slice none 0 0, .bool false, .slice none 0 0, .int .i64 0]), .val (.bool true), .val (.bool true), .val (.bool true), .val (.agg #[.bool b1, .slice (some ⟨g1, 0, none⟩) l1.length (l1.length + 1), .bool b2, .slice (some ⟨g2, 0, none⟩) l2.length (l2.length + 1)]), .val (.pointer (some ⟨w.heap.size + 1, 13, none⟩)), .val (.agg #[.bool b1, .slice a1 n1 c1, .bool b2, .slice a2 n2 c2]), .val (.bool true), .val (.bool true), .pred (RowNew (w.heap.size + 2) #[.bool true, .slice none 0 0] 39), .val (.bool true)]
  case hok => kernel_rfl
  case hst => exact (stable_vals _ (stable_vals _ (stable_vals _ (stable_vals _ (stable_vals _ (stable_vals _ (stable_vals _ (stable_vals _ (stable_vals _ (stable_vals _ (stable_vals _ (stable_vals _ (stable_vals _ (stable_vals _ (stable_vals _ (st_rowNew (stable_vals _ trivial)))))))))))))))))
  case hvo =>
    iterate 15 (refine ⟨(by intro h; cases h), ?_⟩)
    refine ⟨(by intro _ W v h; exact h), ?_⟩
    exact ⟨(by intro h; cases h), trivial⟩
  refine ⟨?ld5, ?_⟩
  case ld5 =>
    intro W hW hF
    have hr := hW.blk zR.out (by omega)
    with_reducible refine fr_load ?zhw 39 (.tmp 4) ?zho (w.heap.size) ?zhx 39 #[.bool true, .slice none 0 0] (0, 0) _ hr Tryz.underlying39 ?zhd ?zhi ?zh
    case zhw => kernel_rfl
    case zho => rfl
    case zhx => kernel_rfl
    case zhd => rfl
    case zhi => kernel_rfl
    case zh => exact ⟨StR.refl _ _ _ _, rfl⟩
  iterate 4 (refine ⟨fun W hW _ => by go_simp; first | exact ⟨StR.refl _ _ _ _, rfl⟩ | exact StR.refl _ _ _ _ | rfl, ?_⟩)
  refine ⟨?ld6, ?_⟩
  case ld6 =>
    intro W hW hF
    have hr := hW.blk zP.out (by omega)
    with_reducible refine fr_load ?zhw 31 (.tmp 20) ?zho (wc3.heap.size) ?zhx 31 #[.string ⟨#[]⟩, .int .u8 0, .bool false, .slice none 0 0, .bool false, .slice none 0 0, .bool false, .slice none 0 0, .bool false, .slice none 0 0, .int .i64 0] (0, 0) _ hr Tryz.underlying31 ?zhd ?zhi ?zh
    case zhw => kernel_rfl
    case zho => rfl
    case zhx => kernel_rfl
    case zhd => rfl
    case zhi => kernel_rfl
    case zh => exact ⟨StR.refl _ _ _ _, rfl⟩
  refine ⟨?ld7, ?_⟩
  case ld7 =>
    intro W hW hF
    have hr := hW.blk zQ.out (by omega)
    with_reducible refine fr_load ?zhw 31 (.tmp 22) ?zho (wc5.heap.size) ?zhx 31 #[.string ⟨#[]⟩, .int .u8 0, .bool false, .slice none 0 0, .bool false, .slice none 0 0, .bool false, .slice none 0 0, .bool false, .slice none 0 0, .int .i64 0] (0, 0) _ hr Tryz.underlying31 ?zhd ?zhi ?zh
    case zhw => kernel_rfl
    case zho => rfl
    case zhx => kernel_rfl
    case zhd => rfl
    case zhi => kernel_rfl
    case zh => exact ⟨StR.refl _ _ _ _, rfl⟩
  refine ⟨fun W hW _ => ?sp, ?_⟩
  case sp =>
    have hEW := StR.ext hEw hW (by omega)
    go_simp
    refine (samePart_l ⟨#[]⟩ ⟨#[]⟩ 0 0 0 0 false none [] 0 false none [] 0 false none [] 0 false none [] 0 false none [] 0 false none [] 0 false none [] 0 false none [] 0 W (RawL.zero W) (RawL.zero W) (RawL.zero W) (RawL.zero W)).mono ?_
    rintro e w' ⟨rfl, hx⟩
    exact ⟨by simp [eqI], StR.of_ext hx⟩
  iterate 2 (refine ⟨fun W hW _ => by go_simp; first | exact ⟨StR.refl _ _ _ _, rfl⟩ | exact StR.refl _ _ _ _ | rfl, ?_⟩)
  refine ⟨?ld8, ?_⟩
  case ld8 =>
    intro W hW hF
    have hr := hW.blk zT.out (by omega)
    with_reducible refine fr_load ?zhw 27 (.tmp 19) ?zho (wc1.heap.size) ?zhx 27 #[.bool b1, .slice (some ⟨g1, 0, none⟩) l1.length (l1.length + 1), .bool b2, .slice (some ⟨g2, 0, none⟩) l2.length (l2.length + 1)] (0, 0) _ hr Tryz.underlying27 ?zhd ?zhi ?zh
    case zhw => kernel_rfl
    case zho => rfl
    case zhx => kernel_rfl
    case zhd => rfl
    case zhi => kernel_rfl
    case zh => exact ⟨StR.refl _ _ _ _, rfl⟩
  iterate 1 (refine ⟨fun W hW _ => by go_simp; first | exact ⟨StR.refl _ _ _ _, rfl⟩ | exact StR.refl _ _ _ _ | rfl, ?_⟩)
  refine ⟨?ld9, ?_⟩
  case ld9 =>
    intro W hW hF
    have hr := hW.blk zO.out (by omega)
    with_reducible refine fr_load_sub ?zhw 27 (.tmp 131) ?zho (w.heap.size + 1) 13 ?zhx 33 #[.int .u8 3, v0, v1, v2, v3, v4, v5, v6, v7, v8, v9, v10, .string nm, .bool b1, .slice a1 n1 c1, .bool b2, .slice a2 n2 c2] #[.bool b1, .slice a1 n1 c1, .bool b2, .slice a2 n2 c2] (0, 0) _ hr ?zhs Tryz.underlying27 ?zhd ?zhi ?zh
    case zhw => kernel_rfl
    case zho => rfl
    case zhx => kernel_rfl
    case zhs => rfl
    case zhd => rfl
    case zhi => kernel_rfl
    case zh => exact ⟨StR.refl _ _ _ _, rfl⟩
  refine ⟨fun W hW _ => ?lf, ?_⟩
  case lf =>
    have hEW := StR.ext hEw hW (by omega)
    go_simp
    refine (leftFrac_f _ _ b1 l1 b2 l2 W k1 k2 (show TwF W (.agg #[.bool b1, .slice (some ⟨g1, 0, none⟩) l1.length (l1.length + 1), .bool b2, .slice (some ⟨g2, 0, none⟩) l2.length (l2.length + 1)]) b1 l1 b2 l2 from ⟨_, _, _, _, rfl, (TwG.str u1 hW (by omega)).twin b1, (TwG.str u2 hW (by omega)).twin b2⟩) (HU.out _ hEW)).mono ?_
    rintro e w' ⟨rfl, hx⟩
    exact ⟨rfl, StR.of_ext hx⟩
  iterate 1 (refine ⟨fun W hW _ => by go_simp; first | exact ⟨StR.refl _ _ _ _, rfl⟩ | exact StR.refl _ _ _ _ | rfl, ?_⟩)
  refine ⟨?st, fun _ => ⟨fun W hW _ => by go_simp; first | exact ⟨StR.refl _ _ _ _, rfl⟩ | exact StR.refl _ _ _ _, ?_⟩⟩
  case st =>
    intro W hW hF
    with_reducible refine fr_store_str (ty := 39) (x := .tmp 6) (y := .tmp 120) (g := w.heap.size + 2) (t := 39) (new := #[.bool true, .slice none 0 0]) ?zhw ?zho ?zhx ?zhy zB.out hW ?zhi ?zhs ?zhc ?zh
    case zhw => kernel_rfl
    case zho => rfl
    case zhx => kernel_rfl
    case zhy => kernel_rfl
    case zhi => kernel_rfl
    case zhs => rfl
    case zhc => kernel_rfl
    case zh => exact fun _ h1 h2 => ⟨h1, h2⟩
  intro W hW hF
  have hr : W.heap[w.heap.size + 2]? = some (.cells #[.bool true, .slice none 0 0] 39 (0, 0)) := hF.1 rfl
  have hEW := mkHid (StR.ext hEw hW (by omega))
  clear hF hW hEw
  go_simp
  go_wp2_with fail
  exact bodyPost_ret (results_row_tmp rfl _ _ (w.heap.size + 2) 39 #[.bool true, .slice none 0 0] _ _ rfl rfl hr Tryz.underlying39 rfl (by kernel_rfl)) rfl ⟨rfl, hEW.out⟩
set_option maxHeartbeats 6400000 in
theorem asked_drop (c : Value) (w : World) (h : GoneP w c) (v0 v1 v2 v3 v4 v5 v6 v7 v8 v9 v10 : Value) (nm : ByteArray) (u0 u1 u2 u3 : Value) :
    Calls Tryz.prog 5 #[c, .agg #[.bool true, .slice none 0 0], .agg #[.int .u8 1, v0, v1, v2, v3, v4, v5, v6, v7, v8, v9, v10, .string nm, u0, u1, u2, u3]] w fun e w' => e = .returned (.tuple #[.agg #[.bool true, .slice none 0 0], .bool true]) ∧ Ext w w' := by
  obtain ⟨wb, hwb⟩ : ∃ wb, wb = ((w.alloc (.cells #[.bool true, .slice none 0 0] 39)).alloc (.cells #[.int .u8 1, v0, v1, v2, v3, v4, v5, v6, v7, v8, v9, v10, .string nm, u0, u1, u2, u3] 33)).alloc (.cells #[.bool false, .slice none 0 0] 39) := ⟨_, rfl⟩
  have hE : Ext w wb := by rw [hwb]; exact (((Ext.refl w).al _).al _).al _
  have zR : wb.heap[w.heap.size]? = some (.cells #[.bool true, .slice none 0 0] 39 (0, 0)) := by rw [hwb]; exact ((Ext.refl _).al _).blk ((heap_alloc_old _ _ (by simp)).trans (heap_alloc_new _ _))
  have zO : wb.heap[w.heap.size + 1]? = some (.cells #[.int .u8 1, v0, v1, v2, v3, v4, v5, v6, v7, v8, v9, v10, .string nm, u0, u1, u2, u3] 33 (0, 0)) := by rw [hwb]; exact (heap_alloc_old _ _ (by simp)).trans (heap_at _ _ _ (by simp))
  have zB : wb.heap[w.heap.size + 2]? = some (.cells #[.bool false, .slice none 0 0] 39 (0, 0)) := by rw [hwb]; exact heap_at _ _ _ (by simp)
  replace zR := mkHid zR
  replace zO := mkHid zO
  replace zB := mkHid zB
  replace hE := mkHid hE
  replace hwb := mkHid hwb
  have h := mkHid (fun W (e : Ext w W) => h.ext e)
  go_enter Tryz.func5, Tryz.ntmps5
  have tok : Tok 18 := .mk _
  go_wp2_with (first
    | ((have _t : Tok 18 := tok); clear _t; clear tok; (have tok : Tok 19 := .mk _); rw [← hwb.out]; (have y12 := row16_cells zO.out 12); refine wpList_load_row (by rfl) 39 (.tmp 4) rfl (w.heap.size) rfl 39 #[.bool true, .slice none 0 0] (0, 0) _ zR.out Tryz.underlying39 rfl (by kernel_rfl) ?_)
    | ((have _t : Tok 19 := tok); clear _t; clear tok; (have tok : Tok 20 := .mk _); go_at_call 15; refine (rdrop_g nm _).mono ?_; rintro e wc1 ⟨rfl, hx⟩; replace zR := mkHid (hx.blk zR.out); replace zO := mkHid (hx.blk zO.out); replace zB := mkHid (hx.blk zB.out); replace hE := mkHid (hE.out.trans hx); clear hx y12))
  (have hl_zN := mkHid (lt_of_blk zB.out)); (obtain ⟨wa2, ha2⟩ : ∃ W, W = wc1.alloc (.cells #[.bool true, .slice none 0 0] 39) := ⟨_, rfl⟩); rw [← ha2]; (have hx : Ext wc1 wa2 := by rw [ha2]; exact (Ext.refl _).al _); replace zR := mkHid (hx.blk zR.out); replace zO := mkHid (hx.blk zO.out); replace zB := mkHid (hx.blk zB.out); replace hE := mkHid (hE.out.trans hx); (have zN := mkHid (show wa2.heap[wc1.heap.size]? = some (.cells #[.bool true, .slice none 0 0] 39 (0, 0)) by rw [ha2]; exact heap_alloc_new _ _)); clear hx; replace ha2 := mkHid ha2
  have hEw := hE.out
  have hn_zN := hl_zN.out
  apply region_row (w.heap.size + 2) #[.bool true, .slice none 0 0] 39 [.val (.agg #[.bool true, .slice none 0 0]), .val (c), .val (.pointer (some ⟨w.heap.size + 1, 12, none⟩)), .val (.string nm), .val (.int .i64 2), .val (.int .i64 2), .val (.bool true), .pred (RowNew (w.heap.size + 2) #[.bool true, .slice none 0 0] 39), .val (.bool true)]
  case hok => kernel_rfl
  case hst => exact (stable_vals _ (stable_vals _ (stable_vals _ (stable_vals _ (stable_vals _ (stable_vals _ (stable_vals _ (st_rowNew (stable_vals _ trivial)))))))))
  case hvo =>
    iterate 7 (refine ⟨(by intro h; cases h), ?_⟩)
    refine ⟨(by intro _ W v h; exact h), ?_⟩
    exact ⟨(by intro h; cases h), trivial⟩
  refine ⟨?ld10, ?_⟩
  case ld10 =>
    intro W hW hF
    have hr := hW.blk zN.out (by omega)
    with_reducible refine fr_load ?zhw 39 (.tmp 13) ?zho (wc1.heap.size) ?zhx 39 #[.bool true, .slice none 0 0] (0, 0) _ hr Tryz.underlying39 ?zhd ?zhi ?zh
    case zhw => kernel_rfl
    case zho => rfl
    case zhx => kernel_rfl
    case zhd => rfl
    case zhi => kernel_rfl
    case zh => exact ⟨StR.refl _ _ _ _, rfl⟩
  iterate 2 (refine ⟨fun W hW _ => by go_simp; first | exact ⟨StR.refl _ _ _ _, rfl⟩ | exact StR.refl _ _ _ _ | rfl, ?_⟩)
  refine ⟨fun W hW _ => ?cl, ?_⟩
  case cl =>
    have hc : W.cell? ⟨w.heap.size + 1, 12, none⟩ = some (.string nm) := row16_cells (hW.blk zO.out (by omega)) 12
    go_simp
    first | exact ⟨StR.refl _ _ _ _, rfl⟩ | exact StR.refl _ _ _ _
  refine ⟨fun W hW _ => ?sd, ?_⟩
  case sd =>
    have hEW := StR.ext hEw hW (by omega)
    go_simp
    refine (drop_g nm c W (h.out _ hEW)).mono ?_
    rintro e w' ⟨rfl, hx⟩
    exact ⟨rfl, StR.of_ext hx⟩
  iterate 2 (refine ⟨fun W hW _ => by go_simp; first | exact ⟨StR.refl _ _ _ _, rfl⟩ | exact StR.refl _ _ _ _ | rfl, ?_⟩)
  refine ⟨?st, fun _ => ⟨fun W hW _ => by go_simp; first | exact ⟨StR.refl _ _ _ _, rfl⟩ | exact StR.refl _ _ _ _, ?_⟩⟩
  case st =>
    intro W hW hF
    with_reducible refine fr_store_str (ty := 39) (x := .tmp 6) (y := .tmp 70) (g := w.heap.size + 2) (t := 39) (new := #[.bool true, .slice none 0 0]) ?zhw ?zho ?zhx ?zhy zB.out hW ?zhi ?zhs ?zhc ?zh
    case zhw => kernel_rfl
    case zho => rfl
    case zhx => kernel_rfl
    case zhy => kernel_rfl
    case zhi => kernel_rfl
    case zhs => rfl
    case zhc => kernel_rfl
    case zh => exact fun _ h1 h2 => ⟨h1, h2⟩
  intro W hW hF
  have hr : W.heap[w.heap.size + 2]? = some (.cells #[.bool true, .slice none 0 0] 39 (0, 0)) := hF.1 rfl
  have hEW := mkHid (StR.ext hEw hW (by omega))
  clear hF hW hEw
  go_simp
  go_wp2_with fail
  exact bodyPost_ret (results_row_tmp rfl _ _ (w.heap.size + 2) 39 #[.bool true, .slice none 0 0] _ _ rfl rfl hr Tryz.underlying39 rfl (by kernel_rfl)) rfl ⟨rfl, hEW.out⟩
end Go.Proofs.YtplhndmncjoghaaGreatDoor
namespace Go.Proofs.YtplhndmncjoghaaGreatDoor
set_option maxRecDepth 100000
open Go Go.RowKit Go.Proofs
theorem TwG.twf {w : World} {g1 g2 : Nat} {l1 l2 : List Nat} (t1 : TwG w g1 l1) (t2 : TwG w g2 l2) (b1 b2 : Bool) : TwF w (.agg #[.bool b1, .slice (some ⟨g1, 0, none⟩) l1.length (l1.length + 1), .bool b2, .slice (some ⟨g2, 0, none⟩) l2.length (l2.length + 1)]) b1 l1 b2 l2 :=
  ⟨_, _, _, _, rfl, t1.twin b1, t2.twin b2⟩
set_option maxHeartbeats 1200000 in
theorem asked_put (c : Value) (w : World) (h : GoneP w c) (pn : ByteArray) (pk co : Int) (b1 : Bool) (l1 : List Nat) (a1 : Option Addr) (c1 : Nat) (b2 : Bool) (l2 : List Nat) (a2 : Option Addr) (c2 : Nat) (b3 : Bool) (l3 : List Nat) (a3 : Option Addr) (c3 : Nat) (b4 : Bool) (l4 : List Nat) (a4 : Option Addr) (c4 : Nat) (nm : ByteArray) (u0 u1 u2 u3 : Value) (k1 : l1.length ≤ 1000000000) (k2 : l2.length ≤ 1000000000) (k3 : l3.length ≤ 1000000000) (k4 : l4.length ≤ 1000000000) (h1 : AnyL w (.agg #[.bool b1, .slice a1 l1.length c1, .bool b2, .slice a2 l2.length c2]) b1 l1 b2 l2) (h2 : AnyL w (.agg #[.bool b3, .slice a3 l3.length c3, .bool b4, .slice a4 l4.length c4]) b3 l3 b4 l4) :
    Calls Tryz.prog 5 #[c, .agg #[.bool true, .slice none 0 0], .agg #[.int .u8 0, .string pn, .int .u8 pk, .bool b1, .slice a1 l1.length c1, .bool b2, .slice a2 l2.length c2, .bool b3, .slice a3 l3.length c3, .bool b4, .slice a4 l4.length c4, .int .i64 co, .string nm, u0, u1, u2, u3]] w fun e w' => e = .returned (.tuple #[.agg #[.bool true, .slice none 0 0], .bool true]) ∧ Ext w w' := by
  obtain ⟨wb, hwb⟩ : ∃ wb, wb = ((w.alloc (.cells #[.bool true, .slice none 0 0] 39)).alloc (.cells #[.int .u8 0, .string pn, .int .u8 pk, .bool b1, .slice a1 l1.length c1, .bool b2, .slice a2 l2.length c2, .bool b3, .slice a3 l3.length c3, .bool b4, .slice a4 l4.length c4, .int .i64 co, .string nm, u0, u1, u2, u3] 33)).alloc (.cells #[.bool false, .slice none 0 0] 39) := ⟨_, rfl⟩
  have hE : Ext w wb := by rw [hwb]; exact (((Ext.refl w).al _).al _).al _
  have zR : wb.heap[w.heap.size]? = some (.cells #[.bool true, .slice none 0 0] 39 (0, 0)) := by rw [hwb]; exact ((Ext.refl _).al _).blk ((heap_alloc_old _ _ (by simp)).trans (heap_alloc_new _ _))
  have zO : wb.heap[w.heap.size + 1]? = some (.cells #[.int .u8 0, .string pn, .int .u8 pk, .bool b1, .slice a1 l1.length c1, .bool b2, .slice a2 l2.length c2, .bool b3, .slice a3 l3.length c3, .bool b4, .slice a4 l4.length c4, .int .i64 co, .string nm, u0, u1, u2, u3] 33 (0, 0)) := by rw [hwb]; exact (heap_alloc_old _ _ (by simp)).trans (heap_at _ _ _ (by simp))
  have zB : wb.heap[w.heap.size + 2]? = some (.cells #[.bool false, .slice none 0 0] 39 (0, 0)) := by rw [hwb]; exact heap_at _ _ _ (by simp)
  replace zR := mkHid zR
  replace zO := mkHid zO
  replace zB := mkHid zB
  replace hE := mkHid hE
  replace hwb := mkHid hwb
  have h := mkHid (fun W (e : Ext w W) => h.ext e)
  have zB0 := zB
  have H1 := mkHid (fun W (e : Ext w W) => h1.ext e)
  have H2 := mkHid (fun W (e : Ext w W) => h2.ext e)
  clear h1 h2
  have K := mkHid (And.intro k1 (And.intro k2 (And.intro k3 k4)))
  have K' := mkHid (show (l1.length ≤ 4294967296 ∧ l2.length ≤ 4294967296 ∧ l3.length ≤ 4294967296 ∧ l4.length ≤ 4294967296) by omega)
  clear k1 k2 k3 k4
  go_enter Tryz.func5, Tryz.ntmps5
  have tok : Tok 0 := .mk _
  go_wp2_with (first
    | ((have _t : Tok 0 := tok); clear _t; clear tok; (have tok : Tok 1 := .mk _); rw [← hwb.out]; refine wpList_load_sub (by rfl) 31 (.tmp 32) rfl (w.heap.size + 1) 1 rfl 33 #[.int .u8 0, .string pn, .int .u8 pk, .bool b1, .slice a1 l1.length c1, .bool b2, .slice a2 l2.length c2, .bool b3, .slice a3 l3.length c3, .bool b4, .slice a4 l4.length c4, .int .i64 co, .string nm, u0, u1, u2, u3] #[.string pn, .int .u8 pk, .bool b1, .slice a1 l1.length c1, .bool b2, .slice a2 l2.length c2, .bool b3, .slice a3 l3.length c3, .bool b4, .slice a4 l4.length c4, .int .i64 co] (0, 0) _ zO.out rfl Tryz.underlying31 rfl (by kernel_rfl) ?_)
    | ((have _t : Tok 1 := tok); clear _t; clear tok; (have tok : Tok 2 := .mk _); go_at_call 9; refine (twinPart_k pn pk co b1 l1 a1 l1.length c1 b2 l2 a2 l2.length c2 b3 l3 a3 l3.length c3 b4 l4 a4 l4.length c4 _ (H1.out _ hE.out) (H2.out _ hE.out)).mono ?_; rintro e wc1 ⟨v, rfl, ht, hx⟩; replace zR := mkHid (hx.blk zR.out); replace zO := mkHid (hx.blk zO.out); replace zB := mkHid (hx.blk zB.out); replace hE := mkHid (hE.out.trans hx); clear hx; obtain ⟨g1, g2, g3, g4, rfl, hne, hlo, t1, t2, t3, t4⟩ := ht; replace t1 := mkHid t1; replace t2 := mkHid t2; replace t3 := mkHid t3; replace t4 := mkHid t4; replace hne := mkHid hne; replace hlo := mkHid hlo)
    | ((have _t : Tok 2 := tok); clear _t; clear tok; (have tok : Tok 3 := .mk _); (have hl_zT := mkHid (lt_of_blk zB.out)); (obtain ⟨wa2, ha2⟩ : ∃ W, W = wc1.alloc (.cells #[.string pn, .int .u8 pk, .bool b1, .slice (some ⟨g1, 0, none⟩) l1.length (l1.length + 1), .bool b2, .slice (some ⟨g2, 0, none⟩) l2.length (l2.length + 1), .bool b3, .slice (some ⟨g3, 0, none⟩) l3.length (l3.length + 1), .bool b4, .slice (some ⟨g4, 0, none⟩) l4.length (l4.length + 1), .int .i64 co] 31) := ⟨_, rfl⟩); rw [← ha2]; (have hx : Ext wc1 wa2 := by rw [ha2]; exact (Ext.refl _).al _); replace zR := mkHid (hx.blk zR.out); replace zO := mkHid (hx.blk zO.out); replace zB := mkHid (hx.blk zB.out); replace hE := mkHid (hE.out.trans hx); (have zT := mkHid (show wa2.heap[wc1.heap.size]? = some (.cells #[.string pn, .int .u8 pk, .bool b1, .slice (some ⟨g1, 0, none⟩) l1.length (l1.length + 1), .bool b2, .slice (some ⟨g2, 0, none⟩) l2.length (l2.length + 1), .bool b3, .slice (some ⟨g3, 0, none⟩) l3.length (l3.length + 1), .bool b4, .slice (some ⟨g4, 0, none⟩) l4.length (l4.length + 1), .int .i64 co] 31 (0, 0)) by rw [ha2]; exact heap_alloc_new _ _)); replace t1 := mkHid (t1.out.ext hx); replace t2 := mkHid (t2.out.ext hx); replace t3 := mkHid (t3.out.ext hx); replace t4 := mkHid (t4.out.ext hx); clear hx; replace ha2 := mkHid ha2; refine wpList_load_row (by rfl) 39 (.tmp 4) rfl (w.heap.size) rfl 39 #[.bool true, .slice none 0 0] (0, 0) _ zR.out Tryz.underlying39 rfl (by kernel_rfl) ?_)
    | ((have _t : Tok 3 := tok); clear _t; clear tok; (have tok : Tok 4 := .mk _); refine wpList_load_sub (by rfl) 31 (.tmp 37) rfl (w.heap.size + 1) 1 rfl 33 #[.int .u8 0, .string pn, .int .u8 pk, .bool b1, .slice a1 l1.length c1, .bool b2, .slice a2 l2.length c2, .bool b3, .slice a3 l3.length c3, .bool b4, .slice a4 l4.length c4, .int .i64 co, .string nm, u0, u1, u2, u3] #[.string pn, .int .u8 pk, .bool b1, .slice a1 l1.length c1, .bool b2, .slice a2 l2.length c2, .bool b3, .slice a3 l3.length c3, .bool b4, .slice a4 l4.length c4, .int .i64 co] (0, 0) _ zO.out rfl Tryz.underlying31 rfl (by kernel_rfl) ?_)
    | ((have _t : Tok 4 := tok); clear _t; clear tok; (have tok : Tok 5 := .mk _); go_at_call 10; refine (rput_g _ _ _ _ _ _ _ _ _ _ _ _).mono ?_; rintro e wc3 ⟨rfl, hx⟩; replace zR := mkHid (hx.blk zR.out); replace zO := mkHid (hx.blk zO.out); replace zB := mkHid (hx.blk zB.out); replace zT := mkHid (hx.blk zT.out); replace hE := mkHid (hE.out.trans hx); replace t1 := mkHid (t1.out.ext hx); replace t2 := mkHid (t2.out.ext hx); replace t3 := mkHid (t3.out.ext hx); replace t4 := mkHid (t4.out.ext hx); clear hx)
    | ((have _t : Tok 5 := tok); clear _t; clear tok; (have tok : Tok 6 := .mk _); (have gl_zN := mkHid (And.intro t1.out.lt (And.intro t2.out.lt (And.intro t3.out.lt t4.out.lt)))); (have hl_zN := mkHid (lt_of_blk zB.out)); (obtain ⟨wa4, ha4⟩ : ∃ W, W = wc3.alloc (.cells #[.bool true, .slice none 0 0] 39) := ⟨_, rfl⟩); rw [← ha4]; (have hx : Ext wc3 wa4 := by rw [ha4]; exact (Ext.refl _).al _); replace zR := mkHid (hx.blk zR.out); replace zO := mkHid (hx.blk zO.out); replace zB := mkHid (hx.blk zB.out); replace zT := mkHid (hx.blk zT.out); replace hE := mkHid (hE.out.trans hx); (have zN := mkHid (show wa4.heap[wc3.heap.size]? = some (.cells #[.bool true, .slice none 0 0] 39 (0, 0)) by rw [ha4]; exact heap_alloc_new _ _)); replace t1 := mkHid (t1.out.ext hx); replace t2 := mkHid (t2.out.ext hx); replace t3 := mkHid (t3.out.ext hx); replace t4 := mkHid (t4.out.ext hx); clear hx; replace ha4 := mkHid ha4; refine wpList_load_row (by rfl) 31 (.tmp 8) rfl (wc1.heap.size) rfl 31 #[.string pn, .int .u8 pk, .bool b1, .slice (some ⟨g1, 0, none⟩) l1.length (l1.length + 1), .bool b2, .slice (some ⟨g2, 0, none⟩) l2.length (l2.length + 1), .bool b3, .slice (some ⟨g3, 0, none⟩) l3.length (l3.length + 1), .bool b4, .slice (some ⟨g4, 0, none⟩) l4.length (l4.length + 1), .int .i64 co] (0, 0) _ zT.out Tryz.underlying31 rfl (by kernel_rfl) ?_)
    | ((have _t : Tok 6 := tok); clear _t; clear tok; (have tok : Tok 7 := .mk _); go_at_call 11; refine (put_g _ _ _ _ _ _ _ _ _ _ _ c _ (h.out _ hE.out)).mono ?_; rintro e wc5 ⟨rfl, hx⟩; replace zR := mkHid (hx.blk zR.out); replace zO := mkHid (hx.blk zO.out); replace zB := mkHid (hx.blk zB.out); replace zT := mkHid (hx.blk zT.out); replace zN := mkHid (hx.blk zN.out); replace hE := mkHid (hE.out.trans hx); replace t1 := mkHid (t1.out.ext hx); replace t2 := mkHid (t2.out.ext hx); replace t3 := mkHid (t3.out.ext hx); replace t4 := mkHid (t4.out.ext hx); clear hx)
    | ((have _t : Tok 7 := tok); clear _t; clear tok; (have tok : Tok 8 := .mk _); refine wpList_load_rowG (by rfl) 31 (.tmp 8) rfl (wc1.heap.size) rfl 31 #[.string pn, .int .u8 pk, .bool b1, .slice (some ⟨g1, 0, none⟩) l1.length (l1.length + 1), .bool b2, .slice (some ⟨g2, 0, none⟩) l2.length (l2.length + 1), .bool b3, .slice (some ⟨g3, 0, none⟩) l3.length (l3.length + 1), .bool b4, .slice (some ⟨g4, 0, none⟩) l4.length (l4.length + 1), .int .i64 co] (0, 0) _ zT.out Tryz.underlying31 rfl (by kernel_rfl) ?_)
    | ((have _t : Tok 8 := tok); clear _t; clear tok; (have tok : Tok 9 := .mk _); refine wpList_load_subG (by rfl) 31 (.tmp 50) rfl (w.heap.size + 1) 1 rfl 33 #[.int .u8 0, .string pn, .int .u8 pk, .bool b1, .slice a1 l1.length c1, .bool b2, .slice a2 l2.length c2, .bool b3, .slice a3 l3.length c3, .bool b4, .slice a4 l4.length c4, .int .i64 co, .string nm, u0, u1, u2, u3] #[.string pn, .int .u8 pk, .bool b1, .slice a1 l1.length c1, .bool b2, .slice a2 l2.length c2, .bool b3, .slice a3 l3.length c3, .bool b4, .slice a4 l4.length c4, .int .i64 co] (0, 0) _ zO.out rfl Tryz.underlying31 rfl (by kernel_rfl) ?_)
    | ((have _t : Tok 9 := tok); clear _t; clear tok; (have tok : Tok 10 := .mk _); go_at_call 12; refine (leftPart_c pn pk co b1 l1 a1 (some ⟨g1, 0, none⟩) l1.length c1 (l1.length + 1) b2 l2 a2 (some ⟨g2, 0, none⟩) l2.length c2 (l2.length + 1) b3 l3 a3 (some ⟨g3, 0, none⟩) l3.length c3 (l3.length + 1) b4 l4 a4 (some ⟨g4, 0, none⟩) l4.length c4 (l4.length + 1) _ K'.out.1 K'.out.2.1 K'.out.2.2.1 K'.out.2.2.2 (TwG.twf t1.out t2.out b1 b2) (TwG.twf t3.out t4.out b3 b4) (H1.out _ hE.out) (H2.out _ hE.out)).mono ?_; rintro e wc6 ⟨rfl, hx⟩; replace zR := mkHid (hx.blk zR.out); replace zO := mkHid (hx.blk zO.out); replace zB := mkHid (hx.blk zB.out); replace zT := mkHid (hx.blk zT.out); replace zN := mkHid (hx.blk zN.out); replace hE := mkHid (hE.out.trans hx); replace t1 := mkHid (t1.out.ext hx); replace t2 := mkHid (t2.out.ext hx); replace t3 := mkHid (t3.out.ext hx); replace t4 := mkHid (t4.out.ext hx); clear hx)
    | ((have _t : Tok 10 := tok); clear _t; clear tok; (have tok : Tok 11 := .mk _); (have gl_zK := mkHid (And.intro t1.out.lt (And.intro t2.out.lt (And.intro t3.out.lt t4.out.lt)))); (have nk := mkHid (lt_of_blk zN.out)); (have hl_zK := mkHid (lt_of_blk zB.out)); (obtain ⟨wa7, ha7⟩ : ∃ W, W = wc6.alloc (.cells #[.int .i64 0, .slice none 0 0, .slice none 0 0, .slice none 0 0, .slice none 0 0, .slice none 0 0, .slice none 0 0, .slice none 0 0, .slice none 0 0, .slice none 0 0, .slice none 0 0, .slice none 0 0, .slice none 0 0, .slice none 0 0, .slice none 0 0, .slice none 0 0, .slice none 0 0] 72) := ⟨_, rfl⟩); rw [← ha7]; (have hx : Ext wc6 wa7 := by rw [ha7]; exact (Ext.refl _).al _); replace zR := mkHid (hx.blk zR.out); replace zO := mkHid (hx.blk zO.out); replace zB := mkHid (hx.blk zB.out); replace zT := mkHid (hx.blk zT.out); replace zN := mkHid (hx.blk zN.out); replace hE := mkHid (hE.out.trans hx); (have zK := mkHid (show wa7.heap[wc6.heap.size]? = some (.cells #[.int .i64 0, .slice none 0 0, .slice none 0 0, .slice none 0 0, .slice none 0 0, .slice none 0 0, .slice none 0 0, .slice none 0 0, .slice none 0 0, .slice none 0 0, .slice none 0 0, .slice none 0 0, .slice none 0 0, .slice none 0 0, .slice none 0 0, .slice none 0 0, .slice none 0 0] 72 (0, 0)) by rw [ha7]; exact heap_alloc_new _ _)); replace t1 := mkHid (t1.out.ext hx); replace t2 := mkHid (t2.out.ext hx); replace t3 := mkHid (t3.out.ext hx); replace t4 := mkHid (t4.out.ext hx); clear hx; replace ha7 := mkHid ha7; refine wpList_load_row (by rfl) 31 (.tmp 8) rfl (wc1.heap.size) rfl 31 #[.string pn, .int .u8 pk, .bool b1, .slice (some ⟨g1, 0, none⟩) l1.length (l1.length + 1), .bool b2, .slice (some ⟨g2, 0, none⟩) l2.length (l2.length + 1), .bool b3, .slice (some ⟨g3, 0, none⟩) l3.length (l3.length + 1), .bool b4, .slice (some ⟨g4, 0, none⟩) l4.length (l4.length + 1), .int .i64 co] (0, 0) _ zT.out Tryz.underlying31 rfl (by kernel_rfl) ?_)
    | ((have _t : Tok 11 := tok); clear _t; clear tok; (have tok : Tok 12 := .mk _); go_at_call 13; refine (bookTwin_c wa7 (wc6.heap.size) wb.heap.size _ pn pk co b1 b2 b3 b4 g1 l1.length g2 l2.length g3 l3.length g4 l4.length zK.out ?hbase).mono ?_; (case hbase => have b1 := hlo.out.1; have b2 := t1.out.lt; omega); rintro e wc8 ⟨rfl, hB, hK⟩; replace hB := mkHid hB; clear hK))
  have hB' := hB.out
  have hlo1 := hlo.out
  have hgN := gl_zN.out
  have hgK := gl_zK.out
  have hnk := nk.out
  have hbw := lt_of_blk zB0.out
  have hKlt := lt_of_blk zK.out
  obtain ⟨hl1, hl2, hl3, hl4⟩ := hlo1
  obtain ⟨hn1, hn2, hn3, hn4⟩ := hgN
  obtain ⟨hk1, hk2, hk3, hk4⟩ := hgK
  have zN3 := (hB'.c.block (wc3.heap.size) (lt_of_blk zN.out) (show ¬ wc3.heap.size = wc6.heap.size by omega)).trans zN.out
  have cN3 := row2_cells zN3
  replace zN3 := mkHid zN3
  have HA := mkHid (fun W (e : Ext wc8 W) => apartTwin_c wa7 (wc6.heap.size) wb.heap.size g1 g2 g3 g4 l1 l2 l3 l4 W (BookS.ext hB' e) hne.out ⟨hl1, hl2, hl3, hl4⟩ (by omega) t1.out t2.out t3.out t4.out K.out.1 K.out.2.1 K.out.2.2.1 K.out.2.2.2)
  replace hB' := mkHid hB'
  go_region_with
    ((go_at_call 14; refine (HA.out _ ?_).mono ?_; (first | exact Ext.refl _ | exact (Ext.refl _).dr); rintro e wz ⟨rfl, hC⟩; (have zNz := (hC.block (wc3.heap.size) (lt_of_blk zN.out) (by omega)).trans zN.out); (have zBz := (hC.block (w.heap.size + 2) (lt_of_blk zB.out) (by omega)).trans zB.out); (have hEz := hC.ext w hE.out (by omega)); (have cNz := row2_cells zNz); (have cBz := row2_cells zBz); (have fBz := row2_frozen zBz); replace zBz := mkHid zBz; clear hC zNz; replace hEz := mkHid hEz))
  all_goals
    rw [set2_row zBz.out]
    clear cNz cBz fBz cN3
    go_wp2_with fail
    exact bodyPost_ret (results_row_tmp rfl _ _ (w.heap.size + 2) 39 #[.bool true, .slice none 0 0] _ _ rfl rfl (setRow_heap _ _ _ _ _ _ zBz.out) Tryz.underlying39 rfl (by kernel_rfl)) rfl ⟨rfl, hEz.out.row (show w.heap.size ≤ w.heap.size + 2 by omega) _⟩
end Go.Proofs.YtplhndmncjoghaaGreatDoor
namespace Go.Proofs.YtplhndmncjoghaaGreatDoor
set_option maxRecDepth 100000
open Go Go.RowKit Go.Proofs
set_option maxHeartbeats 1600000 in
theorem intSize_c (b : Bool) (a : Option Addr) (n c : Nat) (w : World) (hn : n ≤ 140737488355328) :
    Calls Tryz.prog 32 #[.agg #[.bool b, .slice a n c]] w fun e w' => e = .returned (.int .i64 (1 + n)) ∧ Ext w w' := by
  have FE := mkHid ((Ext.refl w).al (.cells #[.bool b, .slice a n c] 25))
  go_enter Tryz.func32, Tryz.ntmps32
  go_wp2_with fail
  go_ret
  exact ⟨by trivial, FE.out⟩
def lowV (n m : Nat) : Int := Int.tdiv ((min (n : Int) 1048576) * (min (m : Int) 1048576)) 16 * 1024
theorem lowV_b (n m : Nat) : 0 ≤ lowV n m ∧ lowV n m ≤ 70368744177664 := by
  unfold lowV
  obtain ⟨x, hx⟩ : ∃ x : Int, x = min (n : Int) 1048576 := ⟨_, rfl⟩
  obtain ⟨y, hy⟩ : ∃ y : Int, y = min (m : Int) 1048576 := ⟨_, rfl⟩
  rw [← hx, ← hy]
  have h1 : 0 ≤ x ∧ x ≤ 1048576 := by omega
  have h2 : 0 ≤ y ∧ y ≤ 1048576 := by omega
  have h3 : 0 ≤ x * y := Int.mul_nonneg h1.1 h2.1
  have h4 : x * y ≤ 1048576 * 1048576 := Int.mul_le_mul h1.2 h2.2 h2.1 (by omega)
  rw [Int.tdiv_eq_ediv_of_nonneg h3]
  omega
theorem low_wrap (n m : Nat) : RowKit.wrap64 (RowKit.wrap64 ((RowKit.wrap64 (min (n : Int) 1048576 * min (m : Int) 1048576)).tdiv 16) * 1024) = lowV n m := by
  have hb := lowV_b n m
  unfold lowV at *
  have h1 : 0 ≤ min (n : Int) 1048576 ∧ min (n : Int) 1048576 ≤ 1048576 := by omega
  have h2 : 0 ≤ min (m : Int) 1048576 ∧ min (m : Int) 1048576 ≤ 1048576 := by omega
  generalize min (n : Int) 1048576 = x at *
  generalize min (m : Int) 1048576 = y at *
  have h3 : 0 ≤ x * y := Int.mul_nonneg h1.1 h2.1
  have h4 : x * y ≤ 1048576 * 1048576 := Int.mul_le_mul h1.2 h2.2 h2.1 (by omega)
  have e : (x * y).tdiv 16 = x * y / 16 := Int.tdiv_eq_ediv_of_nonneg h3
  rw [e] at hb ⊢
  rw [IntWalk.wrap64_in (x * y) (by omega), e, IntWalk.wrap64_in (x * y / 16) (by omega), IntWalk.wrap64_in _ (by omega)]
set_option maxHeartbeats 1600000 in
theorem fracSize_c (b b' : Bool) (a a' : Option Addr) (n c n' c' : Nat) (w : World) (hn : n ≤ 140737488355328) (hn' : n' ≤ 140737488355328) :
    Calls Tryz.prog 8 #[.agg #[.bool b, .slice a n c, .bool b', .slice a' n' c']] w fun e w' => e = .returned (.int .i64 (1 + n + (1 + n'))) ∧ Ext w w' := by
  have k1 := mkHid (fun w => intSize_c b a n c w hn)
  have k2 := mkHid (fun w => intSize_c b' a' n' c' w hn')
  go_enter Tryz.func8, Tryz.ntmps8
  go_wp2_with fail
  obtain ⟨wb, hwb⟩ : ∃ wb, wb = w.alloc (.cells #[.bool b, .slice a n c, .bool b', .slice a' n' c'] 27) := ⟨_, rfl⟩
  have hE : Ext w wb := by rw [hwb]; exact (Ext.refl w).al _
  have c0 : ∀ W, Ext wb W → W.cell? ⟨w.heap.size, 0, none⟩ = some (.bool b) := fun W e => e.cell (by rw [hwb]; go_simp)
  have c1 : ∀ W, Ext wb W → W.cell? ⟨w.heap.size, 1, none⟩ = some (.slice a n c) := fun W e => e.cell (by rw [hwb]; go_simp)
  have c2 : ∀ W, Ext wb W → W.cell? ⟨w.heap.size, 2, none⟩ = some (.bool b') := fun W e => e.cell (by rw [hwb]; go_simp)
  have c3 : ∀ W, Ext wb W → W.cell? ⟨w.heap.size, 3, none⟩ = some (.slice a' n' c') := fun W e => e.cell (by rw [hwb]; go_simp)
  rw [← hwb]
  replace hE := mkHid hE
  clear hwb
  apply region_ext [.val _, .val _, .val (.int .i64 (1 + n)), .val _, .val _, .val (.int .i64 (1 + n')), .val (.int .i64 (1 + n + (1 + n')))] (by kernel_rfl) (stable_vals _ (stable_vals _ (stable_vals _ (stable_vals _ (stable_vals _ (stable_vals _ (stable_vals _ trivial)))))))
  iterate 2 (refine ⟨fun W hW _ => by go_simp; exact ⟨Ext.refl _, rfl⟩, ?_⟩)
  refine ⟨fun W hW _ => ?g2, ?_⟩
  case g2 =>
    go_simp
    refine (k1.out W).mono ?_
    rintro e w' ⟨rfl, h1⟩
    exact ⟨rfl, h1⟩
  iterate 2 (refine ⟨fun W hW _ => by go_simp; exact ⟨Ext.refl _, rfl⟩, ?_⟩)
  refine ⟨fun W hW _ => ?g5, ⟨fun W hW _ => by go_simp; exact ⟨Ext.refl _, by rw [IntKind.wrap_i64]; omega⟩, ?_⟩⟩
  case g5 =>
    go_simp
    refine (k2.out W).mono ?_
    rintro e w' ⟨rfl, h1⟩
    exact ⟨rfl, h1⟩
  intro W hW _
  clear c0 c1 c2 c3
  replace hE := mkHid (hE.out.trans hW)
  clear hW
  go_simp
  go_wp2_with fail
  go_ret
  exact ⟨by trivial, hE.out⟩
/-- What a fraction of these lengths costs. -/
def costV (n n' : Nat) : Int := 1 + n + (1 + n') + lowV n n'
end Go.Proofs.YtplhndmncjoghaaGreatDoor
namespace Go.Proofs.YtplhndmncjoghaaGreatDoor
set_option maxRecDepth 100000
open Go Go.RowKit Go.Proofs
/-- How much is in an element with lists of these lengths. -/
def elemS (n1 n2 n3 n4 : Nat) : Int := 1 + n1 + (1 + n2) + (1 + n3 + (1 + n4))
theorem elemS_b {n1 n2 n3 n4 : Nat} (hn1 : n1 ≤ 140737488355328) (hn2 : n2 ≤ 140737488355328) (hn3 : n3 ≤ 140737488355328) (hn4 : n4 ≤ 140737488355328) : 0 ≤ elemS n1 n2 n3 n4 ∧ elemS n1 n2 n3 n4 ≤ 1125899906842624 := by
  unfold elemS
  omega
set_option maxRecDepth 100000 in
set_option maxHeartbeats 1600000 in
theorem elementSize_c (kd : Int) (b1 : Bool) (a1 : Option Addr) (n1 c1 : Nat) (b2 : Bool) (a2 : Option Addr) (n2 c2 : Nat) (b3 : Bool) (a3 : Option Addr) (n3 c3 : Nat) (b4 : Bool) (a4 : Option Addr) (n4 c4 : Nat) (w : World) (hn1 : n1 ≤ 140737488355328) (hn2 : n2 ≤ 140737488355328) (hn3 : n3 ≤ 140737488355328) (hn4 : n4 ≤ 140737488355328) :
    Calls Tryz.prog 31 #[.agg #[.int .u8 kd, .bool b1, .slice a1 n1 c1, .bool b2, .slice a2 n2 c2, .bool b3, .slice a3 n3 c3, .bool b4, .slice a4 n4 c4]] w fun e w' => e = .returned (.int .i64 (elemS n1 n2 n3 n4)) ∧ Ext w w' := by
  have k1 := mkHid (fun w => fracSize_c b1 b2 a1 a2 n1 c1 n2 c2 w hn1 hn2)
  have k2 := mkHid (fun w => fracSize_c b3 b4 a3 a4 n3 c3 n4 c4 w hn3 hn4)
  unfold elemS
  obtain ⟨S, hS⟩ : ∃ S : Int, S = 1 + n1 + (1 + n2) := ⟨_, rfl⟩
  obtain ⟨T, hT⟩ : ∃ T : Int, T = 1 + n3 + (1 + n4) := ⟨_, rfl⟩
  rw [← hS] at k1
  rw [← hT] at k2
  rw [← hS, ← hT]
  have hS0 : 0 ≤ S ∧ S ≤ 562949953421312 := by omega
  have hT0 : 0 ≤ T ∧ T ≤ 562949953421312 := by omega
  clear hS hT hn1 hn2 hn3 hn4
  obtain ⟨hS1, hS2⟩ := hS0
  obtain ⟨hT1, hT2⟩ := hT0
  go_enter Tryz.func31, Tryz.ntmps31
  go_wp2_with fail
  obtain ⟨wb, hwb⟩ : ∃ wb, wb = w.alloc (.cells #[.int .u8 kd, .bool b1, .slice a1 n1 c1, .bool b2, .slice a2 n2 c2, .bool b3, .slice a3 n3 c3, .bool b4, .slice a4 n4 c4] 29) := ⟨_, rfl⟩
  have hE : Ext w wb := by rw [hwb]; exact (Ext.refl w).al _
  have z0 : wb.heap[w.heap.size]? = some (.cells #[.int .u8 kd, .bool b1, .slice a1 n1 c1, .bool b2, .slice a2 n2 c2, .bool b3, .slice a3 n3 c3, .bool b4, .slice a4 n4 c4] 29 (0, 0)) := by rw [hwb]; exact heap_alloc_new _ _
  have z_0 : ∀ W, Ext wb W → W.cell? ⟨w.heap.size, 0, none⟩ = some (.int .u8 kd) := fun W e => e.cell (by simp [World.cell?, z0])
  have z_1 : ∀ W, Ext wb W → W.cell? ⟨w.heap.size, 1, none⟩ = some (.bool b1) := fun W e => e.cell (by simp [World.cell?, z0])
  have z_2 : ∀ W, Ext wb W → W.cell? ⟨w.heap.size, 2, none⟩ = some (.slice a1 n1 c1) := fun W e => e.cell (by simp [World.cell?, z0])
  have z_3 : ∀ W, Ext wb W → W.cell? ⟨w.heap.size, 3, none⟩ = some (.bool b2) := fun W e => e.cell (by simp [World.cell?, z0])
  have z_4 : ∀ W, Ext wb W → W.cell? ⟨w.heap.size, 4, none⟩ = some (.slice a2 n2 c2) := fun W e => e.cell (by simp [World.cell?, z0])
  have z_5 : ∀ W, Ext wb W → W.cell? ⟨w.heap.size, 5, none⟩ = some (.bool b3) := fun W e => e.cell (by simp [World.cell?, z0])
  have z_6 : ∀ W, Ext wb W → W.cell? ⟨w.heap.size, 6, none⟩ = some (.slice a3 n3 c3) := fun W e => e.cell (by simp [World.cell?, z0])
  have z_7 : ∀ W, Ext wb W → W.cell? ⟨w.heap.size, 7, none⟩ = some (.bool b4) := fun W e => e.cell (by simp [World.cell?, z0])
  have z_8 : ∀ W, Ext wb W → W.cell? ⟨w.heap.size, 8, none⟩ = some (.slice a4 n4 c4) := fun W e => e.cell (by simp [World.cell?, z0])
  rw [← hwb]
  replace hE := mkHid hE
  clear hwb z0
  apply region_ext [.val _, .val _, .val (.int .i64 S), .val _, .val _, .val (.int .i64 T), .val (.int .i64 (S + T))] (by kernel_rfl) (stable_vals _ (stable_vals _ (stable_vals _ (stable_vals _ (stable_vals _ (stable_vals _ (stable_vals _ trivial)))))))
  iterate 2 (refine ⟨fun W hW _ => by go_simp; exact ⟨Ext.refl _, rfl⟩, ?_⟩)
  refine ⟨fun W hW _ => ?g2, ?_⟩
  case g2 =>
    go_simp
    refine (k1.out W).mono ?_
    rintro e w' ⟨rfl, h1⟩
    exact ⟨rfl, h1⟩
  iterate 2 (refine ⟨fun W hW _ => by go_simp; exact ⟨Ext.refl _, rfl⟩, ?_⟩)
  refine ⟨fun W hW _ => ?g5, ⟨fun W hW _ => by go_simp; exact ⟨Ext.refl _, by rw [IntKind.wrap_i64]; omega⟩, ?_⟩⟩
  case g5 =>
    go_simp
    refine (k2.out W).mono ?_
    rintro e w' ⟨rfl, h1⟩
    exact ⟨rfl, h1⟩
  intro W hW _
  clear z_0 z_1 z_2 z_3 z_4 z_5 z_6 z_7 z_8
  replace hE := mkHid (hE.out.trans hW)
  clear hW
  go_simp
  go_wp2_with fail
  go_ret
  exact ⟨by trivial, hE.out⟩
set_option maxRecDepth 100000 in
set_option maxHeartbeats 1600000 in
theorem partsSize_1 (nm : ByteArray) (kd co : Int) (b1 : Bool) (a1 : Option Addr) (n1 c1 : Nat) (b2 : Bool) (a2 : Option Addr) (n2 c2 : Nat) (b3 : Bool) (a3 : Option Addr) (n3 c3 : Nat) (b4 : Bool) (a4 : Option Addr) (n4 c4 : Nat) (g : Nat) (w : World) (hn1 : n1 ≤ 140737488355328) (hn2 : n2 ≤ 140737488355328) (hn3 : n3 ≤ 140737488355328) (hn4 : n4 ≤ 140737488355328) (hnm : nm.size ≤ 140737488355328)
    (hg : w.heap[g]? = some (.cells #[.string nm, .int .u8 kd, .bool b1, .slice a1 n1 c1, .bool b2, .slice a2 n2 c2, .bool b3, .slice a3 n3 c3, .bool b4, .slice a4 n4 c4, .int .i64 co] 31 (0, 0))) :
    Calls Tryz.prog 7 #[.slice (some ⟨g, 0, none⟩) 1 1] w fun e w' => e = .returned (.int .i64 (1 + nm.size + elemS n1 n2 n3 n4)) ∧ Ext w w' := by
  have k1 := mkHid (fun w => elementSize_c kd b1 a1 n1 c1 b2 a2 n2 c2 b3 a3 n3 c3 b4 a4 n4 c4 w hn1 hn2 hn3 hn4)
  obtain ⟨hb1, hb2⟩ := elemS_b hn1 hn2 hn3 hn4
  generalize elemS n1 n2 n3 n4 = S at *
  clear hn1 hn2 hn3 hn4
  have z_0 : ∀ W, Ext w W → W.cell? ⟨g, 0, none⟩ = some (.string nm) := fun W e => e.cell (by simp [World.cell?, hg])
  have z_1 : ∀ W, Ext w W → W.cell? ⟨g, 1, none⟩ = some (.int .u8 kd) := fun W e => e.cell (by simp [World.cell?, hg])
  have z_2 : ∀ W, Ext w W → W.cell? ⟨g, 2, none⟩ = some (.bool b1) := fun W e => e.cell (by simp [World.cell?, hg])
  have z_3 : ∀ W, Ext w W → W.cell? ⟨g, 3, none⟩ = some (.slice a1 n1 c1) := fun W e => e.cell (by simp [World.cell?, hg])
  have z_4 : ∀ W, Ext w W → W.cell? ⟨g, 4, none⟩ = some (.bool b2) := fun W e => e.cell (by simp [World.cell?, hg])
  have z_5 : ∀ W, Ext w W → W.cell? ⟨g, 5, none⟩ = some (.slice a2 n2 c2) := fun W e => e.cell (by simp [World.cell?, hg])
  have z_6 : ∀ W, Ext w W → W.cell? ⟨g, 6, none⟩ = some (.bool b3) := fun W e => e.cell (by simp [World.cell?, hg])
  have z_7 : ∀ W, Ext w W → W.cell? ⟨g, 7, none⟩ = some (.slice a3 n3 c3) := fun W e => e.cell (by simp [World.cell?, hg])
  have z_8 : ∀ W, Ext w W → W.cell? ⟨g, 8, none⟩ = some (.bool b4) := fun W e => e.cell (by simp [World.cell?, hg])
  have z_9 : ∀ W, Ext w W → W.cell? ⟨g, 9, none⟩ = some (.slice a4 n4 c4) := fun W e => e.cell (by simp [World.cell?, hg])
  have z_10 : ∀ W, Ext w W → W.cell? ⟨g, 10, none⟩ = some (.int .i64 co) := fun W e => e.cell (by simp [World.cell?, hg])
  clear hg
  obtain ⟨m, hm⟩ : ∃ m, m = nm.size := ⟨_, rfl⟩
  rw [← hm] at hnm ⊢
  replace hm := mkHid hm
  go_enter Tryz.func7, Tryz.ntmps7
  go_wp2_with fail
  refine wp_loop_rounds 2 ?_
  rw [rounds_succ]
  go_wp2_with fail
  apply region_extT [.val _, .val _, .val _, .val _, .val _, .val _, .val (.int .i64 m), .val (.int .i64 (1 + m)), .val _, .val _, .val _, .val _, .val _, .val (.int .i64 S), .val (.int .i64 (1 + m + S))] (by kernel_rfl) (stable_vals _ (stable_vals _ (stable_vals _ (stable_vals _ (stable_vals _ (stable_vals _ (stable_vals _ (stable_vals _ (stable_vals _ (stable_vals _ (stable_vals _ (stable_vals _ (stable_vals _ (stable_vals _ (stable_vals _ trivial)))))))))))))))
  iterate 6 (refine ⟨fun W hW _ => by go_simp; exact ⟨Ext.refl _, rfl⟩, ?_⟩)
  refine ⟨fun W hW _ => by go_simp; first | exact ⟨Ext.refl _, hm.out.symm⟩ | exact ⟨Ext.refl _, by rw [hm.out]⟩ | exact Ext.refl _, ?_⟩
  refine ⟨fun W hW _ => by go_simp; exact ⟨Ext.refl _, by rw [IntKind.wrap_i64]; omega⟩, ?_⟩
  iterate 5 (refine ⟨fun W hW _ => by go_simp; exact ⟨Ext.refl _, rfl⟩, ?_⟩)
  refine ⟨fun W hW _ => ?g5, ⟨fun W hW _ => by go_simp; exact ⟨Ext.refl _, by rw [IntKind.wrap_i64]; omega⟩, ?_⟩⟩
  case g5 =>
    go_simp
    refine (k1.out W).mono ?_
    rintro e w' ⟨rfl, h1⟩
    exact ⟨rfl, h1⟩
  intro W hW _
  clear z_0 z_1 z_2 z_3 z_4 z_5 z_6 z_7 z_8 z_9 z_10
  replace hW := mkHid hW
  go_simp
  go_wp2_with fail
  rw [rounds_succ]
  go_wp2_with fail
  go_ret
  exact ⟨by trivial, hW.out⟩
end Go.Proofs.YtplhndmncjoghaaGreatDoor
