/-
  As FreeT, but an operation of the front may give no value (a store): printed by tools/gen_frees.py. A row that is stored early or late. law25: asked, of a catalogue that is gone: printed by tools/gen_asked.py. bench.may, bench.Check of one element, catalog.may: printed by tools/gen_may.py. polestarref01: Sign, Check, Of, Bits, Cmp, Below, Turned. polestarref01: Divide. polestarref02: turned, Lowest. Names: what is one; catalog.named. The catalogue in memory: its struct, its map, its parts; where they lie. Regions that draw their order, in which one operation that changes no memory may come late, behind operations of the tail: no program. Printed by tools/gen_late.py out of XPre. The catalogue's New, gone, Put, Drop, Get.
-/
import Derived.Test.YtkkfgphcmnhabaaGreatDoorMAG
import Derived.Test.YtkkfgphcmnhabaaGreatDoorMAF
import Derived.Test.YtkkfgphcmnhabaaGreatDoorMAE
import Derived.Test.YtkkfgphcmnhabaaGreatDoorMAD
import Derived.Test.YtkkfgphcmnhabaaGreatDoorMAC
import Derived.Deep.LoopGhost
import Derived.Test.YtkkfgphcmnhabaaGreatDoorShelf
import Derived.Shelf.Strings.SlTrimAscii
import Derived.Test.YtkkfgphcmnhabaaGreatDoorMAA
namespace Go.Proofs.YtkkfgphcmnhabaaGreatDoor
set_option maxRecDepth 100000
open Go Go.RowKit Go.Proofs
def okOperS (l : List Oper) (n i : Nat) (o : Oper) : Bool :=
  (o.after.toList.all fun e => !Region.binds .any e || decide (e.on < i)) &&
  (if i < n then
    (List.range l.length).all fun j => match l[j]? with
      | some oj => (match oj.dst with
        | some d => (!(o.looksAt l.toArray).contains d || (decide (j < i) && hasEdge o j) || decide (n ≤ j)) && (j == i || o.dst != some d)
        | none => true)
      | none => true
  else (List.range i).all fun j => ancB l 16 o j)
def okFreeS (n size : Nat) (l : List Oper) : Bool :=
  Region.noSelect l.toArray && decide (n ≤ l.length) && (l.all fun o => match o.dst with | some d => decide (d < size) | none => true) &&
    (List.range l.length).all fun i => match l[i]? with | some o => okOperS l n i o | none => true
section
variable {P : Program} {l0 : List Oper} {R : World → World → Prop} {w0 : World} {Q : Exit → Act → World → Prop}
structure OkSpecS (l : List Oper) (n size : Nat) : Prop where
  sel : ∀ (j : Nat) (o : Oper) cs b, l[j]? = some o → o.op ≠ .select cs b
  len : n ≤ l.length
  dst : ∀ (j : Nat) (o : Oper) (d : Tmp), l[j]? = some o → o.dst = some d → d < size
  edge : ∀ (i : Nat) (o : Oper), l[i]? = some o → ∀ e ∈ o.after, Region.binds .any e = true → e.on < i
  look : ∀ (i : Nat) (o : Oper) (j : Nat) (oj : Oper) (d : Tmp), i < n → l[i]? = some o → l[j]? = some oj → oj.dst = some d → d ∈ o.looksAt l.toArray → (j < i ∧ hasEdge o j = true) ∨ n ≤ j
  one : ∀ (i : Nat) (o : Oper) (j : Nat) (oj : Oper) (d : Tmp), i < n → l[i]? = some o → l[j]? = some oj → oj.dst = some d → i ≠ j → o.dst ≠ some d
  tail : ∀ (i : Nat) (o : Oper), n ≤ i → l[i]? = some o → ∀ j, j < i → ancB l 16 o j = true
theorem okFree_specS {n size : Nat} {l : List Oper} (h : okFreeS n size l = true) : OkSpecS l n size := by
  simp only [okFreeS, Bool.and_eq_true, decide_eq_true_eq, List.all_eq_true, List.mem_range] at h
  obtain ⟨⟨⟨h1, h2⟩, h3⟩, h4⟩ := h
  have at_ : ∀ i o, l[i]? = some o → okOperS l n i o = true := by
    intro i o ho
    have := h4 i (List.getElem?_eq_some_iff.1 ho).1
    rwa [ho] at this
  refine ⟨fun j o cs b hj => Region.noSelect_spec h1 j o cs b (by simpa using hj), h2, ?_, ?_, ?_, ?_, ?_⟩
  · intro j o d ho hd
    have := h3 o (List.mem_of_getElem? ho)
    simpa [hd] using this
  · intro i o ho e he hb
    have := at_ i o ho
    simp only [okOperS, Bool.and_eq_true, List.all_eq_true, Bool.or_eq_true, Bool.not_eq_true', decide_eq_true_eq] at this
    have := this.1 e (Array.mem_toList_iff.2 he)
    rcases this with h | h
    · rw [h] at hb; cases hb
    · exact h
  · intro i o j oj d hi ho hj hd hm
    have := at_ i o ho
    simp only [okOperS, Bool.and_eq_true, if_pos hi, List.all_eq_true, List.mem_range] at this
    have := this.2 j (List.getElem?_eq_some_iff.1 hj).1
    simp only [hj, hd, Bool.and_eq_true, Bool.or_eq_true, Bool.not_eq_true', decide_eq_true_eq] at this
    rcases this.1 with (h | h) | h
    · have := List.contains_iff_mem.2 hm
      rw [h] at this; cases this
    · exact .inl h
    · exact .inr h
  · intro i o j oj d hi ho hj hd hne
    have := at_ i o ho
    simp only [okOperS, Bool.and_eq_true, if_pos hi, List.all_eq_true, List.mem_range] at this
    have := this.2 j (List.getElem?_eq_some_iff.1 hj).1
    simp only [hj, hd, Bool.and_eq_true, Bool.or_eq_true, beq_iff_eq, bne_iff_ne, ne_eq] at this
    rcases this.2 with h | h
    · exact absurd h.symm hne
    · exact h
  · intro i o hi ho j hj
    have := at_ i o ho
    simp only [okOperS, Bool.and_eq_true, if_neg (Nat.not_lt.2 hi), List.all_eq_true, List.mem_range] at this
    exact this.2 j hj
/-- Where a region stands, whatever came first. -/
structure MidwayS (l : List Oper) (specs : List FSpec) (R : World → World → Prop) (w0 : World) (a0 : Act) (listed : Array Bool) (a : Act) (W : World) : Prop where
  size : listed.size = l.length
  rel : R w0 W
  defers : a.defers = a0.defers
  tsize : a.tmps.size = a0.tmps.size
  closed : ∀ (i : Nat) (o : Oper), listed.getD i false = true → l[i]? = some o → ∀ e ∈ o.after, Region.binds .any e = true → listed.getD e.on false = true
  other : ∀ (t : Tmp), (∀ (j : Nat) (o : Oper), l[j]? = some o → listed.getD j false = true → o.dst ≠ some t) → a.tmps[t]? = a0.tmps[t]?
  fact : ∀ (j : Nat) (o : Oper) (d : Tmp) (s : FSpec), listed.getD j false = true → l[j]? = some o → o.dst = some d → specs[j]? = some s → s.ok W (a.tmps.getD d undef)
  late : ∀ (j : Nat), specs.length ≤ j → listed.getD j false = false
  void : ∀ (j : Nat) (o : Oper) (s : FSpec), listed.getD j false = true → l[j]? = some o → o.dst = none → specs[j]? = some s → s.ok W undef
/-- What an operation without a slot tells does not hang on a value. -/
def VoidAll : List Oper → List FSpec → Prop
  | o :: l, s :: ss => (o.dst = none → ∀ W v, s.ok W v → s.ok W undef) ∧ VoidAll l ss
  | _, _ => True
theorem VoidAll.at_ : ∀ {l : List Oper} {ss : List FSpec} {j : Nat} {o : Oper} {s : FSpec}, VoidAll l ss → l[j]? = some o → ss[j]? = some s → o.dst = none → ∀ W v, s.ok W v → s.ok W undef
  | _ :: _, _ :: _, 0, _, _, h, h1, h2 => by
    simp at h1 h2
    subst h1 h2
    exact h.1
  | _ :: _, _ :: _, j + 1, _, _, h, h1, h2 => VoidAll.at_ (j := j) h.2 (by simpa using h1) (by simpa using h2)
  | [], _, _, _, _, _, h1, _ => by simp at h1
  | _ :: _, [], _, _, _, _, _, h2 => by simp at h2
theorem MidwayS.value {specs : List FSpec} {a0 a : Act} {listed : Array Bool} {W : World} (m : MidwayS l0 specs R w0 a0 listed a W) {j : Nat} {o : Oper} {d : Tmp} (hj : listed.getD j false = true) (ho : l0[j]? = some o) (hd : o.dst = some d) :
    a.tmps.getD d undef = valuesOf l0 specs a j := by
  have hlt : j < specs.length := by
    rcases Nat.lt_or_ge j specs.length with h | h
    · exact h
    · rw [m.late j h] at hj; cases hj
  have hs : specs[j]? = some specs[j] := List.getElem?_eq_getElem hlt
  have := m.fact j o d _ hj ho hd hs
  generalize specs[j] = s at this hs
  cases s with
  | val c => simp only [FSpec.ok] at this; simp [valuesOf, hs, this]
  | pred Φ => simp [valuesOf, hs, ho, hd]
theorem MidwayS.tmpS {specs : List FSpec} {a0 a : Act} {listed : Array Bool} {W : World} (m : MidwayS l0 specs R w0 a0 listed a W) (ok : OkSpecS l0 specs.length a0.tmps.size) (k t : Nat) (hk : k ≤ specs.length)
    (h : ∀ (j : Nat) (oj : Oper), l0[j]? = some oj → oj.dst = some t → (j < k ∧ listed.getD j false = true) ∨ specs.length ≤ j) : (frameAt a0 l0 (valuesOf l0 specs a) k).tmps[t]? = a.tmps[t]? := by
  by_cases hex : ∃ (j : Nat) (oj : Oper), l0[j]? = some oj ∧ oj.dst = some t
  · obtain ⟨j, oj, hj, hd⟩ := hex
    rcases h j oj hj hd with ⟨hjk, hlj⟩ | hge
    case inr =>
      have hfr : ∀ (i : Nat) (oi : Oper), i < specs.length → l0[i]? = some oi → oi.dst ≠ some t := fun i oi hi hoi => ok.one i oi j oj t hi hoi hj hd (by omega)
      rw [frameAt_other a0 l0 _ k t fun i oi hi hoi => hfr i oi (by omega) hoi]
      refine (m.other t fun i oi hoi hl => ?_).symm
      rcases Nat.lt_or_ge i specs.length with hi | hi
      · exact hfr i oi hi hoi
      · rw [m.late i hi] at hl; cases hl
    have ht := ok.dst j oj t hj hd
    rw [frameAt_own a0 l0 _ k t j oj hjk hj hd ht fun i o' hne ho' hd' => by
      rcases Nat.lt_or_ge i specs.length with hi | hi
      · exact ok.one i o' j oj t hi ho' hj hd hne hd'
      · exact ok.one j oj i o' t (by omega) hj ho' hd' (Ne.symm hne) hd]
    rw [← m.value hlj hj hd]
    have : t < a.tmps.size := by rw [m.tsize]; exact ht
    simp [this]
  · rw [frameAt_other a0 l0 _ k t fun j o _ ho hd => hex ⟨j, o, ho, hd⟩, m.other t fun j o ho _ hd => hex ⟨j, o, ho, hd⟩]
/-- One operation more, none of the tail. -/
theorem MidwayS.stepS {specs : List FSpec} {a0 a : Act} {listed : Array Bool} {W : World} (m : MidwayS l0 specs R w0 a0 listed a W) (ok : OkSpecS l0 specs.length a0.tmps.size) (hrf : ∀ a, R a a) (htr : ∀ a b c, R a b → R b c → R a c)
    (hst : ∀ s ∈ specs, ∀ W W' v, R W W' → s.ok W v → s.ok W' v) (hvo : VoidAll l0 specs) (h : freeSteps P l0 R w0 Q 0 specs l0 a0 []) {i : Nat} (hi : i < specs.length) (hr : i ∈ Region.ready .any l0.toArray listed) :
    wpOp P l0.toArray Q i (fun a' W' => MidwayS l0 specs R w0 a0 (listed.setIfInBounds i true) a' W') a W := by
  obtain ⟨hun, o, ho', hedge⟩ := mem_ready.1 hr
  have ho : l0[i]? = some o := by simpa using ho'
  have hil : i < l0.length := (List.getElem?_eq_some_iff.1 ho).1
  have hlt : i < listed.size := by rw [m.size]; exact hil
  have hat := steps_at h (valuesOf l0 specs a) (valuesOf_fits l0 specs a) i (by omega)
  rw [List.drop_eq_getElem_cons hi, List.drop_eq_getElem_cons hil] at hat
  have hs : specs[i]? = some specs[i] := List.getElem?_eq_getElem hi
  have hoi : l0[i] = o := by
    have := List.getElem?_eq_getElem hil
    rw [ho] at this
    exact (Option.some.inj this).symm
  rw [hoi] at hat
  have hfacts : ∀ p ∈ factsAt specs (valuesOf l0 specs a) i, leans l0 o p.1 = true → p.2.1.ok W p.2.2 := by
    intro p hp hl
    obtain ⟨h1, h2, h3⟩ := mem_factsAt hp
    unfold leans at hl
    split at hl
    · rename_i d hd
      obtain ⟨oj, hj, hdj⟩ := Option.bind_eq_some_iff.1 hd
      have hlook := (ok.look i o p.1 oj d hi ho hj hdj (List.contains_iff_mem.1 hl)).resolve_right (by omega)
      have hlj : listed.getD p.1 false = true := listed_anc (l0 := l0) m.closed 0 o p.1 hedge hlook.2
      have := m.fact p.1 oj d p.2.1 hlj hj hdj h2
      rw [h3, ← m.value hlj hj hdj]
      exact this
    · cases hl
  have hsame : ∀ t, t ∈ o.looksAt l0.toArray → (frameAt a0 l0 (valuesOf l0 specs a) i).tmps[t]? = a.tmps[t]? := by
    intro t ht
    refine m.tmpS ok i t (by omega) fun j oj hj hdj => ?_
    rcases ok.look i o j oj t hi ho hj hdj ht with hlook | hlook
    · exact .inl ⟨hlook.1, listed_anc (l0 := l0) m.closed 0 o j hedge hlook.2⟩
    · exact .inr hlook
  have hev : execOp (frameAt a0 l0 (valuesOf l0 specs a) i).eval o = execOp a.eval o := eval_of_tmps o (fun cs b => ok.sel i o cs b ho) hsame
  have hwa : Region.wanted o (yielded l0.toArray (frameAt a0 l0 (valuesOf l0 specs a) i).tmps) = Region.wanted o (yielded l0.toArray a.tmps) := wanted_of_tmps o hsame
  -- what is left to show of each value
  have next : ∀ W' v, R W W' → specs[i].ok W' v → MidwayS l0 specs R w0 a0 (listed.setIfInBounds i true) (a.put o.dst v) W' := by
    intro W' v hR hv
    refine ⟨by simpa using m.size, htr _ _ _ m.rel hR, ?_, ?_, ?_, ?_, ?_, ?_, ?_⟩
    · rw [← m.defers]; cases o.dst <;> rfl
    · rw [← m.tsize]; cases hd : o.dst <;> simp [Act.put]
    · intro j oj hj hoj e he hb
      by_cases hij : i = j
      · subst hij
        rw [ho] at hoj; cases hoj
        exact getD_set_true (hedge e he hb)
      · rw [getD_set_ne false hij] at hj
        exact getD_set_true (m.closed j oj hj hoj e he hb)
    · intro t ht
      have hne : o.dst ≠ some t := ht i o ho (by simp [hlt])
      rw [← m.other t fun j oj hoj hj => ht j oj hoj (by
        by_cases hij : i = j
        · subst hij; simp [hlt]
        · rw [getD_set_ne false hij]; exact hj)]
      cases hd : o.dst with
      | none => rfl
      | some d =>
        have : d ≠ t := fun e => hne (by rw [hd, e])
        simp [Act.put, Array.getElem?_setIfInBounds_ne this]
    · intro j oj d s hj hoj hdj hsj
      by_cases hij : i = j
      · subst hij
        rw [ho] at hoj; cases hoj
        rw [hs] at hsj; cases hsj
        have hsz : d < a.tmps.size := by rw [m.tsize]; exact ok.dst i _ d ho hdj
        simpa [Act.put, hdj, hsz] using hv
      · rw [getD_set_ne false hij] at hj
        have hf := m.fact j oj d s hj hoj hdj hsj
        have hf := hst s (List.mem_of_getElem? hsj) _ _ _ hR hf
        have hnd : o.dst ≠ some d := ok.one i o j oj d hi ho hoj hdj hij
        cases hd : o.dst with
        | none => simpa [Act.put] using hf
        | some e =>
          have : e ≠ d := fun e' => hnd (by rw [hd, e'])
          simpa [Act.put, Array.getElem?_setIfInBounds_ne this] using hf
    · intro j hj
      rw [getD_set_ne false (show i ≠ j by omega)]
      exact m.late j hj
    · intro j oj s hj hoj hdj hsj
      by_cases hij : i = j
      · subst hij
        rw [ho] at hoj; cases hoj
        rw [hs] at hsj; cases hsj
        exact hvo.at_ ho hs hdj _ _ hv
      · rw [getD_set_ne false hij] at hj
        exact hst s (List.mem_of_getElem? hsj) _ _ _ hR (m.void j oj s hj hoj hdj hsj)
  unfold wpOp
  simp only [List.getElem?_toArray, ho]
  generalize hsp : specs[i] = s at hat next
  cases s with
  | val c =>
    simp only [freeSteps] at hat
    have hone := hat.1 W m.rel (factsHold_of hfacts)
    rw [hwa, hev] at hone
    split
    · rename_i hw
      rw [if_pos hw] at hone
      refine .inl (upon_of_gives hone fun w' v hv => next _ _ hv.1 hv.2)
    · rename_i hw
      rw [if_neg hw] at hone
      exact next W undef (hrf W) hone
  | pred Φ =>
    simp only [freeSteps] at hat
    have hone := hat.1 W m.rel (factsHold_of hfacts)
    rw [hwa, hev] at hone
    split
    · rename_i hw
      rw [if_pos hw] at hone
      refine .inl (upon_of_gives hone fun w' v hv => next _ _ hv.1 hv.2)
    · rename_i hw
      rw [if_neg hw] at hone
      exact next W undef (hrf W) hone
/-- All of the front is done, and nothing else: the frame is the lexical walk's. -/
theorem MidwayS.doneS {specs : List FSpec} {a0 a : Act} {listed : Array Bool} {W : World} (m : MidwayS l0 specs R w0 a0 listed a W) (ok : OkSpecS l0 specs.length a0.tmps.size) (hall : ∀ j, j < specs.length → listed.getD j false = true) :
    a = frameAt a0 l0 (valuesOf l0 specs a) specs.length ∧ ∀ p ∈ factsAt specs (valuesOf l0 specs a) specs.length, p.2.1.ok W p.2.2 := by
  refine ⟨?_, fun p hp => ?_⟩
  · obtain ⟨tm, df⟩ := a
    have hdf := frameAt_defers a0 l0 (valuesOf l0 specs ⟨tm, df⟩) specs.length
    have htm : tm = (frameAt a0 l0 (valuesOf l0 specs ⟨tm, df⟩) specs.length).tmps := by
      refine Array.ext_getElem? fun t => ?_
      by_cases hex : ∃ (j : Nat) (oj : Oper), l0[j]? = some oj ∧ oj.dst = some t ∧ specs.length ≤ j
      · obtain ⟨j, oj, hj, hd, hge⟩ := hex
        by_cases hin : ∃ (i : Nat) (oi : Oper), l0[i]? = some oi ∧ oi.dst = some t ∧ i < specs.length
        · obtain ⟨i, oi, hi, hdi, hlt⟩ := hin
          exact absurd hdi (ok.one i oi j oj t hlt hi hj hd (by omega))
        · rw [frameAt_other a0 l0 _ _ t fun i o hi ho hd' => hin ⟨i, o, ho, hd', hi⟩]
          refine m.other t fun i o ho hl hd' => ?_
          rcases Nat.lt_or_ge i specs.length with h | h
          · exact hin ⟨i, o, ho, hd', h⟩
          · rw [m.late i h] at hl; cases hl
      · refine (m.tmpS ok specs.length t (Nat.le_refl _) fun j oj hj hd => ?_).symm
        have hlt : j < specs.length := by
          rcases Nat.lt_or_ge j specs.length with h | h
          · exact h
          · exact absurd ⟨j, oj, hj, hd, h⟩ hex
        exact .inl ⟨hlt, hall j hlt⟩
    have h1 : (frameAt a0 l0 (valuesOf l0 specs ⟨tm, df⟩) specs.length).defers = df := by rw [hdf, ← m.defers]
    generalize frameAt a0 l0 (valuesOf l0 specs ⟨tm, df⟩) specs.length = f at htm h1
    obtain ⟨ft, fd⟩ := f
    simp only at htm h1
    rw [htm, h1]
  · obtain ⟨h1, h2, h3⟩ := mem_factsAt hp
    have hil : p.1 < l0.length := by have := ok.len; omega
    have ho : l0[p.1]? = some l0[p.1] := List.getElem?_eq_getElem hil
    rw [h3]
    cases hd : l0[p.1].dst with
    | some d =>
      rw [← m.value (hall p.1 h1) ho hd]
      exact m.fact p.1 _ d _ (hall p.1 h1) ho hd h2
    | none =>
      have hv := m.void p.1 _ _ (hall p.1 h1) ho hd h2
      have he : valuesOf l0 specs a p.1 = undef ∨ ∃ c, p.2.1 = .val c := by
        cases hq : p.2.1 with
        | val c => exact .inr ⟨c, rfl⟩
        | pred Φ => exact .inl (by simp [valuesOf, h2, hq, ho, hd])
      rcases he with he | ⟨c, he⟩
      · rw [he]; exact hv
      · rw [he] at h2
        have hc : valuesOf l0 specs a p.1 = c := by simp [valuesOf, h2]
        rw [hc, he]; rfl
theorem free_anyS {specs : List FSpec} {a0 : Act} (ok : OkSpecS l0 specs.length a0.tmps.size) (hrf : ∀ a, R a a) (htr : ∀ a b c, R a b → R b c → R a c)
    (hst : ∀ s ∈ specs, ∀ W W' v, R W W' → s.ok W v → s.ok W' v) (hvo : VoidAll l0 specs) (h : freeSteps P l0 R w0 Q 0 specs l0 a0 []) :
    ∀ (fuel : Nat) (listed : Array Bool) (a : Act) (W : World), left l0 listed ≤ fuel → MidwayS l0 specs R w0 a0 listed a W → wpAny P .any l0.toArray Q fuel listed a W := by
  have fin : ∀ (listed : Array Bool) (a : Act) (W : World), MidwayS l0 specs R w0 a0 listed a W → (∀ j, j < specs.length → listed.getD j false = true) → wpList P l0.toArray Q (l0.drop specs.length) a W := by
    intro listed a W m hall
    obtain ⟨he, hf⟩ := m.doneS ok hall
    have hat := steps_at h (valuesOf l0 specs a) (valuesOf_fits l0 specs a) specs.length (Nat.le_refl _)
    rw [List.drop_length] at hat
    simp only [freeSteps] at hat
    have := hat W m.rel (factsHold_of fun p hp _ => hf p hp)
    rwa [← he] at this
  have hlst : ∀ (listed : Array Bool) (a : Act) (W : World), MidwayS l0 specs R w0 a0 listed a W → (∀ j, j < specs.length → listed.getD j false = true) → ∀ i, i < l0.length → (listed.getD i false = true ↔ i < specs.length) := by
    intro listed a W m hall i hi
    constructor
    · intro hl
      rcases Nat.lt_or_ge i specs.length with h | h
      · exact h
      · rw [m.late i h] at hl; cases hl
    · exact hall i
  intro fuel
  induction fuel with
  | zero =>
    intro listed a W hl m
    have hnone : ∀ i, i < l0.length → listed.getD i true = true := by
      intro i hi
      have h0 : ((List.range l0.length).filter fun i => !listed.getD i true) = [] := List.eq_nil_of_length_eq_zero (by unfold left at hl; omega)
      have := List.filter_eq_nil_iff.1 h0 i (List.mem_range.2 hi)
      simpa using this
    have hall : ∀ j, j < specs.length → listed.getD j false = true := by
      intro j hj
      have h1 := hnone j (by have := ok.len; omega)
      rcases listed_cases (listed := listed) (i := j) (by rw [m.size]; have := ok.len; omega) with h2 | h2
      · exact h2
      · rw [h2] at h1; cases h1
    have hn : specs.length = l0.length := by
      rcases Nat.lt_or_ge specs.length l0.length with h1 | h1
      · have h2 := hnone specs.length h1
        have h3 := m.late specs.length (Nat.le_refl _)
        rcases listed_cases (listed := listed) (i := specs.length) (by rw [m.size]; exact h1) with h4 | h4
        · rw [h4] at h3; cases h3
        · rw [h4] at h2; cases h2
      · have := ok.len; omega
    exact tail_forced ok.tail 0 specs.length listed a W 0 (Nat.le_refl _) hn (Nat.le_refl _) m.size m.closed (hlst _ _ _ m hall) ok.edge (fin _ _ _ m hall)
  | succ fuel ih =>
    intro listed a W hl m
    by_cases hall : ∀ j, j < specs.length → listed.getD j false = true
    · refine tail_forced ok.tail (l0.length - specs.length) specs.length listed a W (fuel + 1) (Nat.le_refl _) (by have := ok.len; omega) ?_ m.size m.closed (hlst _ _ _ m hall) ok.edge (fin _ _ _ m hall)
      have := left_ge (l := l0) (listed := listed) (n := specs.length) fun i h1 h2 => by
        have := m.late i h1
        have hlt : i < listed.size := by rw [m.size]; exact h2
        simpa [hlt] using this
      omega
    · refine ⟨fun h0 => ?_, fun i hi => ?_⟩
      · refine absurd (fun j => ?_) hall
        induction j using Nat.strongRecOn with
        | _ j ihj =>
          intro hj
          have hjl : j < l0.length := by have := ok.len; omega
          have hoj : l0[j]? = some l0[j] := List.getElem?_eq_getElem hjl
          rcases listed_cases (listed := listed) (i := j) (by rw [m.size]; exact hjl) with h1 | h1
          · exact h1
          · have hm : j ∈ Region.ready .any l0.toArray listed := mem_ready.2 ⟨h1, l0[j], by simp [hjl], fun e he hb => by
              have := ok.edge j _ hoj e he hb
              exact ihj e.on this (by omega)⟩
            rw [h0] at hm
            cases hm
      · obtain ⟨hun, o, ho', hedge⟩ := mem_ready.1 hi
        have hil : i < l0.length := by have := lt_of_unlisted hun; rw [m.size] at this; exact this
        have hn : i < specs.length := by
          rcases Nat.lt_or_ge i specs.length with h1 | h1
          · exact h1
          · exact absurd (fun j hj => listed_anc m.closed 16 o j hedge (ok.tail i o h1 (by simpa using ho') j (by omega))) hall
        exact wpOp_mono (fun a' W' m' => ih _ a' W' (by have := left_set hil hun; omega) m') (m.stepS ok hrf htr hst hvo h hn hi)
theorem region_freeS {id : Nat} {l : List Oper} {a : Act} {w : World} (R : World → World → Prop) (specs : List FSpec) (hm : P.follows .mixedOrders = true) (hok : okFreeS specs.length a.tmps.size l = true)
    (hrf : ∀ a, R a a) (htr : ∀ a b c, R a b → R b c → R a c) (hdr : ∀ a, R a a.drew) (hst : ∀ s ∈ specs, ∀ W W' v, R W W' → s.ok W v → s.ok W' v) (hvo : VoidAll l specs)
    (h : freeSteps P l R w Q 0 specs l a []) : (Code.region id l.toArray true).wp P Q a w := by
  refine wp_region_any hm ?_
  have hsz : l.toArray.size = l.length := by simp
  have hget : ∀ i : Nat, (Array.replicate l.toArray.size false).getD i false = false := by
    intro i
    rw [Array.getD_eq_getD_getElem?, Array.getElem?_replicate]
    split <;> rfl
  refine free_anyS (okFree_specS hok) hrf htr hst hvo h _ _ _ _ ?_ ⟨by simp, hdr w, rfl, rfl, ?_, ?_, ?_, ?_, ?_⟩
  · unfold left
    refine Nat.le_trans (List.length_filter_le _ _) ?_
    simp
  · intro i o hi
    rw [hget] at hi; cases hi
  · intro t _; rfl
  · intro j o d s hj
    rw [hget] at hj; cases hj
  · intro j _
    exact hget j
  · intro j o s hj
    rw [hget] at hj; cases hj
end
/-- Nothing below has changed but one row, and that has its new cells. -/
structure StR (g : Nat) (new : Array Value) (T : TypeId) (w w' : World) : Prop where
  os : w'.os = w.os
  tape : w'.tape = w.tape
  output : w'.output = w.output
  size : w.heap.size ≤ w'.heap.size
  block : ∀ k, k < w.heap.size → k ≠ g → w'.heap[k]? = w.heap[k]?
  row : w'.heap[g]? = w.heap[g]? ∨ w'.heap[g]? = some (.cells new T (0, 0)) ∨ w.heap.size ≤ g
theorem StR.of_ext {g : Nat} {new : Array Value} {T : TypeId} {w w' : World} (e : Ext w w') : StR g new T w w' :=
  ⟨e.os, e.tape, e.output, e.size, fun k h _ => e.block k h, by
    rcases Nat.lt_or_ge g w.heap.size with h | h
    · exact .inl (e.block g h)
    · exact .inr (.inr h)⟩
theorem StR.refl (g : Nat) (new : Array Value) (T : TypeId) (w : World) : StR g new T w w := .of_ext (Ext.refl w)
theorem StR.trans {g : Nat} {new : Array Value} {T : TypeId} {a b c : World} (h : StR g new T a b) (k : StR g new T b c) : StR g new T a c := by
  refine ⟨k.os.trans h.os, k.tape.trans h.tape, k.output.trans h.output, Nat.le_trans h.size k.size, fun i hi hn => (k.block i (Nat.lt_of_lt_of_le hi h.size) hn).trans (h.block i hi hn), ?_⟩
  rcases k.row with e | e | e
  · rcases h.row with f | f | f
    · exact .inl (e.trans f)
    · exact .inr (.inl (e.trans f))
    · exact .inr (.inr f)
  · exact .inr (.inl e)
  · exact .inr (.inr (Nat.le_trans h.size e))
theorem StR.blk {g k : Nat} {new : Array Value} {T : TypeId} {w w' : World} {o : Obj} (h : StR g new T w w') (hk : w.heap[k]? = some o) (hne : k ≠ g) : w'.heap[k]? = some o :=
  (h.block k (Array.getElem?_eq_some_iff.1 hk).1 hne).trans hk
theorem StR.cell {g : Nat} {new : Array Value} {T : TypeId} {w w' : World} (h : StR g new T w w') {a : Addr} {v : Value} (hc : w.cell? a = some v) (hne : a.block ≠ g) : w'.cell? a = some v :=
  (World.cell?_of_block (h.block a.block (World.block_lt_of_cell? w a hc) hne)).trans hc
/-- The row has cells of its type, old or new. -/
theorem StR.has {g : Nat} {new old : Array Value} {T : TypeId} {w w' : World} (h : StR g new T w w') (ho : w.heap[g]? = some (.cells old T (0, 0))) : ∃ cs, w'.heap[g]? = some (.cells cs T (0, 0)) ∧ (cs = old ∨ cs = new) := by
  rcases h.row with e | e | e
  · exact ⟨old, e.trans ho, .inl rfl⟩
  · exact ⟨new, e, .inr rfl⟩
  · have := (Array.getElem?_eq_some_iff.1 ho).1
    omega
theorem StR.set {g : Nat} {new old : Array Value} {T : TypeId} {w : World} (ho : w.heap[g]? = some (.cells old T (0, 0))) : StR g new T w (w.setRow g new) := by
  refine ⟨rfl, rfl, rfl, by simp, fun k _ hne => setRow_other _ _ _ _ hne, .inr (.inl (setRow_heap _ _ _ _ _ _ ho))⟩
theorem StR.ext {g : Nat} {new : Array Value} {T : TypeId} {b w w' : World} (hb : Ext b w) (h : StR g new T w w') (hg : b.heap.size ≤ g) : Ext b w' :=
  ⟨h.os.trans hb.os, h.tape.trans hb.tape, h.output.trans hb.output, Nat.le_trans hb.size h.size, fun k hk => (h.block k (Nat.lt_of_lt_of_le hk hb.size) (by omega)).trans (hb.block k hk)⟩
end Go.Proofs.YtkkfgphcmnhabaaGreatDoor
namespace Go.Proofs.YtkkfgphcmnhabaaGreatDoor
set_option maxRecDepth 100000
open Go Go.RowKit Go.Proofs
/-- Where a walk stands. -/
inductive Tok : Nat → Prop
  | mk (n : Nat) : Tok n
theorem TwG.str {w w' : World} {g k T : Nat} {l : List Nat} {new : Array Value} (h : TwG w g l) (e : StR k new T w w') (hne : g ≠ k) : TwG w' g l := ⟨h.1, e.blk h.2 hne⟩
end Go.Proofs.YtkkfgphcmnhabaaGreatDoor
namespace Go.Proofs.YtkkfgphcmnhabaaGreatDoor
set_option maxRecDepth 100000
open Go Go.RowKit Go.Proofs
/-- May an element be, by its kind and its fractions' signs? -/
def mayS (kd sp sq : Int) : Bool :=
  if kd = 1 then decide (0 ≤ sp) && (sq == 0) else if kd = 2 then sq == 0 else if kd = 3 then decide (0 ≤ sp) && decide (0 < sq) else if kd = 4 then true else if kd = 5 then (sp == 0) && (sq == 0) else false
def mayO (kd : Int) : Option Rat → Option Rat → Bool
  | some p, some q => mayS kd p.num.sign q.num.sign
  | _, _ => false
theorem mayO_none (kd : Int) {op oq : Option Rat} (h : [op, oq].all Option.isSome = false) : mayO kd op oq = false := by
  cases op <;> cases oq <;> first | rfl | (simp at h)
set_option maxHeartbeats 1600000 in
theorem benchMay_c (kd : Int) (b1 : Bool) (a1 : Option Addr) (n1 c1 : Nat) (b2 : Bool) (a2 : Option Addr) (n2 c2 : Nat) (b3 : Bool) (a3 : Option Addr) (n3 c3 : Nat) (b4 : Bool) (a4 : Option Addr) (n4 c4 : Nat) (op oq : Option Rat) (w : World) (h1 : AnyF w (.agg #[.bool b1, .slice a1 n1 c1, .bool b2, .slice a2 n2 c2]) op) (h2 : AnyF w (.agg #[.bool b3, .slice a3 n3 c3, .bool b4, .slice a4 n4 c4]) oq) :
    Calls Tryz.prog 32 #[.agg #[.int .u8 kd, .bool b1, .slice a1 n1 c1, .bool b2, .slice a2 n2 c2, .bool b3, .slice a3 n3 c3, .bool b4, .slice a4 n4 c4]] w fun e w' => e = .returned (.bool (mayO kd op oq)) ∧ Ext w w' := by
  obtain ⟨wb, hwb⟩ : ∃ wb, wb = w.alloc (.cells #[.int .u8 kd, .bool b1, .slice a1 n1 c1, .bool b2, .slice a2 n2 c2, .bool b3, .slice a3 n3 c3, .bool b4, .slice a4 n4 c4] 36) := ⟨_, rfl⟩
  have hE : Ext w wb := by rw [hwb]; exact (Ext.refl w).al _
  have z0 : wb.heap[w.heap.size]? = some (.cells #[.int .u8 kd, .bool b1, .slice a1 n1 c1, .bool b2, .slice a2 n2 c2, .bool b3, .slice a3 n3 c3, .bool b4, .slice a4 n4 c4] 36 (0, 0)) := by rw [hwb]; exact heap_alloc_new _ _
  have hsz : wb.heap.size = w.heap.size + 1 := by rw [hwb]; simp
  obtain ⟨w2, hw2⟩ : ∃ w2, w2 = wb.alloc (.cells #[.bool b1, .slice a1 n1 c1, .bool b2, .slice a2 n2 c2, .bool b3, .slice a3 n3 c3, .bool b4, .slice a4 n4 c4] 34) := ⟨_, rfl⟩
  have hE2 : Ext wb w2 := by rw [hw2]; exact (Ext.refl wb).al _
  have zS : w2.heap[w.heap.size + 1]? = some (.cells #[.bool b1, .slice a1 n1 c1, .bool b2, .slice a2 n2 c2, .bool b3, .slice a3 n3 c3, .bool b4, .slice a4 n4 c4] 34 (0, 0)) := by rw [hw2, ← hsz]; exact heap_alloc_new _ _
  have H1 := mkHid (fun W (e : Ext w W) => h1.ext e)
  have H2 := mkHid (fun W (e : Ext w W) => h2.ext e)
  have HC := checks_f (w.heap.size + 1) 2 [op, oq] w2 (by simp) (lf_two zS (h1.ext (hE.trans hE2)) (h2.ext (hE.trans hE2)))
  have z02 := mkHid (hE2.blk z0)
  replace z0 := mkHid z0
  replace hE := mkHid (hE.trans hE2)
  replace hwb := mkHid hwb
  replace hw2 := mkHid hw2
  replace hsz := mkHid hsz
  clear hE2 zS
  cases hb : [op, oq].all Option.isSome with
  | false =>
    rw [hb] at HC
    rw [mayO_none kd hb]
    replace HC := mkHid HC
    clear hb h1 h2 H1 H2
    go_enter Tryz.func32, Tryz.ntmps32
    have tok : Tok 0 := .mk _
    go_wp2_with (first
      | ((have _t : Tok 0 := tok); clear _t; clear tok; (have tok : Tok 1 := .mk _); rw [← hwb.out]; refine wpList_load_sub (by rfl) 34 (.tmp 5) rfl (w.heap.size) 1 rfl 36 #[.int .u8 kd, .bool b1, .slice a1 n1 c1, .bool b2, .slice a2 n2 c2, .bool b3, .slice a3 n3 c3, .bool b4, .slice a4 n4 c4] #[.bool b1, .slice a1 n1 c1, .bool b2, .slice a2 n2 c2] (0, 0) _ z0.out rfl Tryz.underlying34 rfl (by kernel_rfl) ?_)
      | ((have _t : Tok 1 := tok); clear _t; clear tok; (have tok : Tok 2 := .mk _); refine wpList_load_sub (by rfl) 34 (.tmp 7) rfl (w.heap.size) 5 rfl 36 #[.int .u8 kd, .bool b1, .slice a1 n1 c1, .bool b2, .slice a2 n2 c2, .bool b3, .slice a3 n3 c3, .bool b4, .slice a4 n4 c4] #[.bool b3, .slice a3 n3 c3, .bool b4, .slice a4 n4 c4] (0, 0) _ z0.out rfl Tryz.underlying34 rfl (by kernel_rfl) ?_)
      | ((have _t : Tok 2 := tok); clear _t; clear tok; (have tok : Tok 3 := .mk _); go_at_call 50; rw [← hw2.out, hsz.out]; refine HC.out.mono ?_; rintro e w3 ⟨rfl, hx⟩; replace hE := mkHid (hE.out.trans hx); replace z0 := mkHid (hx.blk z02.out); clear hx z02))
    go_ret
    exact ⟨rfl, hE.out⟩
  | true =>
    obtain ⟨p, rfl⟩ : ∃ p, op = some p := by cases op with
      | none => simp at hb
      | some p => exact ⟨p, rfl⟩
    obtain ⟨q, rfl⟩ : ∃ q, oq = some q := by cases oq with
      | none => simp at hb
      | some q => exact ⟨q, rfl⟩
    rw [hb] at HC
    replace HC := mkHid HC
    obtain ⟨f1, k1⟩ := h1.frac
    obtain ⟨f2, k2⟩ := h2.frac
    have S1 := mkHid (fun W (e : Ext w W) => sign_f _ p W (Nat.le_trans k1 (by decide)) (f1.ext e))
    have S2 := mkHid (fun W (e : Ext w W) => sign_f _ q W (Nat.le_trans k2 (by decide)) (f2.ext e))
    rw [show mayO kd (some p) (some q) = mayS kd p.num.sign q.num.sign from rfl]
    generalize p.num.sign = sp at *
    generalize q.num.sign = sq at *
    clear hb h1 h2 H1 H2 f1 f2 k1 k2
    go_enter Tryz.func32, Tryz.ntmps32
    have tok : Tok 4 := .mk _
    go_wp2_with (first
      | ((have _t : Tok 4 := tok); clear _t; clear tok; (have tok : Tok 5 := .mk _); rw [← hwb.out]; refine wpList_load_sub (by rfl) 34 (.tmp 5) rfl (w.heap.size) 1 rfl 36 #[.int .u8 kd, .bool b1, .slice a1 n1 c1, .bool b2, .slice a2 n2 c2, .bool b3, .slice a3 n3 c3, .bool b4, .slice a4 n4 c4] #[.bool b1, .slice a1 n1 c1, .bool b2, .slice a2 n2 c2] (0, 0) _ z0.out rfl Tryz.underlying34 rfl (by kernel_rfl) ?_)
      | ((have _t : Tok 5 := tok); clear _t; clear tok; (have tok : Tok 6 := .mk _); refine wpList_load_sub (by rfl) 34 (.tmp 7) rfl (w.heap.size) 5 rfl 36 #[.int .u8 kd, .bool b1, .slice a1 n1 c1, .bool b2, .slice a2 n2 c2, .bool b3, .slice a3 n3 c3, .bool b4, .slice a4 n4 c4] #[.bool b3, .slice a3 n3 c3, .bool b4, .slice a4 n4 c4] (0, 0) _ z0.out rfl Tryz.underlying34 rfl (by kernel_rfl) ?_)
      | ((have _t : Tok 6 := tok); clear _t; clear tok; (have tok : Tok 7 := .mk _); go_at_call 50; rw [← hw2.out, hsz.out]; refine HC.out.mono ?_; rintro e w3 ⟨rfl, hx⟩; replace hE := mkHid (hE.out.trans hx); replace z0 := mkHid (hx.blk z02.out); clear hx z02))
    apply region_ext [.val (.pointer (some ⟨w.heap.size, 1, none⟩)), .val (.agg #[.bool b1, .slice a1 n1 c1, .bool b2, .slice a2 n2 c2]), .val (.int .i64 sp), .val (.pointer (some ⟨w.heap.size, 5, none⟩)), .val (.agg #[.bool b3, .slice a3 n3 c3, .bool b4, .slice a4 n4 c4]), .val (.int .i64 sq)] (by kernel_rfl) (stable_vals _ (stable_vals _ (stable_vals _ (stable_vals _ (stable_vals _ (stable_vals _ trivial))))))
    refine ⟨fun W hW _ => by go_simp; first | exact ⟨Ext.refl _, rfl⟩ | exact Ext.refl _, ?_⟩
    refine ⟨?l1, ?_⟩
    case l1 =>
      intro W hW hF
      have hr := hW.blk z0.out
      with_reducible refine fr_load_sub ?zhw 34 (.tmp 12) ?zho w.heap.size 1 ?zhx 36 _ #[.bool b1, .slice a1 n1 c1, .bool b2, .slice a2 n2 c2] (0, 0) _ hr ?zhs Tryz.underlying34 ?zhd ?zhi ?zh
      case zhw => kernel_rfl
      case zho => rfl
      case zhx => kernel_rfl
      case zhs => rfl
      case zhd => rfl
      case zhi => kernel_rfl
      case zh => exact ⟨Ext.refl _, rfl⟩
    refine ⟨fun W hW _ => ?s1, ?_⟩
    case s1 =>
      go_simp
      refine (S1.out W (hE.out.trans hW)).mono ?_
      rintro e w' ⟨rfl, hx⟩
      exact ⟨rfl, hx⟩
    refine ⟨fun W hW _ => by go_simp; first | exact ⟨Ext.refl _, rfl⟩ | exact Ext.refl _, ?_⟩
    refine ⟨?l2, ?_⟩
    case l2 =>
      intro W hW hF
      have hr := hW.blk z0.out
      with_reducible refine fr_load_sub ?zhw 34 (.tmp 15) ?zho w.heap.size 5 ?zhx 36 _ #[.bool b3, .slice a3 n3 c3, .bool b4, .slice a4 n4 c4] (0, 0) _ hr ?zhs Tryz.underlying34 ?zhd ?zhi ?zh
      case zhw => kernel_rfl
      case zho => rfl
      case zhx => kernel_rfl
      case zhs => rfl
      case zhd => rfl
      case zhi => kernel_rfl
      case zh => exact ⟨Ext.refl _, rfl⟩
    refine ⟨fun W hW _ => ?s2, fun W hW _ => ?fin⟩
    case s2 =>
      go_simp
      refine (S2.out W (hE.out.trans hW)).mono ?_
      rintro e w' ⟨rfl, hx⟩
      exact ⟨rfl, hx⟩
    case fin =>
      replace z0 := hW.blk z0.out
      replace hE := mkHid (hE.out.trans hW)
      have y0 := row16_cells z0 0
      replace y0 : W.cell? ⟨w.heap.size, 0, none⟩ = some (.int .u8 kd) := y0
      clear hW z0 S1 S2 HC
      go_simp
      by_cases k1 : kd = 1
      · subst k1
        by_cases hs : 0 ≤ sp
        · have e1 : decide (0 ≤ sp) = true := by simp [hs]
          go_wp2_with fail
          go_ret
          exact ⟨by simp [mayS, hs], hE.out⟩
        · have e1 : decide (0 ≤ sp) = false := by simp [hs]
          go_wp2_with fail
          go_ret
          exact ⟨by simp [mayS]; intro h; omega, hE.out⟩
      by_cases k2 : kd = 2
      · subst k2
        go_wp2_with fail
        go_ret
        exact ⟨by simp [mayS], hE.out⟩
      by_cases k3 : kd = 3
      · subst k3
        by_cases hs : 0 ≤ sp
        · have e1 : decide (0 ≤ sp) = true := by simp [hs]
          go_wp2_with fail
          go_ret
          exact ⟨by simp [mayS, hs], hE.out⟩
        · have e1 : decide (0 ≤ sp) = false := by simp [hs]
          go_wp2_with fail
          go_ret
          exact ⟨by simp [mayS]; intro h; omega, hE.out⟩
      by_cases k4 : kd = 4
      · subst k4
        go_wp2_with fail
        go_ret
        exact ⟨by simp [mayS], hE.out⟩
      by_cases k5 : kd = 5
      · subst k5
        by_cases hs : sp = 0
        · subst hs
          go_wp2_with fail
          go_ret
          exact ⟨by simp [mayS], hE.out⟩
        · have e1 : (sp == 0) = false := by simpa using hs
          go_wp2_with fail
          go_ret
          exact ⟨by simp [mayS, hs], hE.out⟩
      have d1 : (kd == 1) = false := by simpa using k1
      have d2 : (kd == 2) = false := by simpa using k2
      have d3 : (kd == 3) = false := by simpa using k3
      have d4 : (kd == 4) = false := by simpa using k4
      have d5 : (kd == 5) = false := by simpa using k5
      go_wp2_with fail
      go_ret
      exact ⟨by simp [mayS, k1, k2, k3, k4, k5], hE.out⟩
set_option maxHeartbeats 1600000 in
theorem benchCheck_1 (kd : Int) (b1 : Bool) (a1 : Option Addr) (n1 c1 : Nat) (b2 : Bool) (a2 : Option Addr) (n2 c2 : Nat) (b3 : Bool) (a3 : Option Addr) (n3 c3 : Nat) (b4 : Bool) (a4 : Option Addr) (n4 c4 : Nat) (op oq : Option Rat) (g : Nat) (w : World) (h1 : AnyF w (.agg #[.bool b1, .slice a1 n1 c1, .bool b2, .slice a2 n2 c2]) op) (h2 : AnyF w (.agg #[.bool b3, .slice a3 n3 c3, .bool b4, .slice a4 n4 c4]) oq) (hg : w.heap[g]? = some (.cells #[.int .u8 kd, .bool b1, .slice a1 n1 c1, .bool b2, .slice a2 n2 c2, .bool b3, .slice a3 n3 c3, .bool b4, .slice a4 n4 c4] 36 (0, 0))) :
    Calls Tryz.prog 11 #[.slice (some ⟨g, 0, none⟩) 1 1] w fun e w' => e = .returned (.int .i64 (if mayO kd op oq then 0 else 1)) ∧ Ext w w' := by
  have M := mkHid (fun W (e : Ext w W) => benchMay_c kd b1 a1 n1 c1 b2 a2 n2 c2 b3 a3 n3 c3 b4 a4 n4 c4 op oq W (h1.ext e) (h2.ext e))
  have z0 := mkHid hg
  clear h1 h2 hg
  obtain ⟨w2, hw2⟩ : ∃ w2, w2 = w.alloc (.cells #[.int .u8 kd, .bool b1, .slice a1 n1 c1, .bool b2, .slice a2 n2 c2, .bool b3, .slice a3 n3 c3, .bool b4, .slice a4 n4 c4] 36) := ⟨_, rfl⟩
  have hE : Ext w w2 := by rw [hw2]; exact (Ext.refl w).al _
  have zV : w2.heap[w.heap.size]? = some (.cells #[.int .u8 kd, .bool b1, .slice a1 n1 c1, .bool b2, .slice a2 n2 c2, .bool b3, .slice a3 n3 c3, .bool b4, .slice a4 n4 c4] 36 (0, 0)) := by rw [hw2]; exact heap_alloc_new _ _
  replace zV := mkHid zV
  replace hE := mkHid hE
  replace hw2 := mkHid hw2
  cases hm : mayO kd op oq <;> rw [hm] at M
  all_goals
    clear hm
    go_enter Tryz.func11, Tryz.ntmps11
    go_wp2_with fail
    refine wp_loop_rounds 2 ?_
    rw [rounds_succ]
    have tok : Tok 8 := .mk _
    go_wp2_with (first
      | ((have _t : Tok 8 := tok); clear _t; clear tok; (have tok : Tok 9 := .mk _); refine wpList_load_row (by rfl) 36 (.tmp 12) rfl (g) rfl 36 #[.int .u8 kd, .bool b1, .slice a1 n1 c1, .bool b2, .slice a2 n2 c2, .bool b3, .slice a3 n3 c3, .bool b4, .slice a4 n4 c4] (0, 0) _ z0.out Tryz.underlying36 rfl (by kernel_rfl) ?_)
      | ((have _t : Tok 9 := tok); clear _t; clear tok; (have tok : Tok 10 := .mk _); rw [← hw2.out]; refine wpList_load_row (by rfl) 36 (.tmp 4) rfl (w.heap.size) rfl 36 #[.int .u8 kd, .bool b1, .slice a1 n1 c1, .bool b2, .slice a2 n2 c2, .bool b3, .slice a3 n3 c3, .bool b4, .slice a4 n4 c4] (0, 0) _ zV.out Tryz.underlying36 rfl (by kernel_rfl) ?_)
      | ((have _t : Tok 10 := tok); clear _t; clear tok; (have tok : Tok 11 := .mk _); go_at_call 32; refine (M.out _ hE.out).mono ?_; rintro e w3 ⟨rfl, hx⟩; replace hE := mkHid (hE.out.trans hx); clear hx))
  · go_ret
    exact ⟨rfl, hE.out⟩
  · rw [rounds_succ]
    go_wp2_with fail
    go_ret
    exact ⟨rfl, hE.out⟩
def mayP (kd co : Int) (op oq : Option Rat) : Bool := decide (0 ≤ co) && (decide (co ≤ 1073741824) && mayO kd op oq)
set_option maxHeartbeats 1600000 in
theorem may_c (nm : ByteArray) (kd co : Int) (b1 : Bool) (a1 : Option Addr) (n1 c1 : Nat) (b2 : Bool) (a2 : Option Addr) (n2 c2 : Nat) (b3 : Bool) (a3 : Option Addr) (n3 c3 : Nat) (b4 : Bool) (a4 : Option Addr) (n4 c4 : Nat) (op oq : Option Rat) (w : World) (h1 : AnyF w (.agg #[.bool b1, .slice a1 n1 c1, .bool b2, .slice a2 n2 c2]) op) (h2 : AnyF w (.agg #[.bool b3, .slice a3 n3 c3, .bool b4, .slice a4 n4 c4]) oq) :
    Calls Tryz.prog 34 #[.agg #[.string nm, .int .u8 kd, .bool b1, .slice a1 n1 c1, .bool b2, .slice a2 n2 c2, .bool b3, .slice a3 n3 c3, .bool b4, .slice a4 n4 c4, .int .i64 co]] w fun e w' => e = .returned (.bool (mayP kd co op oq)) ∧ Ext w w' := by
  obtain ⟨wb, hwb⟩ : ∃ wb, wb = w.alloc (.cells #[.string nm, .int .u8 kd, .bool b1, .slice a1 n1 c1, .bool b2, .slice a2 n2 c2, .bool b3, .slice a3 n3 c3, .bool b4, .slice a4 n4 c4, .int .i64 co] 38) := ⟨_, rfl⟩
  have hE : Ext w wb := by rw [hwb]; exact (Ext.refl w).al _
  have z0 : wb.heap[w.heap.size]? = some (.cells #[.string nm, .int .u8 kd, .bool b1, .slice a1 n1 c1, .bool b2, .slice a2 n2 c2, .bool b3, .slice a3 n3 c3, .bool b4, .slice a4 n4 c4, .int .i64 co] 38 (0, 0)) := by rw [hwb]; exact heap_alloc_new _ _
  have hsz : wb.heap.size = w.heap.size + 1 := by rw [hwb]; simp
  obtain ⟨w2, hw2⟩ : ∃ w2, w2 = wb.alloc (.cells #[.int .u8 kd, .bool b1, .slice a1 n1 c1, .bool b2, .slice a2 n2 c2, .bool b3, .slice a3 n3 c3, .bool b4, .slice a4 n4 c4] 36) := ⟨_, rfl⟩
  have hE2 : Ext wb w2 := by rw [hw2]; exact (Ext.refl wb).al _
  have zS : w2.heap[w.heap.size + 1]? = some (.cells #[.int .u8 kd, .bool b1, .slice a1 n1 c1, .bool b2, .slice a2 n2 c2, .bool b3, .slice a3 n3 c3, .bool b4, .slice a4 n4 c4] 36 (0, 0)) := by rw [hw2, ← hsz]; exact heap_alloc_new _ _
  have M := benchCheck_1 kd b1 a1 n1 c1 b2 a2 n2 c2 b3 a3 n3 c3 b4 a4 n4 c4 op oq (w.heap.size + 1) w2 (h1.ext (hE.trans hE2)) (h2.ext (hE.trans hE2)) zS
  have y10 := row16_cells z0 10
  replace y10 : wb.cell? ⟨w.heap.size, 10, none⟩ = some (.int .i64 co) := y10
  have hE' := mkHid (hE.trans hE2)
  replace z0 := mkHid z0
  replace M := mkHid M
  replace hwb := mkHid hwb
  replace hw2 := mkHid hw2
  replace hsz := mkHid hsz
  replace hE := mkHid hE
  clear h1 h2 hE2 zS
  by_cases cc1 : 0 ≤ co
  · by_cases cc2 : co ≤ 1073741824
    · have ev : mayP kd co op oq = mayO kd op oq := by simp [mayP, cc1, cc2]
      rw [ev]
      clear ev
      cases hm : mayO kd op oq <;> rw [hm] at M
      all_goals
        clear hm
        go_enter Tryz.func34, Tryz.ntmps34
        have tok : Tok 12 := .mk _
        go_wp2_with ((have _t : Tok 12 := tok); clear _t; clear tok; (have tok : Tok 13 := .mk _); go_at_call 11; rw [← hwb.out, ← hw2.out]; refine M.out.mono ?_; rintro e w3 ⟨rfl, hx⟩; replace hE' := mkHid (hE'.out.trans hx); clear hx)
        go_ret
        exact ⟨rfl, hE'.out⟩
    · have ev : mayP kd co op oq = false := by simp [mayP, cc2]
      rw [ev]
      clear ev M
      go_enter Tryz.func34, Tryz.ntmps34
      clear y10
      go_wp2_with fail
      go_ret
      exact ⟨rfl, (Ext.refl _).al _⟩
  · have ev : mayP kd co op oq = false := by simp [mayP, cc1]
    rw [ev]
    clear ev M
    go_enter Tryz.func34, Tryz.ntmps34
    clear y10
    go_wp2_with fail
    go_ret
    exact ⟨rfl, (Ext.refl _).al _⟩
end Go.Proofs.YtkkfgphcmnhabaaGreatDoor
namespace Go.Proofs.YtkkfgphcmnhabaaGreatDoor
set_option maxRecDepth 100000
open Go Go.RowKit Go.Proofs
/-- Limbs that read so, noughts at the end allowed, of a number. -/
def RawR (w : World) (v : Value) (n : Nat) : Prop := ∃ r, MagR w v r ∧ OkL r ∧ r.length ≤ 4294967296 ∧ val r = n
theorem RawR.ext {w w' : World} {v : Value} {n : Nat} (h : RawR w v n) (e : Ext w w') : RawR w' v n := by
  obtain ⟨r, h1, h2⟩ := h
  exact ⟨r, h1.ext e, h2⟩
theorem RawO.rr {w : World} {base : Nat} {v : Value} {n : Nat} (h : RawO w base v n) : RawR w v n := by
  obtain ⟨r, h1, h2⟩ := h
  exact ⟨r, h1.r, h2⟩
theorem RawR.lims {w : World} {v : Value} {n : Nat} (h : MagR w v (lim n)) (hl : (lim n).length ≤ 4294967296) : RawR w v n := ⟨_, h, lim_ok _, hl, val_lim _⟩
end Go.Proofs.YtkkfgphcmnhabaaGreatDoor
namespace Go.Proofs.YtkkfgphcmnhabaaGreatDoor
set_option maxRecDepth 100000
open Go Go.RowKit Go.Proofs
theorem RestR.raw {w : World} {v : Value} {n : Nat} (h : RestR w v n) (hl : (lim n).length ≤ 4294967296) : RawR w v n := by
  obtain ⟨a, c, h1, h2, h3⟩ := h.r
  exact RawR.lims ⟨a, c, h1, h2, h3⟩ hl
end Go.Proofs.YtkkfgphcmnhabaaGreatDoor
namespace Go.Proofs.YtkkfgphcmnhabaaGreatDoor
set_option maxRecDepth 100000
open Go Go.RowKit Go.Proofs
/-- A fraction's rows lie from a block on. -/
def NewF (lo : Nat) (v : Value) : Prop := ∀ b1 s1 b2 s2, v = .agg #[.bool b1, s1, .bool b2, s2] → NewV lo s1 ∧ NewV lo s2
end Go.Proofs.YtkkfgphcmnhabaaGreatDoor
namespace Go.Proofs.YtkkfgphcmnhabaaGreatDoor
set_option maxRecDepth 100000
open Go Go.RowKit Go.Proofs Go.Shelf Go.Lib
/-- The letters, digits and the stroke. -/
def cutset : List UInt8 := [97, 98, 99, 100, 101, 102, 103, 104, 105, 106, 107, 108, 109, 110, 111, 112, 113, 114, 115, 116, 117, 118, 119, 120, 121, 122, 48, 49, 50, 51, 52, 53, 54, 55, 56, 57, 45]
def nameC (c : UInt8) : Bool := (decide (97 ≤ c.toNat) && decide (c.toNat ≤ 122)) || (decide (48 ≤ c.toNat) && decide (c.toNat ≤ 57)) || c.toNat == 45
theorem cutset_nameC (c : UInt8) : cutset.contains c = nameC c := by
  have h : ∀ n : Fin 256, cutset.contains (UInt8.ofNat n.val) = nameC (UInt8.ofNat n.val) := by decide +kernel
  have := h ⟨c.toNat, c.toNat_lt⟩
  simpa using this
/-- Is it a name? -/
def nameB (l : List UInt8) : Bool := decide (0 < l.length) && (decide (l.length ≤ 32) && (decide (97 ≤ (l.headD 0).toNat) && (decide ((l.headD 0).toNat ≤ 122) && l.all nameC)))
theorem dw_all {p : UInt8 → Bool} : ∀ l : List UInt8, (∀ x ∈ l.dropWhile p, p x = true) → l.dropWhile p = []
  | [], _ => rfl
  | a :: l, h => by
    by_cases ha : p a = true
    · rw [List.dropWhile_cons_of_pos ha] at h ⊢
      exact dw_all l h
    · rw [List.dropWhile_cons_of_neg ha] at h
      exact absurd (h a (by simp)) ha
theorem dw_nil {p : UInt8 → Bool} : ∀ l : List UInt8, l.dropWhile p = [] ↔ ∀ x ∈ l, p x = true
  | [] => by simp
  | a :: l => by
    by_cases ha : p a = true
    · rw [List.dropWhile_cons_of_pos ha, dw_nil l]
      simp [ha]
    · rw [List.dropWhile_cons_of_neg ha]
      simp [ha]
theorem trimS_nil (l : List UInt8) : (Lib.trimS l cutset = []) ↔ l.all nameC = true := by
  have e : (fun c => cutset.contains c) = nameC := funext cutset_nameC
  unfold Lib.trimS Lib.trimRightS Lib.trimLeftS
  rw [e, dw_nil]
  constructor
  · intro h
    have h2 := dw_all (p := nameC) l.reverse fun x hx => h x (List.mem_reverse.2 hx)
    rw [dw_nil] at h2
    exact List.all_eq_true.2 fun x hx => h2 x (List.mem_reverse.2 hx)
  · intro h x hx
    have h2 : l.reverse.dropWhile nameC = [] := (dw_nil _).2 fun y hy => List.all_eq_true.1 h y (List.mem_reverse.1 hy)
    rw [h2] at hx
    cases hx
theorem strim_c (s : ByteArray) (w : World) (hs : s.size ≤ 9223372036854775807) :
    Calls Tryz.prog 67 #[.string s, .string ⟨#[97, 98, 99, 100, 101, 102, 103, 104, 105, 106, 107, 108, 109, 110, 111, 112, 113, 114, 115, 116, 117, 118, 119, 120, 121, 122, 48, 49, 50, 51, 52, 53, 54, 55, 56, 57, 45]⟩] w fun e w' => e = .returned (.string ⟨(Lib.trimS s.data.toList cutset).toArray⟩) ∧ Below w.heap.size w w' := by
  have hcon := Any.strings_Trim_laid Tryz.lays160 (by kernel_rfl) s ⟨#[97, 98, 99, 100, 101, 102, 103, 104, 105, 106, 107, 108, 109, 110, 111, 112, 113, 114, 115, 116, 117, 118, 119, 120, 121, 122, 48, 49, 50, 51, 52, 53, 54, 55, 56, 57, 45]⟩ w hs (by decide) (ascii_of_all (by decide))
  exact hcon
set_option maxHeartbeats 400000 in
theorem named_c (s : ByteArray) (w : World) (hs : s.size ≤ 9223372036854775807) :
    Calls Tryz.prog 33 #[.string s] w fun e w' => e = .returned (.bool (nameB s.data.toList)) ∧ Ext w w' := by
  have T := strim_c s w hs
  have e1 := trimS_nil s.data.toList
  have hsz : s.data.toList.length = s.size := Array.length_toList
  generalize Lib.trimS s.data.toList cutset = r at T e1
  unfold nameB
  rw [hsz]
  by_cases c1 : 0 < s.size
  · have hd : s.data.toList.headD 0 = s[0] := by
      obtain ⟨⟨l⟩⟩ := s
      cases l with
      | nil => simp [ByteArray.size] at c1
      | cons a l => rfl
    rw [hd]
    clear hd hsz
    by_cases c2 : s.size ≤ 32
    · by_cases c3 : 97 ≤ s[0].toNat
      · by_cases c4 : s[0].toNat ≤ 122
        · cases hall : s.data.toList.all nameC
          · have hr : r ≠ [] := fun h => by rw [e1.1 h] at hall; cases hall
            clear e1 hall
            replace T := mkHid T
            go_enter Tryz.func33, Tryz.ntmps33
            go_wp2_with (go_at_call 67; refine T.out.mono ?_; rintro e w2 ⟨rfl, hx⟩; replace hx := mkHid hx)
            go_ret
            exact ⟨by simp [c1, c2, c3, c4, hr], hx.out⟩
          · have hr : r = [] := e1.2 hall
            subst hr
            clear e1 hall
            replace T := mkHid T
            go_enter Tryz.func33, Tryz.ntmps33
            go_wp2_with (go_at_call 67; refine T.out.mono ?_; rintro e w2 ⟨rfl, hx⟩; replace hx := mkHid hx)
            go_ret
            exact ⟨by simp [c1, c2, c3, c4], hx.out⟩
        · clear T e1
          go_enter Tryz.func33, Tryz.ntmps33
          go_wp2_with fail
          go_ret
          exact ⟨by simp [c1, c2, c3, c4], Ext.refl _⟩
      · clear T e1
        go_enter Tryz.func33, Tryz.ntmps33
        go_wp2_with fail
        go_ret
        exact ⟨by simp [c1, c2, c3], Ext.refl _⟩
    · clear T e1
      go_enter Tryz.func33, Tryz.ntmps33
      go_wp2_with fail
      go_ret
      exact ⟨by simp [c1, c2], Ext.refl _⟩
  · clear T e1 hsz
    go_enter Tryz.func33, Tryz.ntmps33
    go_wp2_with fail
    go_ret
    exact ⟨by simp [c1], Ext.refl _⟩
end Go.Proofs.YtkkfgphcmnhabaaGreatDoor
namespace Go.Proofs.YtkkfgphcmnhabaaGreatDoor
set_option maxRecDepth 100000
open Go Go.RowKit Go.Proofs
theorem Row.near {w w' : World} {a : Option Addr} {xs : List Value} (h : Row w a xs) (e : ∀ g, a.map (·.block) = some g → w'.heap[g]? = w.heap[g]?) : Row w' a xs := by
  obtain ⟨b, off, h1, h2⟩ := h
  by_cases hx : xs = []
  · subst hx
    exact ⟨b, off, h1, fun j hj => by simp at hj⟩
  · have ha := h1 hx
    refine ⟨b, off, h1, fun j hj => ?_⟩
    have hb := e b (by rw [ha]; rfl)
    rw [← h2 j hj]
    exact World.cell?_of_block hb
theorem blks_mk {b : Bool} {a : Option Addr} {n c g : Nat} (h : a.map (·.block) = some g) : g ∈ Aloof.blks (.agg #[.bool b, .slice a n c]) := by
  cases a with
  | none => cases h
  | some a => simpa [Aloof.blks, Aloof.blk1, Value.cells, eq_comm] using h
theorem IntR.near {w w' : World} {v : Value} {x : Int} (h : IntR w v x) (e : ∀ g ∈ Aloof.blks v, w'.heap[g]? = w.heap[g]?) : IntR w' v x := by
  obtain ⟨s, rfl, a, c, rfl, h1, h2⟩ := h
  exact ⟨_, rfl, _, _, rfl, h1, h2.near fun g hg => e g (blks_mk hg)⟩
theorem FracR.near {w w' : World} {v : Value} {q : Rat} (h : FracR w v q) (e : ∀ g ∈ Aloof.blks v, w'.heap[g]? = w.heap[g]?) : FracR w' v q := by
  obtain ⟨b1, a1, n1, c1, b2, a2, n2, c2, rfl, h1, h2⟩ := h
  rw [blks_agg2] at e
  exact ⟨_, _, _, _, _, _, _, _, rfl, h1.near fun g hg => e g (List.mem_append_left _ hg), h2.near fun g hg => e g (List.mem_append_right _ hg)⟩
theorem PartR.near {w w' : World} {v : Value} {d : PD} (h : PartR w v d) (e : ∀ g ∈ Aloof.blks v, w'.heap[g]? = w.heap[g]?) : PartR w' v d := by
  obtain ⟨b1, a1, n1, c1, b2, a2, n2, c2, b3, a3, n3, c3, b4, a4, n4, c4, rfl, h1, h2⟩ := h
  rw [blks_part] at e
  exact ⟨_, _, _, _, _, _, _, _, _, _, _, _, _, _, _, _, rfl, h1.near fun g hg => e g (List.mem_append_left _ hg), h2.near fun g hg => e g (List.mem_append_right _ hg)⟩
theorem MagO.near {w w' : World} {base : Nat} {a : Option Addr} {n c : Nat} {l : List Nat} (h : MagO w base (.slice a n c) l) (e : ∀ g, a.map (·.block) = some g → w'.heap[g]? = w.heap[g]?) : MagO w' base (.slice a n c) l := by
  obtain ⟨h1, h | ⟨g, cap, cur, e1, h2, h3, r⟩⟩ := h
  · exact ⟨h1, .inl h⟩
  · cases e1
    exact ⟨h1, .inr ⟨g, _, cur, rfl, h2, (e g rfl).trans h3, r⟩⟩
theorem IntO.near {w w' : World} {base : Nat} {v : Value} {x : Int} (h : IntO w base v x) (e : ∀ g ∈ Aloof.blks v, w'.heap[g]? = w.heap[g]?) : IntO w' base v x := by
  obtain ⟨b, a, n, c, rfl⟩ := h.r.shape
  obtain ⟨s, e', hm⟩ := h
  cases e'
  exact ⟨_, rfl, hm.near fun g hg => e g (blks_mk hg)⟩
theorem FracO.near {w w' : World} {base : Nat} {v : Value} {q : Rat} (h : FracO w base v q) (e : ∀ g ∈ Aloof.blks v, w'.heap[g]? = w.heap[g]?) : FracO w' base v q := by
  obtain ⟨b1, a1, n1, c1, b2, a2, n2, c2, rfl, h1, h2⟩ := h
  rw [blks_agg2] at e
  exact ⟨_, _, _, _, _, _, _, _, rfl, h1.near fun g hg => e g (List.mem_append_left _ hg), h2.near fun g hg => e g (List.mem_append_right _ hg)⟩
theorem PartK.near {lo : Nat} {w w' : World} {v : Value} {d : PD} (h : PartK lo w v d) (e : ∀ g ∈ Aloof.blks v, w'.heap[g]? = w.heap[g]?) : PartK lo w' v d := by
  obtain ⟨b1, a1, n1, c1, b2, a2, n2, c2, b3, a3, n3, c3, b4, a4, n4, c4, rfl, h1, h2, h3⟩ := h
  rw [blks_part] at e
  exact ⟨_, _, _, _, _, _, _, _, _, _, _, _, _, _, _, _, rfl, h1.near fun g hg => e g (List.mem_append_left _ hg), h2.near fun g hg => e g (List.mem_append_right _ hg), h3⟩
/-- What a part in a catalogue is. -/
def okPD (d : PD) : Prop := nf d.p ≤ 2048 ∧ nf d.q ≤ 2048 ∧ nameB d.nm.data.toList = true ∧ mayP d.kd d.co (some d.p) (some d.q) = true
/-- A catalogue: its struct lies in block g, its map in block M; its parts. -/
structure Cat (w : World) (g M : Nat) (es : List (PD × Value)) : Prop where
  str : w.heap[g]? = some (.cells #[.map (some M)] 72 (0, 0))
  map : MapP w M es
  part : ∀ x ∈ es, PartR w x.2 x.1
  lie : ∀ x ∈ es, ∀ k ∈ Aloof.blks x.2, k < w.heap.size
  out : ∀ x ∈ es, ∀ k ∈ Aloof.blks x.2, k ≠ M
  ok : ∀ x ∈ es, okPD x.1
  few : es.length ≤ 64
/-- Its blocks. -/
def catB (g M : Nat) (es : List (PD × Value)) (k : Nat) : Prop := k = g ∨ k = M ∨ ∃ x ∈ es, k ∈ Aloof.blks x.2
theorem Cat.near {w w' : World} {g M : Nat} {es : List (PD × Value)} (h : Cat w g M es) (hs : w.heap.size ≤ w'.heap.size) (e : ∀ k, catB g M es k → w'.heap[k]? = w.heap[k]?) : Cat w' g M es :=
  ⟨(e g (.inl rfl)).trans h.str, h.map.blk (e M (.inr (.inl rfl))), fun x hx => (h.part x hx).near fun k hk => e k (.inr (.inr ⟨x, hx, hk⟩)), fun x hx k hk => Nat.lt_of_lt_of_le (h.lie x hx k hk) hs, h.out, h.ok, h.few⟩
theorem Cat.lt {w : World} {g M : Nat} {es : List (PD × Value)} (h : Cat w g M es) : ∀ k, catB g M es k → k < w.heap.size := by
  rintro k (rfl | rfl | ⟨x, hx, hk⟩)
  · exact (Array.getElem?_eq_some_iff.1 h.str).1
  · exact h.map.lt
  · exact h.lie x hx k hk
theorem Cat.ext {w w' : World} {g M : Nat} {es : List (PD × Value)} (h : Cat w g M es) (e : Ext w w') : Cat w' g M es :=
  h.near e.size fun k hk => e.block k (h.lt k hk)
theorem Cat.ne {w : World} {g M : Nat} {es : List (PD × Value)} (h : Cat w g M es) : g ≠ M := by
  intro e
  obtain ⟨a, clock, hb, _⟩ := h.map
  have := h.str
  rw [e, hb] at this
  cases this
theorem mem_insP {x y : PD × Value} : ∀ {es : List (PD × Value)}, y ∈ insP x es ↔ y = x ∨ y ∈ es
  | [] => by simp [insP]
  | z :: r => by
    unfold insP
    split
    · simp
    · rw [List.mem_cons, mem_insP (es := r), List.mem_cons]
      constructor
      · rintro (h | h | h)
        · exact .inr (.inl h)
        · exact .inl h
        · exact .inr (.inr h)
      · rintro (h | h | h)
        · exact .inr (.inl h)
        · exact .inl h
        · exact .inr (.inr h)
/-- One part more. -/
theorem Cat.put {w w' : World} {g M : Nat} {es : List (PD × Value)} {d : PD} {v : Value} {lo : Nat} (h : Cat w g M es) (hm : MapP w' M (insP (d, v) es)) (ht : w.mapTurned w' M) (hv : PartK lo w v d) (hlo : M < lo) (hd : okPD d) (hl : es.length < 64) : Cat w' g M (insP (d, v) es) := by
  have hg := ht.grown
  have hb : ∀ k, k < w.heap.size → k ≠ M → w'.heap[k]? = w.heap[k]? := fun k hk hne => hg.block k hk (fun e => hne (Option.some.inj e))
  have hs : w.heap.size ≤ w'.heap.size := hg.size
  refine ⟨(hb g (Array.getElem?_eq_some_iff.1 h.str).1 h.ne).trans h.str, hm, fun x hx => ?_, fun x hx k hk => ?_, fun x hx k hk => ?_, fun x hx => ?_, by rw [insP_length]; omega⟩
  · rcases mem_insP.1 hx with rfl | hx
    · exact hv.r.near fun k hk => hb k (hv.span k hk).2 (by have := (hv.span k hk).1; omega)
    · exact (h.part x hx).near fun k hk => hb k (h.lie x hx k hk) (h.out x hx k hk)
  · rcases mem_insP.1 hx with rfl | hx
    · exact Nat.lt_of_lt_of_le (hv.span k hk).2 hs
    · exact Nat.lt_of_lt_of_le (h.lie x hx k hk) hs
  · rcases mem_insP.1 hx with rfl | hx
    · have := (hv.span k hk).1
      omega
    · exact h.out x hx k hk
  · rcases mem_insP.1 hx with rfl | hx
    · exact hd
    · exact h.ok x hx
/-- One part less. -/
theorem Cat.drop {w w' : World} {g M : Nat} {es : List (PD × Value)} (f : PD × Value → Bool) (h : Cat w g M es) (hm : MapP w' M (es.filter f)) (ht : w.mapTurned w' M) : Cat w' g M (es.filter f) := by
  have hg := ht.grown
  have hb : ∀ k, k < w.heap.size → k ≠ M → w'.heap[k]? = w.heap[k]? := fun k hk hne => hg.block k hk (fun e => hne (Option.some.inj e))
  have hs : w.heap.size ≤ w'.heap.size := hg.size
  have sub : ∀ x, x ∈ es.filter f → x ∈ es := fun x hx => (List.mem_filter.1 hx).1
  exact ⟨(hb g (Array.getElem?_eq_some_iff.1 h.str).1 h.ne).trans h.str, hm, fun x hx => (h.part x (sub x hx)).near fun k hk => hb k (h.lie x (sub x hx) k hk) (h.out x (sub x hx) k hk), fun x hx k hk => Nat.lt_of_lt_of_le (h.lie x (sub x hx) k hk) hs, fun x hx => h.out x (sub x hx), fun x hx => h.ok x (sub x hx), Nat.le_trans (List.length_filter_le _ _) h.few⟩
theorem Cat.turned {w w' : World} {M : Nat} (ht : w.mapTurned w' M) : Chg w w' (· = M) := (Chg.grown ht.grown).mono fun k _ h => by cases h; rfl
/-- The shape of a fraction's value. -/
structure FV where
  b1 : Bool
  a1 : Option Addr
  n1 : Nat
  c1 : Nat
  b2 : Bool
  a2 : Option Addr
  n2 : Nat
  c2 : Nat
theorem AnyF.fv {w : World} {v : Value} {o : Option Rat} (h : AnyF w v o) : ∃ p : FV, v = .agg #[.bool p.b1, .slice p.a1 p.n1 p.c1, .bool p.b2, .slice p.a2 p.n2 p.c2] := by
  obtain ⟨b1, a1, n1, c1, b2, a2, n2, c2, e⟩ := h.shape
  exact ⟨⟨b1, a1, n1, c1, b2, a2, n2, c2⟩, e⟩
theorem FracR.fv {w : World} {v : Value} {x : Rat} (h : FracR w v x) : ∃ p : FV, v = .agg #[.bool p.b1, .slice p.a1 p.n1 p.c1, .bool p.b2, .slice p.a2 p.n2 p.c2] := by
  obtain ⟨b1, a1, n1, c1, b2, a2, n2, c2, e⟩ := h.shape
  exact ⟨⟨b1, a1, n1, c1, b2, a2, n2, c2⟩, e⟩
theorem PartR.fv {w : World} {v : Value} {d : PD} (h : PartR w v d) : ∃ p q : FV, v = .agg #[.string d.nm, .int .u8 d.kd, .bool p.b1, .slice p.a1 p.n1 p.c1, .bool p.b2, .slice p.a2 p.n2 p.c2, .bool q.b1, .slice q.a1 q.n1 q.c1, .bool q.b2, .slice q.a2 q.n2 q.c2, .int .i64 d.co] ∧ FracR w (.agg #[.bool p.b1, .slice p.a1 p.n1 p.c1, .bool p.b2, .slice p.a2 p.n2 p.c2]) d.p ∧ FracR w (.agg #[.bool q.b1, .slice q.a1 q.n1 q.c1, .bool q.b2, .slice q.a2 q.n2 q.c2]) d.q := by
  obtain ⟨b1, a1, n1, c1, b2, a2, n2, c2, b3, a3, n3, c3, b4, a4, n4, c4, e, h1, h2⟩ := h
  exact ⟨⟨b1, a1, n1, c1, b2, a2, n2, c2⟩, ⟨b3, a3, n3, c3, b4, a4, n4, c4⟩, e, h1, h2⟩
theorem PartR.mk {w : World} {d : PD} {p q : FV} (h1 : FracR w (.agg #[.bool p.b1, .slice p.a1 p.n1 p.c1, .bool p.b2, .slice p.a2 p.n2 p.c2]) d.p) (h2 : FracR w (.agg #[.bool q.b1, .slice q.a1 q.n1 q.c1, .bool q.b2, .slice q.a2 q.n2 q.c2]) d.q) : PartR w (.agg #[.string d.nm, .int .u8 d.kd, .bool p.b1, .slice p.a1 p.n1 p.c1, .bool p.b2, .slice p.a2 p.n2 p.c2, .bool q.b1, .slice q.a1 q.n1 q.c1, .bool q.b2, .slice q.a2 q.n2 q.c2, .int .i64 d.co]) d :=
  ⟨_, _, _, _, _, _, _, _, _, _, _, _, _, _, _, _, rfl, h1, h2⟩
theorem may_v (nm : ByteArray) (kd co : Int) (p q : FV) (op oq : Option Rat) (w : World) (h1 : AnyF w (.agg #[.bool p.b1, .slice p.a1 p.n1 p.c1, .bool p.b2, .slice p.a2 p.n2 p.c2]) op) (h2 : AnyF w (.agg #[.bool q.b1, .slice q.a1 q.n1 q.c1, .bool q.b2, .slice q.a2 q.n2 q.c2]) oq) :
    Calls Tryz.prog 34 #[.agg #[.string nm, .int .u8 kd, .bool p.b1, .slice p.a1 p.n1 p.c1, .bool p.b2, .slice p.a2 p.n2 p.c2, .bool q.b1, .slice q.a1 q.n1 q.c1, .bool q.b2, .slice q.a2 q.n2 q.c2, .int .i64 co]] w fun e w' => e = .returned (.bool (mayP kd co op oq)) ∧ Ext w w' :=
  may_c nm kd co _ _ _ _ _ _ _ _ _ _ _ _ _ _ _ _ op oq w h1 h2
end Go.Proofs.YtkkfgphcmnhabaaGreatDoor
namespace Go.Proofs.YtkkfgphcmnhabaaGreatDoor.Late
set_option maxRecDepth 100000
open Go Go.RowKit Go.Proofs.YtkkfgphcmnhabaaGreatDoor
def okOper (pre : List Nat) (l : List Oper) (n i : Nat) (o : Oper) : Bool :=
  (o.after.toList.all fun e => !Region.binds .any e || decide (e.on < i)) &&
  (if i < n then
    o.dst.isSome && (List.range l.length).all fun j => match l[j]? with
      | some oj => (match oj.dst with
        | some d => (!(o.looksAt l.toArray).contains d || (decide (j < i) && hasEdge o j)) && (j == i || o.dst != some d)
        | none => true)
      | none => true
  else (List.range i).all fun j => pre.contains j || ancB l 16 o j)
def okFree (pre : List Nat) (n size : Nat) (l : List Oper) : Bool :=
  Region.noSelect l.toArray && decide (n ≤ l.length) && (l.all fun o => match o.dst with | some d => decide (d < size) | none => true) &&
    (List.range l.length).all fun i => match l[i]? with | some o => okOper pre l n i o | none => true
section
variable {pre : List Nat} {P : Program} {l0 : List Oper} {R : World → World → Prop} {w0 : World} {Q : Exit → Act → World → Prop}
theorem tail_forced {n : Nat} (htail : ∀ i o, n ≤ i → l0[i]? = some o → ∀ j, j < i → j ∈ pre ∨ ancB l0 16 o j = true) :
    ∀ (k m : Nat) (listed : Array Bool) (a : Act) (W : World) (fuel : Nat), n ≤ m → m + k = l0.length → k ≤ fuel → listed.size = l0.length → (∀ j ∈ pre, listed.getD j false = true) →
      (∀ i o, listed.getD i false = true → l0[i]? = some o → ∀ e ∈ o.after, Region.binds .any e = true → listed.getD e.on false = true) →
      (∀ i, i < l0.length → (listed.getD i false = true ↔ i < m)) →
      (∀ i o, l0[i]? = some o → ∀ e ∈ o.after, Region.binds .any e = true → e.on < i) →
      wpList P l0.toArray Q (l0.drop m) a W → wpAny P .any l0.toArray Q fuel listed a W := by
  intro k
  induction k with
  | zero =>
    intro m listed a W fuel _ hmk _ hsz _ _ hlst _ h
    have hr : Region.ready .any l0.toArray listed = [] := by
      cases hr : Region.ready .any l0.toArray listed with
      | nil => rfl
      | cons i r =>
        have := (mem_ready (md := .any) (ops := l0.toArray) (listed := listed) (j := i)).1 (by rw [hr]; simp)
        have hlt := lt_of_unlisted this.1
        have h2 := (hlst i (by omega)).2 (by omega)
        have h3 := this.1
        simp [hlt] at h2 h3
        rw [h2] at h3
        cases h3
    rw [List.drop_eq_nil_of_le (show l0.length ≤ m by omega)] at h
    exact wpAny_done hr h fuel
  | succ k ih =>
    intro m listed a W fuel hnm hmk hfuel hsz hpre hcl hlst hed h
    obtain ⟨fuel, rfl⟩ : ∃ f, fuel = f + 1 := ⟨fuel - 1, by omega⟩
    have hml : m < l0.length := by omega
    have ho : l0[m]? = some l0[m] := List.getElem?_eq_getElem hml
    have hun : listed.getD m true = false := by
      rcases listed_cases (listed := listed) (i := m) (by omega) with h1 | h1
      · have := (hlst m hml).1 h1; omega
      · exact h1
    have hready : m ∈ Region.ready .any l0.toArray listed := by
      rw [mem_ready]
      exact ⟨hun, _, by simp [hml], fun e he hb => (hlst e.on (by have := hed m _ ho e he hb; omega)).2 (hed m _ ho e he hb)⟩
    refine ⟨fun h0 => absurd (h0 ▸ hready) (by simp), fun i hi => ?_⟩
    have him : i = m := by
      obtain ⟨h1, o, ho', hall⟩ := mem_ready.1 hi
      have hlt := lt_of_unlisted h1
      rcases Nat.lt_trichotomy i m with hlt' | he | hgt
      · have h2 := (hlst i (by omega)).2 hlt'
        simp [hlt] at h1 h2
        rw [h2] at h1; cases h1
      · exact he
      · have ho'' : l0[i]? = some o := by simpa using ho'
        have := (htail i o (by omega) ho'' m hgt).elim (fun hp => hpre m hp) (listed_anc hcl 16 o m hall)
        have := (hlst m hml).1 this
        omega
    subst him
    unfold wpOp
    simp only [List.getElem?_toArray, ho]
    rw [List.drop_eq_getElem_cons hml] at h
    simp only [wpList] at h
    have next : ∀ a' W', wpList P l0.toArray Q (l0.drop (i + 1)) a' W' → wpAny P .any l0.toArray Q fuel (listed.setIfInBounds i true) a' W' := by
      intro a' W' h'
      refine ih (i + 1) _ a' W' fuel (by omega) (by omega) (by omega) (by simpa using hsz) (fun j hj => getD_set_true (hpre j hj)) ?_ ?_ hed h'
      · intro j o hj hoj e he hb
        by_cases hij : i = j
        · subst hij
          rw [ho] at hoj
          cases hoj
          exact getD_set_true ((hlst e.on (by have := hed i _ ho e he hb; omega)).2 (hed i _ ho e he hb))
        · rw [getD_set_ne false hij] at hj
          exact getD_set_true (hcl j o hj hoj e he hb)
      · intro j hj
        by_cases hij : i = j
        · subst hij
          simp [show i < listed.size by omega]
        · rw [getD_set_ne false hij, hlst j hj]
          omega
    split
    · rename_i hw
      rw [if_pos hw] at h
      exact h.imp (Oper.wp_mono next) id
    · rename_i hw
      rw [if_neg hw] at h
      exact next _ _ h
structure OkSpec (pre : List Nat) (l : List Oper) (n size : Nat) : Prop where
  sel : ∀ (j : Nat) (o : Oper) cs b, l[j]? = some o → o.op ≠ .select cs b
  len : n ≤ l.length
  dst : ∀ (j : Nat) (o : Oper) (d : Tmp), l[j]? = some o → o.dst = some d → d < size
  edge : ∀ (i : Nat) (o : Oper), l[i]? = some o → ∀ e ∈ o.after, Region.binds .any e = true → e.on < i
  has : ∀ (i : Nat) (o : Oper), i < n → l[i]? = some o → o.dst.isSome = true
  look : ∀ (i : Nat) (o : Oper) (j : Nat) (oj : Oper) (d : Tmp), i < n → l[i]? = some o → l[j]? = some oj → oj.dst = some d → d ∈ o.looksAt l.toArray → j < i ∧ hasEdge o j = true
  one : ∀ (i : Nat) (o : Oper) (j : Nat) (oj : Oper) (d : Tmp), i < n → l[i]? = some o → l[j]? = some oj → oj.dst = some d → i ≠ j → o.dst ≠ some d
  tail : ∀ (i : Nat) (o : Oper), n ≤ i → l[i]? = some o → ∀ j, j < i → j ∈ pre ∨ ancB l 16 o j = true
theorem okFree_spec {n size : Nat} {l : List Oper} (h : okFree pre n size l = true) : OkSpec pre l n size := by
  simp only [okFree, Bool.and_eq_true, decide_eq_true_eq, List.all_eq_true, List.mem_range] at h
  obtain ⟨⟨⟨h1, h2⟩, h3⟩, h4⟩ := h
  have at_ : ∀ i o, l[i]? = some o → okOper pre l n i o = true := by
    intro i o ho
    have := h4 i (List.getElem?_eq_some_iff.1 ho).1
    rwa [ho] at this
  refine ⟨fun j o cs b hj => Region.noSelect_spec h1 j o cs b (by simpa using hj), h2, ?_, ?_, ?_, ?_, ?_, ?_⟩
  · intro j o d ho hd
    have := h3 o (List.mem_of_getElem? ho)
    simpa [hd] using this
  · intro i o ho e he hb
    have := at_ i o ho
    simp only [okOper, Bool.and_eq_true, List.all_eq_true, Bool.or_eq_true, Bool.not_eq_true', decide_eq_true_eq] at this
    have := this.1 e (Array.mem_toList_iff.2 he)
    rcases this with h | h
    · rw [h] at hb; cases hb
    · exact h
  · intro i o hi ho
    have := at_ i o ho
    simp only [okOper, Bool.and_eq_true, if_pos hi] at this
    exact this.2.1
  · intro i o j oj d hi ho hj hd hm
    have := at_ i o ho
    simp only [okOper, Bool.and_eq_true, if_pos hi, List.all_eq_true, List.mem_range] at this
    have := this.2.2 j (List.getElem?_eq_some_iff.1 hj).1
    simp only [hj, hd, Bool.and_eq_true, Bool.or_eq_true, Bool.not_eq_true', decide_eq_true_eq] at this
    rcases this.1 with h | h
    · have := List.contains_iff_mem.2 hm
      rw [h] at this; cases this
    · exact h
  · intro i o j oj d hi ho hj hd hne
    have := at_ i o ho
    simp only [okOper, Bool.and_eq_true, if_pos hi, List.all_eq_true, List.mem_range] at this
    have := this.2.2 j (List.getElem?_eq_some_iff.1 hj).1
    simp only [hj, hd, Bool.and_eq_true, Bool.or_eq_true, beq_iff_eq, bne_iff_ne, ne_eq] at this
    rcases this.2 with h | h
    · exact absurd h.symm hne
    · exact h
  · intro i o hi ho j hj
    have := at_ i o ho
    simp only [okOper, Bool.and_eq_true, if_neg (Nat.not_lt.2 hi), List.all_eq_true, List.mem_range] at this
    have := this.2 j hj
    rw [Bool.or_eq_true] at this
    exact this.imp (fun h => List.contains_iff_mem.1 h) id
/-- Where a region stands, whatever came first. -/
structure Midway (pre : List Nat) (l : List Oper) (specs : List FSpec) (R : World → World → Prop) (w0 : World) (a0 : Act) (listed : Array Bool) (a : Act) (W : World) : Prop where
  size : listed.size = l.length
  rel : R w0 W
  defers : a.defers = a0.defers
  tsize : a.tmps.size = a0.tmps.size
  closed : ∀ (i : Nat) (o : Oper), listed.getD i false = true → l[i]? = some o → ∀ e ∈ o.after, Region.binds .any e = true → listed.getD e.on false = true
  other : ∀ (t : Tmp), (∀ (j : Nat) (o : Oper), l[j]? = some o → listed.getD j false = true → o.dst ≠ some t) → a.tmps[t]? = a0.tmps[t]?
  fact : ∀ (j : Nat) (o : Oper) (d : Tmp) (s : FSpec), listed.getD j false = true → l[j]? = some o → o.dst = some d → specs[j]? = some s → s.ok W (a.tmps.getD d undef)
  late : ∀ (j : Nat), specs.length ≤ j → listed.getD j false = false
theorem Midway.value {specs : List FSpec} {a0 a : Act} {listed : Array Bool} {W : World} (m : Midway pre l0 specs R w0 a0 listed a W) {j : Nat} {o : Oper} {d : Tmp} (hj : listed.getD j false = true) (ho : l0[j]? = some o) (hd : o.dst = some d) :
    a.tmps.getD d undef = valuesOf l0 specs a j := by
  have hlt : j < specs.length := by
    rcases Nat.lt_or_ge j specs.length with h | h
    · exact h
    · rw [m.late j h] at hj; cases hj
  have hs : specs[j]? = some specs[j] := List.getElem?_eq_getElem hlt
  have := m.fact j o d _ hj ho hd hs
  generalize specs[j] = s at this hs
  cases s with
  | val c => simp only [FSpec.ok] at this; simp [valuesOf, hs, this]
  | pred Φ => simp [valuesOf, hs, ho, hd]
theorem Midway.tmp {specs : List FSpec} {a0 a : Act} {listed : Array Bool} {W : World} (m : Midway pre l0 specs R w0 a0 listed a W) (ok : OkSpec pre l0 specs.length a0.tmps.size) (k t : Nat) (hk : k ≤ specs.length)
    (h : ∀ (j : Nat) (oj : Oper), l0[j]? = some oj → oj.dst = some t → j < k ∧ listed.getD j false = true) : (frameAt a0 l0 (valuesOf l0 specs a) k).tmps[t]? = a.tmps[t]? := by
  by_cases hex : ∃ (j : Nat) (oj : Oper), l0[j]? = some oj ∧ oj.dst = some t
  · obtain ⟨j, oj, hj, hd⟩ := hex
    obtain ⟨hjk, hlj⟩ := h j oj hj hd
    have ht := ok.dst j oj t hj hd
    rw [frameAt_own a0 l0 _ k t j oj hjk hj hd ht fun i o' hne ho' hd' => by
      rcases Nat.lt_or_ge i specs.length with hi | hi
      · exact ok.one i o' j oj t hi ho' hj hd hne hd'
      · exact ok.one j oj i o' t (by omega) hj ho' hd' (Ne.symm hne) hd]
    rw [← m.value hlj hj hd]
    have : t < a.tmps.size := by rw [m.tsize]; exact ht
    simp [this]
  · rw [frameAt_other a0 l0 _ k t fun j o _ ho hd => hex ⟨j, o, ho, hd⟩, m.other t fun j o ho _ hd => hex ⟨j, o, ho, hd⟩]
theorem Midway.next {specs : List FSpec} {a0 a : Act} {listed : Array Bool} {W : World} (m : Midway pre l0 specs R w0 a0 listed a W) (ok : OkSpec pre l0 specs.length a0.tmps.size) (htr : ∀ a b c, R a b → R b c → R a c)
    (hst : ∀ s ∈ specs, ∀ W W' v, R W W' → s.ok W v → s.ok W' v) {i : Nat} {o : Oper} (hi : i < specs.length) (ho : l0[i]? = some o) (hedge : ∀ e ∈ o.after, Region.binds .any e = true → listed.getD e.on false = true) :
    ∀ W' v, R W W' → specs[i].ok W' v → Midway pre l0 specs R w0 a0 (listed.setIfInBounds i true) (a.put o.dst v) W' := by
  have hil : i < l0.length := (List.getElem?_eq_some_iff.1 ho).1
  have hlt : i < listed.size := by rw [m.size]; exact hil
  have hs : specs[i]? = some specs[i] := List.getElem?_eq_getElem hi
  intro W' v hR hv
  refine ⟨by simpa using m.size, htr _ _ _ m.rel hR, ?_, ?_, ?_, ?_, ?_, ?_⟩
  · rw [← m.defers]; cases o.dst <;> rfl
  · rw [← m.tsize]; cases hd : o.dst <;> simp [Act.put]
  · intro j oj hj hoj e he hb
    by_cases hij : i = j
    · subst hij
      rw [ho] at hoj; cases hoj
      exact getD_set_true (hedge e he hb)
    · rw [getD_set_ne false hij] at hj
      exact getD_set_true (m.closed j oj hj hoj e he hb)
  · intro t ht
    have hne : o.dst ≠ some t := ht i o ho (by simp [hlt])
    rw [← m.other t fun j oj hoj hj => ht j oj hoj (by
      by_cases hij : i = j
      · subst hij; simp [hlt]
      · rw [getD_set_ne false hij]; exact hj)]
    cases hd : o.dst with
    | none => rfl
    | some d =>
      have : d ≠ t := fun e => hne (by rw [hd, e])
      simp [Act.put, Array.getElem?_setIfInBounds_ne this]
  · intro j oj d s hj hoj hdj hsj
    by_cases hij : i = j
    · subst hij
      rw [ho] at hoj; cases hoj
      rw [hs] at hsj; cases hsj
      have hsz : d < a.tmps.size := by rw [m.tsize]; exact ok.dst i _ d ho hdj
      simpa [Act.put, hdj, hsz] using hv
    · rw [getD_set_ne false hij] at hj
      have hf := m.fact j oj d s hj hoj hdj hsj
      have hf := hst s (List.mem_of_getElem? hsj) _ _ _ hR hf
      have hnd : o.dst ≠ some d := ok.one i o j oj d hi ho hoj hdj hij
      cases hd : o.dst with
      | none => simpa [Act.put] using hf
      | some e =>
        have : e ≠ d := fun e' => hnd (by rw [hd, e'])
        simpa [Act.put, Array.getElem?_setIfInBounds_ne this] using hf
  · intro j hj
    rw [getD_set_ne false (show i ≠ j by omega)]
    exact m.late j hj
/-- One operation more, none of the tail. -/
theorem Midway.step {specs : List FSpec} {a0 a : Act} {listed : Array Bool} {W : World} (m : Midway pre l0 specs R w0 a0 listed a W) (ok : OkSpec pre l0 specs.length a0.tmps.size) (hrf : ∀ a, R a a) (htr : ∀ a b c, R a b → R b c → R a c)
    (hst : ∀ s ∈ specs, ∀ W W' v, R W W' → s.ok W v → s.ok W' v) (h : freeSteps P l0 R w0 Q 0 specs l0 a0 []) {i : Nat} (hi : i < specs.length) (hr : i ∈ Region.ready .any l0.toArray listed) :
    wpOp P l0.toArray Q i (fun a' W' => Midway pre l0 specs R w0 a0 (listed.setIfInBounds i true) a' W') a W := by
  obtain ⟨hun, o, ho', hedge⟩ := mem_ready.1 hr
  have ho : l0[i]? = some o := by simpa using ho'
  have hil : i < l0.length := (List.getElem?_eq_some_iff.1 ho).1
  have hlt : i < listed.size := by rw [m.size]; exact hil
  have hat := steps_at h (valuesOf l0 specs a) (valuesOf_fits l0 specs a) i (by omega)
  rw [List.drop_eq_getElem_cons hi, List.drop_eq_getElem_cons hil] at hat
  have hs : specs[i]? = some specs[i] := List.getElem?_eq_getElem hi
  have hoi : l0[i] = o := by
    have := List.getElem?_eq_getElem hil
    rw [ho] at this
    exact (Option.some.inj this).symm
  rw [hoi] at hat
  have hfacts : ∀ p ∈ factsAt specs (valuesOf l0 specs a) i, leans l0 o p.1 = true → p.2.1.ok W p.2.2 := by
    intro p hp hl
    obtain ⟨h1, h2, h3⟩ := mem_factsAt hp
    unfold leans at hl
    split at hl
    · rename_i d hd
      obtain ⟨oj, hj, hdj⟩ := Option.bind_eq_some_iff.1 hd
      have hlook := ok.look i o p.1 oj d hi ho hj hdj (List.contains_iff_mem.1 hl)
      have hlj : listed.getD p.1 false = true := listed_anc (l0 := l0) m.closed 0 o p.1 hedge hlook.2
      have := m.fact p.1 oj d p.2.1 hlj hj hdj h2
      rw [h3, ← m.value hlj hj hdj]
      exact this
    · cases hl
  have hsame : ∀ t, t ∈ o.looksAt l0.toArray → (frameAt a0 l0 (valuesOf l0 specs a) i).tmps[t]? = a.tmps[t]? := by
    intro t ht
    refine m.tmp ok i t (by omega) fun j oj hj hdj => ?_
    have hlook := ok.look i o j oj t hi ho hj hdj ht
    exact ⟨hlook.1, listed_anc (l0 := l0) m.closed 0 o j hedge hlook.2⟩
  have hev : execOp (frameAt a0 l0 (valuesOf l0 specs a) i).eval o = execOp a.eval o := eval_of_tmps o (fun cs b => ok.sel i o cs b ho) hsame
  have hwa : Region.wanted o (yielded l0.toArray (frameAt a0 l0 (valuesOf l0 specs a) i).tmps) = Region.wanted o (yielded l0.toArray a.tmps) := wanted_of_tmps o hsame
  -- what is left to show of each value
  have next : ∀ W' v, R W W' → specs[i].ok W' v → Midway pre l0 specs R w0 a0 (listed.setIfInBounds i true) (a.put o.dst v) W' := by
    intro W' v hR hv
    refine ⟨by simpa using m.size, htr _ _ _ m.rel hR, ?_, ?_, ?_, ?_, ?_, ?_⟩
    · rw [← m.defers]; cases o.dst <;> rfl
    · rw [← m.tsize]; cases hd : o.dst <;> simp [Act.put]
    · intro j oj hj hoj e he hb
      by_cases hij : i = j
      · subst hij
        rw [ho] at hoj; cases hoj
        exact getD_set_true (hedge e he hb)
      · rw [getD_set_ne false hij] at hj
        exact getD_set_true (m.closed j oj hj hoj e he hb)
    · intro t ht
      have hne : o.dst ≠ some t := ht i o ho (by simp [hlt])
      rw [← m.other t fun j oj hoj hj => ht j oj hoj (by
        by_cases hij : i = j
        · subst hij; simp [hlt]
        · rw [getD_set_ne false hij]; exact hj)]
      cases hd : o.dst with
      | none => rfl
      | some d =>
        have : d ≠ t := fun e => hne (by rw [hd, e])
        simp [Act.put, Array.getElem?_setIfInBounds_ne this]
    · intro j oj d s hj hoj hdj hsj
      by_cases hij : i = j
      · subst hij
        rw [ho] at hoj; cases hoj
        rw [hs] at hsj; cases hsj
        have hsz : d < a.tmps.size := by rw [m.tsize]; exact ok.dst i _ d ho hdj
        simpa [Act.put, hdj, hsz] using hv
      · rw [getD_set_ne false hij] at hj
        have hf := m.fact j oj d s hj hoj hdj hsj
        have hf := hst s (List.mem_of_getElem? hsj) _ _ _ hR hf
        have hnd : o.dst ≠ some d := ok.one i o j oj d hi ho hoj hdj hij
        cases hd : o.dst with
        | none => simpa [Act.put] using hf
        | some e =>
          have : e ≠ d := fun e' => hnd (by rw [hd, e'])
          simpa [Act.put, Array.getElem?_setIfInBounds_ne this] using hf
    · intro j hj
      rw [getD_set_ne false (show i ≠ j by omega)]
      exact m.late j hj
  unfold wpOp
  simp only [List.getElem?_toArray, ho]
  generalize hsp : specs[i] = s at hat next
  cases s with
  | val c =>
    simp only [freeSteps] at hat
    have hone := hat.1 W m.rel (factsHold_of hfacts)
    rw [hwa, hev] at hone
    split
    · rename_i hw
      rw [if_pos hw] at hone
      refine .inl (upon_of_gives hone fun w' v hv => next _ _ hv.1 hv.2)
    · rename_i hw
      rw [if_neg hw] at hone
      exact next W undef (hrf W) hone
  | pred Φ =>
    simp only [freeSteps] at hat
    have hone := hat.1 W m.rel (factsHold_of hfacts)
    rw [hwa, hev] at hone
    split
    · rename_i hw
      rw [if_pos hw] at hone
      refine .inl (upon_of_gives hone fun w' v hv => next _ _ hv.1 hv.2)
    · rename_i hw
      rw [if_neg hw] at hone
      exact next W undef (hrf W) hone
/-- All of the front is done, and nothing else: the frame is the lexical walk's. -/
theorem Midway.done {specs : List FSpec} {a0 a : Act} {listed : Array Bool} {W : World} (m : Midway pre l0 specs R w0 a0 listed a W) (ok : OkSpec pre l0 specs.length a0.tmps.size) (hall : ∀ j, j < specs.length → listed.getD j false = true) :
    a = frameAt a0 l0 (valuesOf l0 specs a) specs.length ∧ ∀ p ∈ factsAt specs (valuesOf l0 specs a) specs.length, p.2.1.ok W p.2.2 := by
  refine ⟨?_, fun p hp => ?_⟩
  · obtain ⟨tm, df⟩ := a
    have hdf := frameAt_defers a0 l0 (valuesOf l0 specs ⟨tm, df⟩) specs.length
    have htm : tm = (frameAt a0 l0 (valuesOf l0 specs ⟨tm, df⟩) specs.length).tmps := by
      refine Array.ext_getElem? fun t => ?_
      by_cases hex : ∃ (j : Nat) (oj : Oper), l0[j]? = some oj ∧ oj.dst = some t ∧ specs.length ≤ j
      · obtain ⟨j, oj, hj, hd, hge⟩ := hex
        by_cases hin : ∃ (i : Nat) (oi : Oper), l0[i]? = some oi ∧ oi.dst = some t ∧ i < specs.length
        · obtain ⟨i, oi, hi, hdi, hlt⟩ := hin
          exact absurd hdi (ok.one i oi j oj t hlt hi hj hd (by omega))
        · rw [frameAt_other a0 l0 _ _ t fun i o hi ho hd' => hin ⟨i, o, ho, hd', hi⟩]
          refine m.other t fun i o ho hl hd' => ?_
          rcases Nat.lt_or_ge i specs.length with h | h
          · exact hin ⟨i, o, ho, hd', h⟩
          · rw [m.late i h] at hl; cases hl
      · refine (m.tmp ok specs.length t (Nat.le_refl _) fun j oj hj hd => ?_).symm
        have hlt : j < specs.length := by
          rcases Nat.lt_or_ge j specs.length with h | h
          · exact h
          · exact absurd ⟨j, oj, hj, hd, h⟩ hex
        exact ⟨hlt, hall j hlt⟩
    have h1 : (frameAt a0 l0 (valuesOf l0 specs ⟨tm, df⟩) specs.length).defers = df := by rw [hdf, ← m.defers]
    generalize frameAt a0 l0 (valuesOf l0 specs ⟨tm, df⟩) specs.length = f at htm h1
    obtain ⟨ft, fd⟩ := f
    simp only at htm h1
    rw [htm, h1]
  · obtain ⟨h1, h2, h3⟩ := mem_factsAt hp
    have hil : p.1 < l0.length := by have := ok.len; omega
    have ho : l0[p.1]? = some l0[p.1] := List.getElem?_eq_getElem hil
    rw [h3]
    cases hd : l0[p.1].dst with
    | some d =>
      rw [← m.value (hall p.1 h1) ho hd]
      exact m.fact p.1 _ d _ (hall p.1 h1) ho hd h2
    | none =>
      have := ok.has p.1 _ h1 ho
      simp [hd] at this
theorem free_mono {md : Region.Mode} {ops : Array Oper} {listed : Array Bool} {i : Nat} (f : Nat → Bool) (hl : ∀ j, f j = true → listed.getD j true = true) (h : Region.free md ops (((List.range ops.size).map f).toArray) i = true) : Region.free md ops listed i = true := by
  unfold Region.free at *
  split at h
  · cases h
  · rw [List.all_eq_true] at *
    intro j hj
    have := h j hj
    have hjl : j < ops.size := List.mem_range.1 hj
    have e : (((List.range ops.size).map f).toArray).getD j true = f j := by simp [hjl]
    rw [e] at this
    cases h2 : listed.getD j true with
    | true => simp
    | false =>
      have h3 : f j = false := by
        cases h4 : f j with
        | false => rfl
        | true => rw [hl j h4] at h2; cases h2
      rw [h3] at this
      exact this
theorem free_any {specs : List FSpec} {a0 : Act} {k : Nat} {ok' : Oper} {d : Tmp} {v : Value} (hpk : pre = [k]) (hk : l0[k]? = some ok') (_hkd : ok'.dst = some d) (hks : specs[k]? = some (.val v)) (hns : Region.noSelect l0.toArray = true)
    (hf : Region.free .any l0.toArray (((List.range l0.toArray.size).map fun j => hasEdge ok' j).toArray) k = true) (hQ : ∀ c a w, Q (.panic c) (a.put ok'.dst v) w → Q (.panic c) a w)
    (hy : ∀ (a : Act) (W : World), R w0 W → (∀ j s oj dj, specs[j]? = some s → l0[j]? = some oj → oj.dst = some dj → hasEdge ok' j = true → s.ok W (a.tmps.getD dj undef)) → Yields P l0.toArray ok' v a)
    (ok : OkSpec pre l0 specs.length a0.tmps.size) (hrf : ∀ a, R a a) (htr : ∀ a b c, R a b → R b c → R a c)
    (hst : ∀ s ∈ specs, ∀ W W' v, R W W' → s.ok W v → s.ok W' v) (h : freeSteps P l0 R w0 Q 0 specs l0 a0 []) :
    ∀ (fuel : Nat) (listed : Array Bool) (a : Act) (W : World), left l0 listed ≤ fuel → Midway pre l0 specs R w0 a0 listed a W → wpAny P .any l0.toArray Q fuel listed a W := by
  have fin : ∀ (listed : Array Bool) (a : Act) (W : World), Midway pre l0 specs R w0 a0 listed a W → (∀ j, j < specs.length → listed.getD j false = true) → wpList P l0.toArray Q (l0.drop specs.length) a W := by
    intro listed a W m hall
    obtain ⟨he, hf⟩ := m.done ok hall
    have hat := steps_at h (valuesOf l0 specs a) (valuesOf_fits l0 specs a) specs.length (Nat.le_refl _)
    rw [List.drop_length] at hat
    simp only [freeSteps] at hat
    have := hat W m.rel (factsHold_of fun p hp _ => hf p hp)
    rwa [← he] at this
  have hkn : k < specs.length := (List.getElem?_eq_some_iff.1 hks).1
  have hpre : ∀ (listed : Array Bool), (∀ j, j < specs.length → listed.getD j false = true) → ∀ j ∈ pre, listed.getD j false = true := by
    intro listed hall j hj
    rw [hpk] at hj
    obtain rfl := List.mem_singleton.1 hj
    exact hall _ hkn
  have hlst : ∀ (listed : Array Bool) (a : Act) (W : World), Midway pre l0 specs R w0 a0 listed a W → (∀ j, j < specs.length → listed.getD j false = true) → ∀ i, i < l0.length → (listed.getD i false = true ↔ i < specs.length) := by
    intro listed a W m hall i hi
    constructor
    · intro hl
      rcases Nat.lt_or_ge i specs.length with h | h
      · exact h
      · rw [m.late i h] at hl; cases hl
    · exact hall i
  intro fuel
  induction fuel with
  | zero =>
    intro listed a W hl m
    have hnone : ∀ i, i < l0.length → listed.getD i true = true := by
      intro i hi
      have h0 : ((List.range l0.length).filter fun i => !listed.getD i true) = [] := List.eq_nil_of_length_eq_zero (by unfold left at hl; omega)
      have := List.filter_eq_nil_iff.1 h0 i (List.mem_range.2 hi)
      simpa using this
    have hall : ∀ j, j < specs.length → listed.getD j false = true := by
      intro j hj
      have h1 := hnone j (by have := ok.len; omega)
      rcases listed_cases (listed := listed) (i := j) (by rw [m.size]; have := ok.len; omega) with h2 | h2
      · exact h2
      · rw [h2] at h1; cases h1
    have hn : specs.length = l0.length := by
      rcases Nat.lt_or_ge specs.length l0.length with h1 | h1
      · have h2 := hnone specs.length h1
        have h3 := m.late specs.length (Nat.le_refl _)
        rcases listed_cases (listed := listed) (i := specs.length) (by rw [m.size]; exact h1) with h4 | h4
        · rw [h4] at h3; cases h3
        · rw [h4] at h2; cases h2
      · have := ok.len; omega
    exact tail_forced ok.tail 0 specs.length listed a W 0 (Nat.le_refl _) hn (Nat.le_refl _) m.size (hpre _ hall) m.closed (hlst _ _ _ m hall) ok.edge (fin _ _ _ m hall)
  | succ fuel ih =>
    intro listed a W hl m
    by_cases hall : ∀ j, j < specs.length → listed.getD j false = true
    · refine tail_forced ok.tail (l0.length - specs.length) specs.length listed a W (fuel + 1) (Nat.le_refl _) (by have := ok.len; omega) ?_ m.size (hpre _ hall) m.closed (hlst _ _ _ m hall) ok.edge (fin _ _ _ m hall)
      have := left_ge (l := l0) (listed := listed) (n := specs.length) fun i h1 h2 => by
        have := m.late i h1
        have hlt : i < listed.size := by rw [m.size]; exact h2
        simpa [hlt] using this
      omega
    · by_cases hrk : k ∈ Region.ready .any l0.toArray listed
      · obtain ⟨hun, o, ho', hedge⟩ := mem_ready.1 hrk
        have ho : l0[k]? = some o := by simpa using ho'
        rw [hk] at ho; cases ho
        have hed : ∀ j, hasEdge ok' j = true → listed.getD j false = true := fun j he => by
          obtain ⟨e, he1, he2⟩ := List.any_eq_true.1 he
          simp only [Bool.and_eq_true, beq_iff_eq] at he2
          have := hedge e (Array.mem_toList_iff.1 he1) he2.1
          rwa [he2.2] at this
        have hle : ∀ j, hasEdge ok' j = true → listed.getD j true = true := fun j he => by
          have h1 := hed j he
          rcases Nat.lt_or_ge j listed.size with h2 | h2
          · simpa [h2] using h1
          · simp [h2]
        have hyy : Yields P l0.toArray ok' v a := hy a W m.rel fun j s oj dj hs hj hd he => by
          exact m.fact j oj dj s (hed j he) hj hd hs
        refine wpAny_take (i := k) (by simpa using hk) hns (free_mono _ hle hf) (List.contains_iff_mem.2 hrk) hQ hyy ?_
        have hil : k < l0.length := (List.getElem?_eq_some_iff.1 hk).1
        have hsk : specs[k] = .val v := by
          have := List.getElem?_eq_getElem hkn
          rw [hks] at this
          exact (Option.some.inj this).symm
        exact ih _ _ W (by have := left_set hil hun; omega) (m.next ok htr hst hkn hk hedge W v (hrf W) (by rw [hsk]; rfl))
      have hkl : ∀ i o, specs.length ≤ i → l0[i]? = some o → (∀ e ∈ o.after, Region.binds .any e = true → listed.getD e.on false = true) → ∀ j ∈ pre, listed.getD j false = true := by
        intro i o hi ho hedge j hj
        rw [hpk] at hj
        obtain rfl := List.mem_singleton.1 hj
        have hil : j < l0.length := (List.getElem?_eq_some_iff.1 hk).1
        rcases listed_cases (listed := listed) (i := j) (by rw [m.size]; exact hil) with h1 | h1
        · exact h1
        · refine absurd (mem_ready.2 ⟨h1, ok', by simpa using hk, fun e he hb => ?_⟩) hrk
          have hlt := ok.edge j ok' hk e he hb
          have := ok.tail i o hi ho e.on (by omega)
          rcases this with h2 | h2
          · rw [hpk] at h2
            have := List.mem_singleton.1 h2
            omega
          · exact listed_anc m.closed 16 o e.on hedge h2
      refine ⟨fun h0 => ?_, fun i hi => ?_⟩
      · refine absurd (fun j => ?_) hall
        induction j using Nat.strongRecOn with
        | _ j ihj =>
          intro hj
          have hjl : j < l0.length := by have := ok.len; omega
          have hoj : l0[j]? = some l0[j] := List.getElem?_eq_getElem hjl
          rcases listed_cases (listed := listed) (i := j) (by rw [m.size]; exact hjl) with h1 | h1
          · exact h1
          · have hm : j ∈ Region.ready .any l0.toArray listed := mem_ready.2 ⟨h1, l0[j], by simp [hjl], fun e he hb => by
              have := ok.edge j _ hoj e he hb
              exact ihj e.on this (by omega)⟩
            rw [h0] at hm
            cases hm
      · obtain ⟨hun, o, ho', hedge⟩ := mem_ready.1 hi
        have hil : i < l0.length := by have := lt_of_unlisted hun; rw [m.size] at this; exact this
        have hn : i < specs.length := by
          rcases Nat.lt_or_ge i specs.length with h1 | h1
          · exact h1
          · exact absurd (fun j hj => (ok.tail i o h1 (by simpa using ho') j (by omega)).elim (fun hp => hkl i o h1 (by simpa using ho') hedge j hp) (listed_anc m.closed 16 o j hedge)) hall
        exact wpOp_mono (fun a' W' m' => ih _ a' W' (by have := left_set hil hun; omega) m') (m.step ok hrf htr hst h hn hi)
theorem region_late {id : Nat} {l : List Oper} {a : Act} {w : World} (R : World → World → Prop) (specs : List FSpec) (k : Nat) (ok : Oper) (d : Tmp) (v : Value) (hm : P.follows .mixedOrders = true) (hok : okFree [k] specs.length a.tmps.size l = true)
    (hk : l[k]? = some ok) (hd : ok.dst = some d) (hs : specs[k]? = some (.val v)) (hns : Region.noSelect l.toArray = true)
    (hf : Region.free .any l.toArray (((List.range l.toArray.size).map fun j => hasEdge ok j).toArray) k = true) (hQ : ∀ c a w, Q (.panic c) (a.put ok.dst v) w → Q (.panic c) a w)
    (hy : ∀ (a : Act) (W : World), R w W → (∀ j s oj dj, specs[j]? = some s → l[j]? = some oj → oj.dst = some dj → hasEdge ok j = true → s.ok W (a.tmps.getD dj undef)) → Yields P l.toArray ok v a)
    (hrf : ∀ a, R a a) (htr : ∀ a b c, R a b → R b c → R a c) (hdr : ∀ a, R a a.drew) (hst : ∀ s ∈ specs, ∀ W W' v, R W W' → s.ok W v → s.ok W' v)
    (h : freeSteps P l R w Q 0 specs l a []) : (Code.region id l.toArray true).wp P Q a w := by
  refine wp_region_any hm ?_
  have hget : ∀ i : Nat, (Array.replicate l.toArray.size false).getD i false = false := by
    intro i
    rw [Array.getD_eq_getD_getElem?, Array.getElem?_replicate]
    split <;> rfl
  refine free_any rfl hk hd hs hns hf hQ hy (okFree_spec hok) hrf htr hst h _ _ _ _ ?_ ⟨by simp, hdr w, rfl, rfl, ?_, ?_, ?_, ?_⟩
  · unfold left
    refine Nat.le_trans (List.length_filter_le _ _) ?_
    simp
  · intro i o hi
    rw [hget] at hi; cases hi
  · intro t _; rfl
  · intro j o d s hj
    rw [hget] at hj; cases hj
  · intro j _
    exact hget j
end
end Go.Proofs.YtkkfgphcmnhabaaGreatDoor.Late
namespace Go.Proofs.YtkkfgphcmnhabaaGreatDoor
set_option maxRecDepth 100000
open Go Go.RowKit Go.Proofs
theorem gone_l (g M : Nat) (w : World) (h : w.heap[g]? = some (.cells #[.map (some M)] 72 (0, 0))) :
    Calls Tryz.prog 27 #[.pointer (some ⟨g, 0, none⟩)] w fun e w' => e = .returned (.bool false) ∧ w = w' := by
  have k0 := cell0 h
  clear h
  have hm : ∀ W, Sem.run Tryz.prog (binOp BinOp.eql 70 (Value.map (some M)) (Value.map none)) W = Result.ok (.bool false) W := fun W => by kernel_rfl
  go_enter Tryz.func27, Tryz.ntmps27
  go_wp2_with fail
  go_ret
  exact ⟨rfl, rfl⟩
theorem new_c (w : World) : Calls Tryz.prog 21 #[] w fun e w' => ∃ g M, e = .returned (.pointer (some ⟨g, 0, none⟩)) ∧ Cat w' g M [] ∧ Ext w w' ∧ w.heap.size ≤ g ∧ w.heap.size ≤ M := by
  have hmm := @run_makeMap Tryz.prog
  go_enter Tryz.func21, Tryz.ntmps21
  go_wp2_with fail
  go_ret
  refine ⟨_, _, rfl, ⟨heap_at _ _ _ (by simp), (mapP_made w).blk (heap_alloc_old _ _ (by simp)), by simp, by simp, by simp, by simp, by simp⟩, ((Ext.refl w).al _).al _, by omega, Nat.le_refl _⟩
end Go.Proofs.YtkkfgphcmnhabaaGreatDoor
