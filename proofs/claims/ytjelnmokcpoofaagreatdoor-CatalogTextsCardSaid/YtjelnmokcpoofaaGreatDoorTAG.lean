/-
  As FreeT, but an operation of the front may give no value (a store): printed by tools/gen_frees.py. A row that is stored early or late. law25: asked, of a catalogue that is gone: printed by tools/gen_asked.py. bench.may, bench.Check of one element, catalog.may: printed by tools/gen_may.py. polestarref01: divide by more than one limb. polestarref01: Sign, Check, Of, Bits, Cmp, Below, Turned. polestarref01: Cmp, Below, Turned. polestarref01: Plus, Minus, Times, Divide. polestarref01: Divide.
-/
import Derived.Test.YtjelnmokcpoofaaGreatDoorTAF
import Derived.Test.YtjelnmokcpoofaaGreatDoorTAA
import Derived.Test.YtjelnmokcpoofaaGreatDoorTAE
import Derived.Test.YtjelnmokcpoofaaGreatDoorProg
import Derived.Test.YtjelnmokcpoofaaGreatDoorTAD
import Derived.Test.YtjelnmokcpoofaaGreatDoorTAC
namespace Go.Proofs.YtjelnmokcpoofaaGreatDoor
set_option maxRecDepth 100000
open Go Go.RowKit Go.Proofs
def okOperS (l : List Oper) (n i : Nat) (o : Oper) : Bool :=
 (o.after.toList.all fun e => !Region.binds .any e || decide (e.on < i)) &&
 (if i < n then
  (List.range l.length).all fun j => match l[j]? with
   | some oj => (match oj.dst with
    | some d => (!(o.looksAt l.toArray).contains d || (decide (j < i) && hasEdge o j) || decide (n ≤ j)) && (j == i || o.dst != some d)
    | none => true)
   | none => true
 else (List.range i).all fun j => ancB l 16 o j)
def okFreeS (n size : Nat) (l : List Oper) : Bool :=
 Region.noSelect l.toArray && decide (n ≤ l.length) && (l.all fun o => match o.dst with | some d => decide (d < size) | none => true) &&
  (List.range l.length).all fun i => match l[i]? with | some o => okOperS l n i o | none => true
section
variable {P : Program} {l0 : List Oper} {R : World → World → Prop} {w0 : World} {Q : Exit → Act → World → Prop}
structure OkSpecS (l : List Oper) (n size : Nat) : Prop where
 sel : ∀ (j : Nat) (o : Oper) cs b, l[j]? = some o → o.op ≠ .select cs b
 len : n ≤ l.length
 dst : ∀ (j : Nat) (o : Oper) (d : Tmp), l[j]? = some o → o.dst = some d → d < size
 edge : ∀ (i : Nat) (o : Oper), l[i]? = some o → ∀ e ∈ o.after, Region.binds .any e = true → e.on < i
 look : ∀ (i : Nat) (o : Oper) (j : Nat) (oj : Oper) (d : Tmp), i < n → l[i]? = some o → l[j]? = some oj → oj.dst = some d → d ∈ o.looksAt l.toArray → (j < i ∧ hasEdge o j = true) ∨ n ≤ j
 one : ∀ (i : Nat) (o : Oper) (j : Nat) (oj : Oper) (d : Tmp), i < n → l[i]? = some o → l[j]? = some oj → oj.dst = some d → i ≠ j → o.dst ≠ some d
 tail : ∀ (i : Nat) (o : Oper), n ≤ i → l[i]? = some o → ∀ j, j < i → ancB l 16 o j = true
theorem okFree_specS {n size : Nat} {l : List Oper} (h : okFreeS n size l = true) : OkSpecS l n size := by
 simp only [okFreeS, Bool.and_eq_true, decide_eq_true_eq, List.all_eq_true, List.mem_range] at h
 obtain ⟨⟨⟨h1, h2⟩, h3⟩, h4⟩ := h
 have at_ : ∀ i o, l[i]? = some o → okOperS l n i o = true := by
  intro i o ho
  have := h4 i (List.getElem?_eq_some_iff.1 ho).1
  rwa [ho] at this
 refine ⟨fun j o cs b hj => Region.noSelect_spec h1 j o cs b (by simpa using hj), h2, ?_, ?_, ?_, ?_, ?_⟩
 ·intro j o d ho hd
  have := h3 o (List.mem_of_getElem? ho)
  simpa [hd] using this
 ·intro i o ho e he hb
  have := at_ i o ho
  simp only [okOperS, Bool.and_eq_true, List.all_eq_true, Bool.or_eq_true, Bool.not_eq_true', decide_eq_true_eq] at this
  have := this.1 e (Array.mem_toList_iff.2 he)
  rcases this with h | h
  ·rw [h] at hb; cases hb
  ·exact h
 ·intro i o j oj d hi ho hj hd hm
  have := at_ i o ho
  simp only [okOperS, Bool.and_eq_true, if_pos hi, List.all_eq_true, List.mem_range] at this
  have := this.2 j (List.getElem?_eq_some_iff.1 hj).1
  simp only [hj, hd, Bool.and_eq_true, Bool.or_eq_true, Bool.not_eq_true', decide_eq_true_eq] at this
  rcases this.1 with (h | h) | h
  ·have := List.contains_iff_mem.2 hm
   rw [h] at this; cases this
  ·exact .inl h
  ·exact .inr h
 ·intro i o j oj d hi ho hj hd hne
  have := at_ i o ho
  simp only [okOperS, Bool.and_eq_true, if_pos hi, List.all_eq_true, List.mem_range] at this
  have := this.2 j (List.getElem?_eq_some_iff.1 hj).1
  simp only [hj, hd, Bool.and_eq_true, Bool.or_eq_true, beq_iff_eq, bne_iff_ne, ne_eq] at this
  rcases this.2 with h | h
  ·exact absurd h.symm hne
  ·exact h
 ·intro i o hi ho j hj
  have := at_ i o ho
  simp only [okOperS, Bool.and_eq_true, if_neg (Nat.not_lt.2 hi), List.all_eq_true, List.mem_range] at this
  exact this.2 j hj
structure MidwayS (l : List Oper) (specs : List FSpec) (R : World → World → Prop) (w0 : World) (a0 : Act) (listed : Array Bool) (a : Act) (W : World) : Prop where
 size : listed.size = l.length
 rel : R w0 W
 defers : a.defers = a0.defers
 tsize : a.tmps.size = a0.tmps.size
 closed : ∀ (i : Nat) (o : Oper), listed.getD i false = true → l[i]? = some o → ∀ e ∈ o.after, Region.binds .any e = true → listed.getD e.on false = true
 other : ∀ (t : Tmp), (∀ (j : Nat) (o : Oper), l[j]? = some o → listed.getD j false = true → o.dst ≠ some t) → a.tmps[t]? = a0.tmps[t]?
 fact : ∀ (j : Nat) (o : Oper) (d : Tmp) (s : FSpec), listed.getD j false = true → l[j]? = some o → o.dst = some d → specs[j]? = some s → s.ok W (a.tmps.getD d undef)
 late : ∀ (j : Nat), specs.length ≤ j → listed.getD j false = false
 void : ∀ (j : Nat) (o : Oper) (s : FSpec), listed.getD j false = true → l[j]? = some o → o.dst = none → specs[j]? = some s → s.ok W undef
def VoidAll : List Oper → List FSpec → Prop
 | o :: l, s :: ss => (o.dst = none → ∀ W v, s.ok W v → s.ok W undef) ∧ VoidAll l ss
 | _, _ => True
theorem VoidAll.at_ : ∀ {l : List Oper} {ss : List FSpec} {j : Nat} {o : Oper} {s : FSpec}, VoidAll l ss → l[j]? = some o → ss[j]? = some s → o.dst = none → ∀ W v, s.ok W v → s.ok W undef
 | _ :: _, _ :: _, 0, _, _, h, h1, h2 => by
  simp at h1 h2
  subst h1 h2
  exact h.1
 | _ :: _, _ :: _, j + 1, _, _, h, h1, h2 => VoidAll.at_ (j := j) h.2 (by simpa using h1) (by simpa using h2)
 | [], _, _, _, _, _, h1, _ => by simp at h1
 | _ :: _, [], _, _, _, _, _, h2 => by simp at h2
theorem MidwayS.value {specs : List FSpec} {a0 a : Act} {listed : Array Bool} {W : World} (m : MidwayS l0 specs R w0 a0 listed a W) {j : Nat} {o : Oper} {d : Tmp} (hj : listed.getD j false = true) (ho : l0[j]? = some o) (hd : o.dst = some d) :
  a.tmps.getD d undef = valuesOf l0 specs a j := by
 have hlt : j < specs.length := by
  rcases Nat.lt_or_ge j specs.length with h | h
  ·exact h
  ·rw [m.late j h] at hj; cases hj
 have hs : specs[j]? = some specs[j] := List.getElem?_eq_getElem hlt
 have := m.fact j o d _ hj ho hd hs
 generalize specs[j] = s at this hs
 cases s with
 | val c => simp only [FSpec.ok] at this; simp [valuesOf, hs, this]
 | pred Φ => simp [valuesOf, hs, ho, hd]
theorem MidwayS.tmpS {specs : List FSpec} {a0 a : Act} {listed : Array Bool} {W : World} (m : MidwayS l0 specs R w0 a0 listed a W) (ok : OkSpecS l0 specs.length a0.tmps.size) (k t : Nat) (hk : k ≤ specs.length)
  (h : ∀ (j : Nat) (oj : Oper), l0[j]? = some oj → oj.dst = some t → (j < k ∧ listed.getD j false = true) ∨ specs.length ≤ j) : (frameAt a0 l0 (valuesOf l0 specs a) k).tmps[t]? = a.tmps[t]? := by
 by_cases hex : ∃ (j : Nat) (oj : Oper), l0[j]? = some oj ∧ oj.dst = some t
 ·obtain ⟨j, oj, hj, hd⟩ := hex
  rcases h j oj hj hd with ⟨hjk, hlj⟩ | hge
  case inr =>
   have hfr : ∀ (i : Nat) (oi : Oper), i < specs.length → l0[i]? = some oi → oi.dst ≠ some t := fun i oi hi hoi => ok.one i oi j oj t hi hoi hj hd (by omega)
   rw [frameAt_other a0 l0 _ k t fun i oi hi hoi => hfr i oi (by omega) hoi]
   refine (m.other t fun i oi hoi hl => ?_).symm
   rcases Nat.lt_or_ge i specs.length with hi | hi
   ·exact hfr i oi hi hoi
   ·rw [m.late i hi] at hl; cases hl
  have ht := ok.dst j oj t hj hd
  rw [frameAt_own a0 l0 _ k t j oj hjk hj hd ht fun i o' hne ho' hd' => by
   rcases Nat.lt_or_ge i specs.length with hi | hi
   ·exact ok.one i o' j oj t hi ho' hj hd hne hd'
   ·exact ok.one j oj i o' t (by omega) hj ho' hd' (Ne.symm hne) hd]
  rw [← m.value hlj hj hd]
  have : t < a.tmps.size := by rw [m.tsize]; exact ht
  simp [this]
 ·rw [frameAt_other a0 l0 _ k t fun j o _ ho hd => hex ⟨j, o, ho, hd⟩, m.other t fun j o ho _ hd => hex ⟨j, o, ho, hd⟩]
theorem MidwayS.stepS {specs : List FSpec} {a0 a : Act} {listed : Array Bool} {W : World} (m : MidwayS l0 specs R w0 a0 listed a W) (ok : OkSpecS l0 specs.length a0.tmps.size) (hrf : ∀ a, R a a) (htr : ∀ a b c, R a b → R b c → R a c)
  (hst : ∀ s ∈ specs, ∀ W W' v, R W W' → s.ok W v → s.ok W' v) (hvo : VoidAll l0 specs) (h : freeSteps P l0 R w0 Q 0 specs l0 a0 []) {i : Nat} (hi : i < specs.length) (hr : i ∈ Region.ready .any l0.toArray listed) :
  wpOp P l0.toArray Q i (fun a' W' => MidwayS l0 specs R w0 a0 (listed.setIfInBounds i true) a' W') a W := by
 obtain ⟨hun, o, ho', hedge⟩ := mem_ready.1 hr
 have ho : l0[i]? = some o := by simpa using ho'
 have hil : i < l0.length := (List.getElem?_eq_some_iff.1 ho).1
 have hlt : i < listed.size := by rw [m.size]; exact hil
 have hat := steps_at h (valuesOf l0 specs a) (valuesOf_fits l0 specs a) i (by omega)
 rw [List.drop_eq_getElem_cons hi, List.drop_eq_getElem_cons hil] at hat
 have hs : specs[i]? = some specs[i] := List.getElem?_eq_getElem hi
 have hoi : l0[i] = o := by
  have := List.getElem?_eq_getElem hil
  rw [ho] at this
  exact (Option.some.inj this).symm
 rw [hoi] at hat
 have hfacts : ∀ p ∈ factsAt specs (valuesOf l0 specs a) i, leans l0 o p.1 = true → p.2.1.ok W p.2.2 := by
  intro p hp hl
  obtain ⟨h1, h2, h3⟩ := mem_factsAt hp
  unfold leans at hl
  split at hl
  ·rename_i d hd
   obtain ⟨oj, hj, hdj⟩ := Option.bind_eq_some_iff.1 hd
   have hlook := (ok.look i o p.1 oj d hi ho hj hdj (List.contains_iff_mem.1 hl)).resolve_right (by omega)
   have hlj : listed.getD p.1 false = true := listed_anc (l0 := l0) m.closed 0 o p.1 hedge hlook.2
   have := m.fact p.1 oj d p.2.1 hlj hj hdj h2
   rw [h3, ← m.value hlj hj hdj]
   exact this
  ·cases hl
 have hsame : ∀ t, t ∈ o.looksAt l0.toArray → (frameAt a0 l0 (valuesOf l0 specs a) i).tmps[t]? = a.tmps[t]? := by
  intro t ht
  refine m.tmpS ok i t (by omega) fun j oj hj hdj => ?_
  rcases ok.look i o j oj t hi ho hj hdj ht with hlook | hlook
  ·exact .inl ⟨hlook.1, listed_anc (l0 := l0) m.closed 0 o j hedge hlook.2⟩
  ·exact .inr hlook
 have hev : execOp (frameAt a0 l0 (valuesOf l0 specs a) i).eval o = execOp a.eval o := eval_of_tmps o (fun cs b => ok.sel i o cs b ho) hsame
 have hwa : Region.wanted o (yielded l0.toArray (frameAt a0 l0 (valuesOf l0 specs a) i).tmps) = Region.wanted o (yielded l0.toArray a.tmps) := wanted_of_tmps o hsame
 -- what is left to show of each value
 have next : ∀ W' v, R W W' → specs[i].ok W' v → MidwayS l0 specs R w0 a0 (listed.setIfInBounds i true) (a.put o.dst v) W' := by
  intro W' v hR hv
  refine ⟨by simpa using m.size, htr _ _ _ m.rel hR, ?_, ?_, ?_, ?_, ?_, ?_, ?_⟩
  ·rw [← m.defers]; cases o.dst <;> rfl
  ·rw [← m.tsize]; cases hd : o.dst <;> simp [Act.put]
  ·intro j oj hj hoj e he hb
   by_cases hij : i = j
   ·subst hij
    rw [ho] at hoj; cases hoj
    exact getD_set_true (hedge e he hb)
   ·rw [getD_set_ne false hij] at hj
    exact getD_set_true (m.closed j oj hj hoj e he hb)
  ·intro t ht
   have hne : o.dst ≠ some t := ht i o ho (by simp [hlt])
   rw [← m.other t fun j oj hoj hj => ht j oj hoj (by
    by_cases hij : i = j
    ·subst hij; simp [hlt]
    ·rw [getD_set_ne false hij]; exact hj)]
   cases hd : o.dst with
   | none => rfl
   | some d =>
    have : d ≠ t := fun e => hne (by rw [hd, e])
    simp [Act.put, Array.getElem?_setIfInBounds_ne this]
  ·intro j oj d s hj hoj hdj hsj
   by_cases hij : i = j
   ·subst hij
    rw [ho] at hoj; cases hoj
    rw [hs] at hsj; cases hsj
    have hsz : d < a.tmps.size := by rw [m.tsize]; exact ok.dst i _ d ho hdj
    simpa [Act.put, hdj, hsz] using hv
   ·rw [getD_set_ne false hij] at hj
    have hf := m.fact j oj d s hj hoj hdj hsj
    have hf := hst s (List.mem_of_getElem? hsj) _ _ _ hR hf
    have hnd : o.dst ≠ some d := ok.one i o j oj d hi ho hoj hdj hij
    cases hd : o.dst with
    | none => simpa [Act.put] using hf
    | some e =>
     have : e ≠ d := fun e' => hnd (by rw [hd, e'])
     simpa [Act.put, Array.getElem?_setIfInBounds_ne this] using hf
  ·intro j hj
   rw [getD_set_ne false (show i ≠ j by omega)]
   exact m.late j hj
  ·intro j oj s hj hoj hdj hsj
   by_cases hij : i = j
   ·subst hij
    rw [ho] at hoj; cases hoj
    rw [hs] at hsj; cases hsj
    exact hvo.at_ ho hs hdj _ _ hv
   ·rw [getD_set_ne false hij] at hj
    exact hst s (List.mem_of_getElem? hsj) _ _ _ hR (m.void j oj s hj hoj hdj hsj)
 unfold wpOp
 simp only [List.getElem?_toArray, ho]
 generalize hsp : specs[i] = s at hat next
 cases s with
 | val c =>
  simp only [freeSteps] at hat
  have hone := hat.1 W m.rel (factsHold_of hfacts)
  rw [hwa, hev] at hone
  split
  ·rename_i hw
   rw [if_pos hw] at hone
   refine .inl (upon_of_gives hone fun w' v hv => next _ _ hv.1 hv.2)
  ·rename_i hw
   rw [if_neg hw] at hone
   exact next W undef (hrf W) hone
 | pred Φ =>
  simp only [freeSteps] at hat
  have hone := hat.1 W m.rel (factsHold_of hfacts)
  rw [hwa, hev] at hone
  split
  ·rename_i hw
   rw [if_pos hw] at hone
   refine .inl (upon_of_gives hone fun w' v hv => next _ _ hv.1 hv.2)
  ·rename_i hw
   rw [if_neg hw] at hone
   exact next W undef (hrf W) hone
theorem MidwayS.doneS {specs : List FSpec} {a0 a : Act} {listed : Array Bool} {W : World} (m : MidwayS l0 specs R w0 a0 listed a W) (ok : OkSpecS l0 specs.length a0.tmps.size) (hall : ∀ j, j < specs.length → listed.getD j false = true) :
  a = frameAt a0 l0 (valuesOf l0 specs a) specs.length ∧ ∀ p ∈ factsAt specs (valuesOf l0 specs a) specs.length, p.2.1.ok W p.2.2 := by
 refine ⟨?_, fun p hp => ?_⟩
 ·obtain ⟨tm, df⟩ := a
  have hdf := frameAt_defers a0 l0 (valuesOf l0 specs ⟨tm, df⟩) specs.length
  have htm : tm = (frameAt a0 l0 (valuesOf l0 specs ⟨tm, df⟩) specs.length).tmps := by
   refine Array.ext_getElem? fun t => ?_
   by_cases hex : ∃ (j : Nat) (oj : Oper), l0[j]? = some oj ∧ oj.dst = some t ∧ specs.length ≤ j
   ·obtain ⟨j, oj, hj, hd, hge⟩ := hex
    by_cases hin : ∃ (i : Nat) (oi : Oper), l0[i]? = some oi ∧ oi.dst = some t ∧ i < specs.length
    ·obtain ⟨i, oi, hi, hdi, hlt⟩ := hin
     exact absurd hdi (ok.one i oi j oj t hlt hi hj hd (by omega))
    ·rw [frameAt_other a0 l0 _ _ t fun i o hi ho hd' => hin ⟨i, o, ho, hd', hi⟩]
     refine m.other t fun i o ho hl hd' => ?_
     rcases Nat.lt_or_ge i specs.length with h | h
     ·exact hin ⟨i, o, ho, hd', h⟩
     ·rw [m.late i h] at hl; cases hl
   ·refine (m.tmpS ok specs.length t (nR _) fun j oj hj hd => ?_).symm
    have hlt : j < specs.length := by
     rcases Nat.lt_or_ge j specs.length with h | h
     ·exact h
     ·exact absurd ⟨j, oj, hj, hd, h⟩ hex
    exact .inl ⟨hlt, hall j hlt⟩
  have h1 : (frameAt a0 l0 (valuesOf l0 specs ⟨tm, df⟩) specs.length).defers = df := by rw [hdf, ← m.defers]
  generalize frameAt a0 l0 (valuesOf l0 specs ⟨tm, df⟩) specs.length = f at htm h1
  obtain ⟨ft, fd⟩ := f
  simp only at htm h1
  rw [htm, h1]
 ·obtain ⟨h1, h2, h3⟩ := mem_factsAt hp
  have hil : p.1 < l0.length := by have := ok.len; omega
  have ho : l0[p.1]? = some l0[p.1] := List.getElem?_eq_getElem hil
  rw [h3]
  cases hd : l0[p.1].dst with
  | some d =>
   rw [← m.value (hall p.1 h1) ho hd]
   exact m.fact p.1 _ d _ (hall p.1 h1) ho hd h2
  | none =>
   have hv := m.void p.1 _ _ (hall p.1 h1) ho hd h2
   have he : valuesOf l0 specs a p.1 = undef ∨ ∃ c, p.2.1 = .val c := by
    cases hq : p.2.1 with
    | val c => exact .inr ⟨c, rfl⟩
    | pred Φ => exact .inl (by simp [valuesOf, h2, hq, ho, hd])
   rcases he with he | ⟨c, he⟩
   ·rw [he]; exact hv
   ·rw [he] at h2
    have hc : valuesOf l0 specs a p.1 = c := by simp [valuesOf, h2]
    rw [hc, he]; rfl
theorem free_anyS {specs : List FSpec} {a0 : Act} (ok : OkSpecS l0 specs.length a0.tmps.size) (hrf : ∀ a, R a a) (htr : ∀ a b c, R a b → R b c → R a c)
  (hst : ∀ s ∈ specs, ∀ W W' v, R W W' → s.ok W v → s.ok W' v) (hvo : VoidAll l0 specs) (h : freeSteps P l0 R w0 Q 0 specs l0 a0 []) :
  ∀ (fuel : Nat) (listed : Array Bool) (a : Act) (W : World), left l0 listed ≤ fuel → MidwayS l0 specs R w0 a0 listed a W → wpAny P .any l0.toArray Q fuel listed a W := by
 have fin : ∀ (listed : Array Bool) (a : Act) (W : World), MidwayS l0 specs R w0 a0 listed a W → (∀ j, j < specs.length → listed.getD j false = true) → wpList P l0.toArray Q (l0.drop specs.length) a W := by
  intro listed a W m hall
  obtain ⟨he, hf⟩ := m.doneS ok hall
  have hat := steps_at h (valuesOf l0 specs a) (valuesOf_fits l0 specs a) specs.length (nR _)
  rw [List.drop_length] at hat
  simp only [freeSteps] at hat
  have := hat W m.rel (factsHold_of fun p hp _ => hf p hp)
  rwa [← he] at this
 have hlst : ∀ (listed : Array Bool) (a : Act) (W : World), MidwayS l0 specs R w0 a0 listed a W → (∀ j, j < specs.length → listed.getD j false = true) → ∀ i, i < l0.length → (listed.getD i false = true ↔ i < specs.length) := by
  intro listed a W m hall i hi
  constructor
  ·intro hl
   rcases Nat.lt_or_ge i specs.length with h | h
   ·exact h
   ·rw [m.late i h] at hl; cases hl
  ·exact hall i
 intro fuel
 induction fuel with
 | zero =>
  intro listed a W hl m
  have hnone : ∀ i, i < l0.length → listed.getD i true = true := by
   intro i hi
   have h0 : ((List.range l0.length).filter fun i => !listed.getD i true) = [] := List.eq_nil_of_length_eq_zero (by unfold left at hl; omega)
   have := List.filter_eq_nil_iff.1 h0 i (List.mem_range.2 hi)
   simpa using this
  have hall : ∀ j, j < specs.length → listed.getD j false = true := by
   intro j hj
   have h1 := hnone j (by have := ok.len; omega)
   rcases listed_cases (listed := listed) (i := j) (by rw [m.size]; have := ok.len; omega) with h2 | h2
   ·exact h2
   ·rw [h2] at h1; cases h1
  have hn : specs.length = l0.length := by
   rcases Nat.lt_or_ge specs.length l0.length with h1 | h1
   ·have h2 := hnone specs.length h1
    have h3 := m.late specs.length (nR _)
    rcases listed_cases (listed := listed) (i := specs.length) (by rw [m.size]; exact h1) with h4 | h4
    ·rw [h4] at h3; cases h3
    ·rw [h4] at h2; cases h2
   ·have := ok.len; omega
  exact tail_forced ok.tail 0 specs.length listed a W 0 (nR _) hn (nR _) m.size m.closed (hlst _ _ _ m hall) ok.edge (fin _ _ _ m hall)
 | succ fuel ih =>
  intro listed a W hl m
  by_cases hall : ∀ j, j < specs.length → listed.getD j false = true
  ·refine tail_forced ok.tail (l0.length - specs.length) specs.length listed a W (fuel + 1) (nR _) (by have := ok.len; omega) ?_ m.size m.closed (hlst _ _ _ m hall) ok.edge (fin _ _ _ m hall)
   have := left_ge (l := l0) (listed := listed) (n := specs.length) fun i h1 h2 => by
    have := m.late i h1
    have hlt : i < listed.size := by rw [m.size]; exact h2
    simpa [hlt] using this
   omega
  ·refine ⟨fun h0 => ?_, fun i hi => ?_⟩
   ·refine absurd (fun j => ?_) hall
    induction j using Nat.strongRecOn with
    | _ j ihj =>
     intro hj
     have hjl : j < l0.length := by have := ok.len; omega
     have hoj : l0[j]? = some l0[j] := List.getElem?_eq_getElem hjl
     rcases listed_cases (listed := listed) (i := j) (by rw [m.size]; exact hjl) with h1 | h1
     ·exact h1
     ·have hm : j ∈ Region.ready .any l0.toArray listed := mem_ready.2 ⟨h1, l0[j], by simp [hjl], fun e he hb => by
       have := ok.edge j _ hoj e he hb
       exact ihj e.on this (by omega)⟩
      rw [h0] at hm
      cases hm
   ·obtain ⟨hun, o, ho', hedge⟩ := mem_ready.1 hi
    have hil : i < l0.length := by have := lt_of_unlisted hun; rw [m.size] at this; exact this
    have hn : i < specs.length := by
     rcases Nat.lt_or_ge i specs.length with h1 | h1
     ·exact h1
     ·exact absurd (fun j hj => listed_anc m.closed 16 o j hedge (ok.tail i o h1 (by simpa using ho') j (by omega))) hall
    exact wpOp_mono (fun a' W' m' => ih _ a' W' (by have := left_set hil hun; omega) m') (m.stepS ok hrf htr hst hvo h hn hi)
theorem region_freeS {id : Nat} {l : List Oper} {a : Act} {w : World} (R : World → World → Prop) (specs : List FSpec) (hm : P.follows .mixedOrders = true) (hok : okFreeS specs.length a.tmps.size l = true)
  (hrf : ∀ a, R a a) (htr : ∀ a b c, R a b → R b c → R a c) (hdr : ∀ a, R a a.drew) (hst : ∀ s ∈ specs, ∀ W W' v, R W W' → s.ok W v → s.ok W' v) (hvo : VoidAll l specs)
  (h : freeSteps P l R w Q 0 specs l a []) : (Code.region id l.toArray true).wp P Q a w := by
 refine wp_region_any hm ?_
 have hsz : l.toArray.size = l.length := by simp
 have hget : ∀ i : Nat, (Array.replicate l.toArray.size false).getD i false = false := by
  intro i
  rw [Array.getD_eq_getD_getElem?, Array.getElem?_replicate]
  split <;> rfl
 refine free_anyS (okFree_specS hok) hrf htr hst hvo h _ _ _ _ ?_ ⟨by simp, hdr w, rfl, rfl, ?_, ?_, ?_, ?_, ?_⟩
 ·unfold left
  refine nT (List.length_filter_le _ _) ?_
  simp
 ·intro i o hi
  rw [hget] at hi; cases hi
 ·intro t _; rfl
 ·intro j o d s hj
  rw [hget] at hj; cases hj
 ·intro j _
  exact hget j
 ·intro j o s hj
  rw [hget] at hj; cases hj
end
structure StR (g : Nat) (new : Array Value) (T : TypeId) (w w' : World) : Prop where
 os : w'.os = w.os
 tape : w'.tape = w.tape
 output : w'.output = w.output
 size : w.heap.size ≤ w'.heap.size
 block : ∀ k, k < w.heap.size → k ≠ g → w'.heap[k]? = w.heap[k]?
 row : w'.heap[g]? = w.heap[g]? ∨ w'.heap[g]? = some (.cells new T (0, 0)) ∨ w.heap.size ≤ g
theorem StR.of_ext {g : Nat} {new : Array Value} {T : TypeId} {w w' : World} (e : Ext w w') : StR g new T w w' :=
 ⟨e.os, e.tape, e.output, e.size, fun k h _ => e.block k h, by
  rcases Nat.lt_or_ge g w.heap.size with h | h
  ·exact .inl (e.block g h)
  ·exact .inr (.inr h)⟩
theorem StR.refl (g : Nat) (new : Array Value) (T : TypeId) (w : World) : StR g new T w w := .of_ext (xR w)
theorem StR.trans {g : Nat} {new : Array Value} {T : TypeId} {a b c : World} (h : StR g new T a b) (k : StR g new T b c) : StR g new T a c := by
 refine ⟨k.os.trans h.os, k.tape.trans h.tape, k.output.trans h.output, nT h.size k.size, fun i hi hn => (k.block i (Nat.lt_of_lt_of_le hi h.size) hn).trans (h.block i hi hn), ?_⟩
 rcases k.row with e | e | e
 ·rcases h.row with f | f | f
  ·exact .inl (e.trans f)
  ·exact .inr (.inl (e.trans f))
  ·exact .inr (.inr f)
 ·exact .inr (.inl e)
 ·exact .inr (.inr (nT h.size e))
theorem StR.blk {g k : Nat} {new : Array Value} {T : TypeId} {w w' : World} {o : Obj} (h : StR g new T w w') (hk : w.heap[k]? = some o) (hne : k ≠ g) : w'.heap[k]? = some o :=
 (h.block k (Array.getElem?_eq_some_iff.1 hk).1 hne).trans hk
theorem StR.has {g : Nat} {new old : Array Value} {T : TypeId} {w w' : World} (h : StR g new T w w') (ho : w.heap[g]? = some (.cells old T (0, 0))) : ∃ cs, w'.heap[g]? = some (.cells cs T (0, 0)) ∧ (cs = old ∨ cs = new) := by
 rcases h.row with e | e | e
 ·exact ⟨old, e.trans ho, .inl rfl⟩
 ·exact ⟨new, e, .inr rfl⟩
 ·have := (Array.getElem?_eq_some_iff.1 ho).1
  omega
theorem StR.set {g : Nat} {new old : Array Value} {T : TypeId} {w : World} (ho : w.heap[g]? = some (.cells old T (0, 0))) : StR g new T w (w.setRow g new) := by
 refine ⟨rfl, rfl, rfl, by simp, fun k _ hne => setRow_other _ _ _ _ hne, .inr (.inl (setRow_heap _ _ _ _ _ _ ho))⟩
theorem StR.ext {g : Nat} {new : Array Value} {T : TypeId} {b w w' : World} (hb : Ext b w) (h : StR g new T w w') (hg : b.heap.size ≤ g) : Ext b w' :=
 ⟨h.os.trans hb.os, h.tape.trans hb.tape, h.output.trans hb.output, nT hb.size h.size, fun k hk => (h.block k (Nat.lt_of_lt_of_le hk hb.size) (by omega)).trans (hb.block k hk)⟩
theorem region_row {id : Nat} {l : List Oper} {a : Act} {w : World} {Q : Exit → Act → World → Prop} (g : Nat) (new : Array Value) (T : TypeId) (specs : List FSpec) (hok : okFreeS specs.length a.tmps.size l = true) (hst : StableAll (StR g new T) specs) (hvo : VoidAll l specs)
  (h : freeSteps Tryz.prog l (StR g new T) w Q 0 specs l a []) : (Code.region id l.toArray true).wp Tryz.prog Q a w :=
 region_freeS (StR g new T) specs mixed hok (StR.refl g new T) (fun _ _ _ => StR.trans) (fun w => .of_ext ((xR w).dr)) (stableAll_mem hst) hvo h
def RowNew (g : Nat) (new : Array Value) (T : TypeId) (W : World) (_ : Value) : Prop := W.heap[g]? = some (.cells new T (0, 0))
theorem st_rowNew {g : Nat} {new : Array Value} {T : TypeId} {ss : List FSpec} (h : StableAll (StR g new T) ss) : StableAll (StR g new T) (.pred (RowNew g new T) :: ss) :=
 ⟨fun W W' _ e (k : W.heap[g]? = _) => by
  show W'.heap[g]? = _
  obtain ⟨cs, h1, h2⟩ := e.has k
  rcases h2 with rfl | rfl <;> exact h1, h⟩
inductive Tok : Nat → Prop
 | mk (n : Nat) : Tok n
theorem nxT (a : Nat) {b : Nat} (_h : Tok a) : Tok b := .mk _
theorem fr_store_row {P : Program} {S : World → Value → Prop} {o : Oper} {a : Act} {W : World} {X : Prop} {c : Prop} {ic : Decidable c} {ty : TypeId} {x y : Operand} {g : Nat} {t : TypeId} {old new : Array Value} (hw : c) (ho : o.op = .store ty x y)
  (hx : a.eval x = .pointer (some ⟨g, 0, none⟩)) (hy : a.eval y = .agg new) (hg : W.heap[g]? = some (.cells old t (0, 0))) (hi : (P.info? ty).map (·.size) = some new.size) (hs : old.size = new.size) (hc : new.all (·.oneCell') = true)
  (h : S (W.setRow g new) undef) : if c then givesV P S ((execOp a.eval o).run P W) else X := by
 rw [if_pos hw]
 unfold execOp
 simp only [ho, hx, hy, Instr.storeAt, Instr.sureAddr, Sem.run_bind, Sem.run_pure, Result.andThen_ok, run_storeVar_row W g t ty old new hg hi hs hc]
 exact h
theorem fr_store_str {P : Program} {S : World → Value → Prop} {o : Oper} {a : Act} {W wB : World} {X : Prop} {c : Prop} {ic : Decidable c} {ty : TypeId} {x y : Operand} {g : Nat} {t : TypeId} {old new : Array Value} (hw : c) (ho : o.op = .store ty x y)
  (hx : a.eval x = .pointer (some ⟨g, 0, none⟩)) (hy : a.eval y = .agg new) (hB : wB.heap[g]? = some (.cells old t (0, 0))) (hW : StR g new t wB W) (hi : (P.info? ty).map (·.size) = some new.size) (hs : old.size = new.size) (hc : new.all (·.oneCell') = true)
  (h : ∀ W', StR g new t W W' → RowNew g new t W' undef → S W' undef) : if c then givesV P S ((execOp a.eval o).run P W) else X := by
 obtain ⟨cs, hg, hcs⟩ := hW.has hB
 refine fr_store_row hw ho hx hy hg hi (by rcases hcs with rfl | rfl; exact hs; rfl) hc (h _ (StR.set hg) (setRow_heap _ _ _ _ _ _ hg))
def mayS (kd sp sq : Int) : Bool :=
 if kd = 1 then decide (0 ≤ sp) && (sq == 0) else if kd = 2 then sq == 0 else if kd = 3 then decide (0 ≤ sp) && decide (0 < sq) else if kd = 4 then true else if kd = 5 then (sp == 0) && (sq == 0) else false
def mayO (kd : Int) : Option Rat → Option Rat → Bool
 | some p, some q => mayS kd p.num.sign q.num.sign
 | _, _ => false
theorem mayO_none (kd : Int) {op oq : Option Rat} (h : [op, oq].all Option.isSome = false) : mayO kd op oq = false := by
 cases op <;> cases oq <;> first | rfl | (simp at h)
set_option maxHeartbeats 1600000 in
theorem benchMay_c (kd : Int) (b1 : Bool) (a1 : Option Addr) (n1 c1 : Nat) (b2 : Bool) (a2 : Option Addr) (n2 c2 : Nat) (b3 : Bool) (a3 : Option Addr) (n3 c3 : Nat) (b4 : Bool) (a4 : Option Addr) (n4 c4 : Nat) (op oq : Option Rat) (w : World) (h1 : AnyF w (.agg #[.bool b1, .slice a1 n1 c1, .bool b2, .slice a2 n2 c2]) op) (h2 : AnyF w (.agg #[.bool b3, .slice a3 n3 c3, .bool b4, .slice a4 n4 c4]) oq) :
  Calls Tryz.prog 128 #[.agg #[.int .u8 kd, .bool b1, .slice a1 n1 c1, .bool b2, .slice a2 n2 c2, .bool b3, .slice a3 n3 c3, .bool b4, .slice a4 n4 c4]] w fun e w' => e = .returned (.bool (mayO kd op oq)) ∧ Ext w w' := by
 obtain ⟨wb, hwb⟩ : ∃ wb, wb = w.alloc (.cells #[.int .u8 kd, .bool b1, .slice a1 n1 c1, .bool b2, .slice a2 n2 c2, .bool b3, .slice a3 n3 c3, .bool b4, .slice a4 n4 c4] 54) := ⟨_, rfl⟩
 have hE : Ext w wb := by rw [hwb]; exact (xR w).al _
 have z0 : wb.heap[w.heap.size]? = some (.cells #[.int .u8 kd, .bool b1, .slice a1 n1 c1, .bool b2, .slice a2 n2 c2, .bool b3, .slice a3 n3 c3, .bool b4, .slice a4 n4 c4] 54 (0, 0)) := by rw [hwb]; exact heap_alloc_new _ _
 have hsz : wb.heap.size = w.heap.size + 1 := by rw [hwb]; simp
 obtain ⟨w2, hw2⟩ : ∃ w2, w2 = wb.alloc (.cells #[.bool b1, .slice a1 n1 c1, .bool b2, .slice a2 n2 c2, .bool b3, .slice a3 n3 c3, .bool b4, .slice a4 n4 c4] 52) := ⟨_, rfl⟩
 have hE2 : Ext wb w2 := by rw [hw2]; exact (xR wb).al _
 have zS : w2.heap[w.heap.size + 1]? = some (.cells #[.bool b1, .slice a1 n1 c1, .bool b2, .slice a2 n2 c2, .bool b3, .slice a3 n3 c3, .bool b4, .slice a4 n4 c4] 52 (0, 0)) := by rw [hw2, ← hsz]; exact heap_alloc_new _ _
 have H1 := mK (fun W (e : Ext w W) => h1.ext e)
 have H2 := mK (fun W (e : Ext w W) => h2.ext e)
 have HC := checks_f (w.heap.size + 1) 2 [op, oq] w2 (by simp) (lf_two zS (h1.ext (hE.trans hE2)) (h2.ext (hE.trans hE2)))
 have z02 := mK (hE2.blk z0)
 replace z0 := mK z0
 replace hE := mK (hE.trans hE2)
 replace hwb := mK hwb
 replace hw2 := mK hw2
 replace hsz := mK hsz
 clear hE2 zS
 cases hb : [op, oq].all Option.isSome with
 | false =>
  rw [hb] at HC
  rw [mayO_none kd hb]
  replace HC := mK HC
  clear hb h1 h2 H1 H2
  go_enter Tryz.func128, Tryz.ntmps128
  have tok : Tok 0 := .mk _
  go_wp2_with (first
   | (replace tok : Tok 1 := nxT 0 tok; rw [← hwb.out]; refine wpList_load_sub (by rfl) 52 (.tmp 5) rfl (w.heap.size) 1 rfl 54 #[.int .u8 kd, .bool b1, .slice a1 n1 c1, .bool b2, .slice a2 n2 c2, .bool b3, .slice a3 n3 c3, .bool b4, .slice a4 n4 c4] #[.bool b1, .slice a1 n1 c1, .bool b2, .slice a2 n2 c2] (0, 0) _ z0.out rfl Tryz.underlying52 rfl (by kernel_rfl) ?_)
   | (replace tok : Tok 2 := nxT 1 tok; refine wpList_load_sub (by rfl) 52 (.tmp 7) rfl (w.heap.size) 5 rfl 54 #[.int .u8 kd, .bool b1, .slice a1 n1 c1, .bool b2, .slice a2 n2 c2, .bool b3, .slice a3 n3 c3, .bool b4, .slice a4 n4 c4] #[.bool b3, .slice a3 n3 c3, .bool b4, .slice a4 n4 c4] (0, 0) _ z0.out rfl Tryz.underlying52 rfl (by kernel_rfl) ?_)
   | (replace tok : Tok 3 := nxT 2 tok; go_at_call 183; rw [← hw2.out, hsz.out]; refine HC.out.mono ?_; rintro e w3 ⟨rfl, hx⟩; replace hE := mK (hE.out.trans hx); replace z0 := mK (hx.blk z02.out); clear hx z02))
  go_ret
  exact ⟨rfl, hE.out⟩
 | true =>
  obtain ⟨p, rfl⟩ : ∃ p, op = some p := by cases op with
   | none => simp at hb
   | some p => exact ⟨p, rfl⟩
  obtain ⟨q, rfl⟩ : ∃ q, oq = some q := by cases oq with
   | none => simp at hb
   | some q => exact ⟨q, rfl⟩
  rw [hb] at HC
  replace HC := mK HC
  obtain ⟨f1, k1⟩ := h1.frac
  obtain ⟨f2, k2⟩ := h2.frac
  have S1 := mK (fun W (e : Ext w W) => sign_f _ p W (nT k1 (by decide)) (f1.ext e))
  have S2 := mK (fun W (e : Ext w W) => sign_f _ q W (nT k2 (by decide)) (f2.ext e))
  rw [show mayO kd (some p) (some q) = mayS kd p.num.sign q.num.sign from rfl]
  generalize p.num.sign = sp at *
  generalize q.num.sign = sq at *
  clear hb h1 h2 H1 H2 f1 f2 k1 k2
  go_enter Tryz.func128, Tryz.ntmps128
  have tok : Tok 4 := .mk _
  go_wp2_with (first
   | (replace tok : Tok 5 := nxT 4 tok; rw [← hwb.out]; refine wpList_load_sub (by rfl) 52 (.tmp 5) rfl (w.heap.size) 1 rfl 54 #[.int .u8 kd, .bool b1, .slice a1 n1 c1, .bool b2, .slice a2 n2 c2, .bool b3, .slice a3 n3 c3, .bool b4, .slice a4 n4 c4] #[.bool b1, .slice a1 n1 c1, .bool b2, .slice a2 n2 c2] (0, 0) _ z0.out rfl Tryz.underlying52 rfl (by kernel_rfl) ?_)
   | (replace tok : Tok 6 := nxT 5 tok; refine wpList_load_sub (by rfl) 52 (.tmp 7) rfl (w.heap.size) 5 rfl 54 #[.int .u8 kd, .bool b1, .slice a1 n1 c1, .bool b2, .slice a2 n2 c2, .bool b3, .slice a3 n3 c3, .bool b4, .slice a4 n4 c4] #[.bool b3, .slice a3 n3 c3, .bool b4, .slice a4 n4 c4] (0, 0) _ z0.out rfl Tryz.underlying52 rfl (by kernel_rfl) ?_)
   | (replace tok : Tok 7 := nxT 6 tok; go_at_call 183; rw [← hw2.out, hsz.out]; refine HC.out.mono ?_; rintro e w3 ⟨rfl, hx⟩; replace hE := mK (hE.out.trans hx); replace z0 := mK (hx.blk z02.out); clear hx z02))
  apply region_ext [.val (.pointer (some ⟨w.heap.size, 1, none⟩)), .val (.agg #[.bool b1, .slice a1 n1 c1, .bool b2, .slice a2 n2 c2]), .val (.int .i64 sp), .val (.pointer (some ⟨w.heap.size, 5, none⟩)), .val (.agg #[.bool b3, .slice a3 n3 c3, .bool b4, .slice a4 n4 c4]), .val (.int .i64 sq)] (by kernel_rfl) (stable_vals _ (stable_vals _ (stable_vals _ (stable_vals _ (stable_vals _ (stable_vals _ trivial))))))
  refine ⟨fun W hW _ => by go_simp; first | exact ⟨xR _, rfl⟩ | exact xR _, ?_⟩
  refine ⟨?l1, ?_⟩
  case l1 =>
   intro W hW hF
   have hr := hW.blk z0.out
   with_reducible refine fr_load_sub ?zhw 52 (.tmp 12) ?zho w.heap.size 1 ?zhx 54 _ #[.bool b1, .slice a1 n1 c1, .bool b2, .slice a2 n2 c2] (0, 0) _ hr ?zhs Tryz.underlying52 ?zhd ?zhi ?zh
   case zhw => kernel_rfl
   case zho => rfl
   case zhx => kernel_rfl
   case zhs => rfl
   case zhd => rfl
   case zhi => kernel_rfl
   case zh => exact ⟨xR _, rfl⟩
  refine ⟨fun W hW _ => ?s1, ?_⟩
  case s1 =>
   go_simp
   refine (S1.out W (hE.out.trans hW)).mono ?_
   rintro e w' ⟨rfl, hx⟩
   exact ⟨rfl, hx⟩
  refine ⟨fun W hW _ => by go_simp; first | exact ⟨xR _, rfl⟩ | exact xR _, ?_⟩
  refine ⟨?l2, ?_⟩
  case l2 =>
   intro W hW hF
   have hr := hW.blk z0.out
   with_reducible refine fr_load_sub ?zhw 52 (.tmp 15) ?zho w.heap.size 5 ?zhx 54 _ #[.bool b3, .slice a3 n3 c3, .bool b4, .slice a4 n4 c4] (0, 0) _ hr ?zhs Tryz.underlying52 ?zhd ?zhi ?zh
   case zhw => kernel_rfl
   case zho => rfl
   case zhx => kernel_rfl
   case zhs => rfl
   case zhd => rfl
   case zhi => kernel_rfl
   case zh => exact ⟨xR _, rfl⟩
  refine ⟨fun W hW _ => ?s2, fun W hW _ => ?fin⟩
  case s2 =>
   go_simp
   refine (S2.out W (hE.out.trans hW)).mono ?_
   rintro e w' ⟨rfl, hx⟩
   exact ⟨rfl, hx⟩
  case fin =>
   replace z0 := hW.blk z0.out
   replace hE := mK (hE.out.trans hW)
   have y0 := row16_cells z0 0
   replace y0 : W.cell? ⟨w.heap.size, 0, none⟩ = some (.int .u8 kd) := y0
   clear hW z0 S1 S2 HC
   go_simp
   by_cases k1 : kd = 1
   ·subst k1
    by_cases hs : 0 ≤ sp
    ·have e1 : decide (0 ≤ sp) = true := by simp [hs]
     go_wp2_with fail
     go_ret
     exact ⟨by simp [mayS, hs], hE.out⟩
    ·have e1 : decide (0 ≤ sp) = false := by simp [hs]
     go_wp2_with fail
     go_ret
     exact ⟨by simp [mayS]; intro h; omega, hE.out⟩
   by_cases k2 : kd = 2
   ·subst k2
    go_wp2_with fail
    go_ret
    exact ⟨by simp [mayS], hE.out⟩
   by_cases k3 : kd = 3
   ·subst k3
    by_cases hs : 0 ≤ sp
    ·have e1 : decide (0 ≤ sp) = true := by simp [hs]
     go_wp2_with fail
     go_ret
     exact ⟨by simp [mayS, hs], hE.out⟩
    ·have e1 : decide (0 ≤ sp) = false := by simp [hs]
     go_wp2_with fail
     go_ret
     exact ⟨by simp [mayS]; intro h; omega, hE.out⟩
   by_cases k4 : kd = 4
   ·subst k4
    go_wp2_with fail
    go_ret
    exact ⟨by simp [mayS], hE.out⟩
   by_cases k5 : kd = 5
   ·subst k5
    by_cases hs : sp = 0
    ·subst hs
     go_wp2_with fail
     go_ret
     exact ⟨by simp [mayS], hE.out⟩
    ·have e1 : (sp == 0) = false := by simpa using hs
     go_wp2_with fail
     go_ret
     exact ⟨by simp [mayS, hs], hE.out⟩
   have d1 : (kd == 1) = false := by simpa using k1
   have d2 : (kd == 2) = false := by simpa using k2
   have d3 : (kd == 3) = false := by simpa using k3
   have d4 : (kd == 4) = false := by simpa using k4
   have d5 : (kd == 5) = false := by simpa using k5
   go_wp2_with fail
   go_ret
   exact ⟨by simp [mayS, k1, k2, k3, k4, k5], hE.out⟩
set_option maxHeartbeats 1600000 in
theorem benchCheck_1 (kd : Int) (b1 : Bool) (a1 : Option Addr) (n1 c1 : Nat) (b2 : Bool) (a2 : Option Addr) (n2 c2 : Nat) (b3 : Bool) (a3 : Option Addr) (n3 c3 : Nat) (b4 : Bool) (a4 : Option Addr) (n4 c4 : Nat) (op oq : Option Rat) (g : Nat) (w : World) (h1 : AnyF w (.agg #[.bool b1, .slice a1 n1 c1, .bool b2, .slice a2 n2 c2]) op) (h2 : AnyF w (.agg #[.bool b3, .slice a3 n3 c3, .bool b4, .slice a4 n4 c4]) oq) (hg : w.heap[g]? = some (.cells #[.int .u8 kd, .bool b1, .slice a1 n1 c1, .bool b2, .slice a2 n2 c2, .bool b3, .slice a3 n3 c3, .bool b4, .slice a4 n4 c4] 54 (0, 0))) :
  Calls Tryz.prog 78 #[.slice (some ⟨g, 0, none⟩) 1 1] w fun e w' => e = .returned (.int .i64 (if mayO kd op oq then 0 else 1)) ∧ Ext w w' := by
 have M := mK (fun W (e : Ext w W) => benchMay_c kd b1 a1 n1 c1 b2 a2 n2 c2 b3 a3 n3 c3 b4 a4 n4 c4 op oq W (h1.ext e) (h2.ext e))
 have z0 := mK hg
 clear h1 h2 hg
 obtain ⟨w2, hw2⟩ : ∃ w2, w2 = w.alloc (.cells #[.int .u8 kd, .bool b1, .slice a1 n1 c1, .bool b2, .slice a2 n2 c2, .bool b3, .slice a3 n3 c3, .bool b4, .slice a4 n4 c4] 54) := ⟨_, rfl⟩
 have hE : Ext w w2 := by rw [hw2]; exact (xR w).al _
 have zV : w2.heap[w.heap.size]? = some (.cells #[.int .u8 kd, .bool b1, .slice a1 n1 c1, .bool b2, .slice a2 n2 c2, .bool b3, .slice a3 n3 c3, .bool b4, .slice a4 n4 c4] 54 (0, 0)) := by rw [hw2]; exact heap_alloc_new _ _
 replace zV := mK zV
 replace hE := mK hE
 replace hw2 := mK hw2
 cases hm : mayO kd op oq <;> rw [hm] at M
 all_goals
  clear hm
  go_enter Tryz.func78, Tryz.ntmps78
  go_wp2_with fail
  refine wp_loop_rounds 2 ?_
  rw [rounds_succ]
  have tok : Tok 8 := .mk _
  go_wp2_with (first
   | (replace tok : Tok 9 := nxT 8 tok; refine wpList_load_row (by rfl) 54 (.tmp 12) rfl (g) rfl 54 #[.int .u8 kd, .bool b1, .slice a1 n1 c1, .bool b2, .slice a2 n2 c2, .bool b3, .slice a3 n3 c3, .bool b4, .slice a4 n4 c4] (0, 0) _ z0.out Tryz.underlying54 rfl (by kernel_rfl) ?_)
   | (replace tok : Tok 10 := nxT 9 tok; rw [← hw2.out]; refine wpList_load_row (by rfl) 54 (.tmp 4) rfl (w.heap.size) rfl 54 #[.int .u8 kd, .bool b1, .slice a1 n1 c1, .bool b2, .slice a2 n2 c2, .bool b3, .slice a3 n3 c3, .bool b4, .slice a4 n4 c4] (0, 0) _ zV.out Tryz.underlying54 rfl (by kernel_rfl) ?_)
   | (replace tok : Tok 11 := nxT 10 tok; go_at_call 128; refine (M.out _ hE.out).mono ?_; rintro e w3 ⟨rfl, hx⟩; replace hE := mK (hE.out.trans hx); clear hx))
 ·go_ret
  exact ⟨rfl, hE.out⟩
 ·rw [rounds_succ]
  go_wp2_with fail
  go_ret
  exact ⟨rfl, hE.out⟩
def mayP (kd co : Int) (op oq : Option Rat) : Bool := decide (0 ≤ co) && (decide (co ≤ 1073741824) && mayO kd op oq)
set_option maxHeartbeats 1600000 in
theorem may_c (nm : ByteArray) (kd co : Int) (b1 : Bool) (a1 : Option Addr) (n1 c1 : Nat) (b2 : Bool) (a2 : Option Addr) (n2 c2 : Nat) (b3 : Bool) (a3 : Option Addr) (n3 c3 : Nat) (b4 : Bool) (a4 : Option Addr) (n4 c4 : Nat) (op oq : Option Rat) (w : World) (h1 : AnyF w (.agg #[.bool b1, .slice a1 n1 c1, .bool b2, .slice a2 n2 c2]) op) (h2 : AnyF w (.agg #[.bool b3, .slice a3 n3 c3, .bool b4, .slice a4 n4 c4]) oq) :
  Calls Tryz.prog 40 #[.agg #[.string nm, .int .u8 kd, .bool b1, .slice a1 n1 c1, .bool b2, .slice a2 n2 c2, .bool b3, .slice a3 n3 c3, .bool b4, .slice a4 n4 c4, .int .i64 co]] w fun e w' => e = .returned (.bool (mayP kd co op oq)) ∧ Ext w w' := by
 obtain ⟨wb, hwb⟩ : ∃ wb, wb = w.alloc (.cells #[.string nm, .int .u8 kd, .bool b1, .slice a1 n1 c1, .bool b2, .slice a2 n2 c2, .bool b3, .slice a3 n3 c3, .bool b4, .slice a4 n4 c4, .int .i64 co] 56) := ⟨_, rfl⟩
 have hE : Ext w wb := by rw [hwb]; exact (xR w).al _
 have z0 : wb.heap[w.heap.size]? = some (.cells #[.string nm, .int .u8 kd, .bool b1, .slice a1 n1 c1, .bool b2, .slice a2 n2 c2, .bool b3, .slice a3 n3 c3, .bool b4, .slice a4 n4 c4, .int .i64 co] 56 (0, 0)) := by rw [hwb]; exact heap_alloc_new _ _
 have hsz : wb.heap.size = w.heap.size + 1 := by rw [hwb]; simp
 obtain ⟨w2, hw2⟩ : ∃ w2, w2 = wb.alloc (.cells #[.int .u8 kd, .bool b1, .slice a1 n1 c1, .bool b2, .slice a2 n2 c2, .bool b3, .slice a3 n3 c3, .bool b4, .slice a4 n4 c4] 54) := ⟨_, rfl⟩
 have hE2 : Ext wb w2 := by rw [hw2]; exact (xR wb).al _
 have zS : w2.heap[w.heap.size + 1]? = some (.cells #[.int .u8 kd, .bool b1, .slice a1 n1 c1, .bool b2, .slice a2 n2 c2, .bool b3, .slice a3 n3 c3, .bool b4, .slice a4 n4 c4] 54 (0, 0)) := by rw [hw2, ← hsz]; exact heap_alloc_new _ _
 have M := benchCheck_1 kd b1 a1 n1 c1 b2 a2 n2 c2 b3 a3 n3 c3 b4 a4 n4 c4 op oq (w.heap.size + 1) w2 (h1.ext (hE.trans hE2)) (h2.ext (hE.trans hE2)) zS
 have y10 := row16_cells z0 10
 replace y10 : wb.cell? ⟨w.heap.size, 10, none⟩ = some (.int .i64 co) := y10
 have hE' := mK (hE.trans hE2)
 replace z0 := mK z0
 replace M := mK M
 replace hwb := mK hwb
 replace hw2 := mK hw2
 replace hsz := mK hsz
 replace hE := mK hE
 clear h1 h2 hE2 zS
 by_cases cc1 : 0 ≤ co
 ·by_cases cc2 : co ≤ 1073741824
  ·have ev : mayP kd co op oq = mayO kd op oq := by simp [mayP, cc1, cc2]
   rw [ev]
   clear ev
   cases hm : mayO kd op oq <;> rw [hm] at M
   all_goals
    clear hm
    go_enter Tryz.func40, Tryz.ntmps40
    have tok : Tok 12 := .mk _
    go_wp2_with (replace tok : Tok 13 := nxT 12 tok; go_at_call 78; rw [← hwb.out, ← hw2.out]; refine M.out.mono ?_; rintro e w3 ⟨rfl, hx⟩; replace hE' := mK (hE'.out.trans hx); clear hx)
    go_ret
    exact ⟨rfl, hE'.out⟩
  ·have ev : mayP kd co op oq = false := by simp [mayP, cc2]
   rw [ev]
   clear ev M
   go_enter Tryz.func40, Tryz.ntmps40
   clear y10
   go_wp2_with fail
   go_ret
   exact ⟨rfl, (xR _).al _⟩
 ·have ev : mayP kd co op oq = false := by simp [mayP, cc1]
  rw [ev]
  clear ev M
  go_enter Tryz.func40, Tryz.ntmps40
  clear y10
  go_wp2_with fail
  go_ret
  exact ⟨rfl, (xR _).al _⟩
theorem cmp_lt {X R : Nat} : (((X : Int) - R).sign < 0) ↔ X < R := by
 rcases Nat.lt_trichotomy X R with h | h | h
 ·rw [sgn_lt h]; omega
 ·rw [sgn_eq h]; omega
 ·rw [sgn_gt h]; omega
theorem own_some {w : World} {base E n : Nat} {v : Value} {xs : List Value} (h : w.ownsRow base E 1 v n xs) (hn : n ≠ 0) : ∃ g c, v = .slice (some ⟨g, 0, none⟩) n c ∧ base ≤ g ∧ n ≤ c ∧ ∀ j, j < xs.length → w.cell? ⟨g, 0 + j, none⟩ = some (xs.getD j undef) := by
 obtain ⟨h1, h2⟩ := h
 rcases h2 with ⟨rfl, h3⟩ | ⟨g, cap, cur, rfl, a2, a3, a4, a5, a6, a7⟩
 ·exact absurd h3 hn
 ·refine ⟨g, cap, rfl, a2, a4, fun j hj => ?_⟩
  have hj2 : j < cur.size := by omega
  have e : xs.getD j undef = cur[j] := by
   subst a7
   simp [List.getD_eq_getElem?_getD, show j < n by omega, hj2]
  rw [e]
  simp [World.cell?, a3, hj2]
theorem restR_of_row {w : World} {g o c N : Nat} (h : Row w (some ⟨g, o, none⟩) (limV (lim N))) (hc : (lim N).length ≤ c) : RestR w (.slice (some ⟨g, o, none⟩) (lim N).length c) N := by
 obtain ⟨b, off, h1, h2⟩ := h
 by_cases h0 : limV (lim N) = []
 ·refine .inr ⟨g, o, c, rfl, hc, fun j hj => ?_⟩
  rw [h0] at hj
  simp at hj
 ·have := h1 h0
  simp only [Option.some.injEq, Addr.mk.injEq] at this
  obtain ⟨rfl, rfl, -⟩ := this
  exact .inr ⟨_, _, c, rfl, hc, h2⟩
theorem cell_set_other {w : World} {p q : Addr} {v : Value} (h : p.block ≠ q.block) : (w.setCell p v).cell? q = w.cell? q := by
 unfold World.setCell World.cell?
 simp only [Array.getElem?_modify, if_neg h]
theorem Row.set_other {w : World} {g o : Nat} {xs : List Value} (h : Row w (some ⟨g, o, none⟩) xs) {p : Addr} (v : Value) (hp : p.block ≠ g) : Row (w.setCell p v) (some ⟨g, o, none⟩) xs := by
 obtain ⟨b, off, h1, h2⟩ := h
 by_cases h0 : xs = []
 ·subst h0
  exact ⟨b, off, fun h => absurd rfl h, fun j hj => by simp at hj⟩
 ·have := h1 h0
  simp only [Option.some.injEq, Addr.mk.injEq] at this
  obtain ⟨rfl, rfl, -⟩ := this
  exact ⟨_, _, fun _ => rfl, fun j hj => by rw [cell_set_other hp]; exact h2 j hj⟩
theorem limV_cons (x : Nat) (l : List Nat) : limV (x :: l) = [.int .u32 (x : Int)] ++ limV l := rfl
set_option maxHeartbeats 3200000 in
theorem rdivide_many_k (a a' : Option Addr) (c c' : Nat) (A D : Nat) (w : World) (hl : (lim A).length ≤ 536870912) (hm : (lim D).length ≤ 536870912) (hD : 4294967296 ≤ D)
  (h : Row w a (limV (lim A))) (h' : Row w a' (limV (lim D))) :
  Calls Tryz.prog 217 #[.slice a (lim A).length c, .slice a' (lim D).length c'] w fun e w' => ∃ v1 v2, e = .returned (.tuple #[v1, v2]) ∧ RestR w' v1 (A / D) ∧ RestR w' v2 (A % D) ∧ Ext w w' ∧ NewV w.heap.size v1 := by
 have h1 : ((((lim D).length : Nat) : Int) == 1) = false := by
  rw [beq_eq_false_iff_ne]
  intro e
  have := lt_pow_lim D
  rw [show (lim D).length = 1 by omega] at this
  omega
 have h' := mK h'
 obtain ⟨b, off, ha, hc⟩ := h
 replace ha := mK ha
 replace hc := mK hc
 have okl := lim_ok A
 have hvl := mK (val_lim A)
 obtain ⟨l, hle⟩ : ∃ l, l = lim A := ⟨_, rfl⟩
 rw [← hle] at hl ha hc okl hvl ⊢
 clear hle
 have hmk := fun w => make32 l.length w (by omega)
 have hst := mK (divJ_start l (show 0 < D by omega))
 obtain ⟨nd, hnd⟩ : ∃ n, n = (lim D).length := ⟨_, rfl⟩
 replace hnd := mK hnd
 have hD := mK hD
 rw [← hnd.out] at hm h1 ⊢
 obtain ⟨i0, hi, hz0, hz1, hz2⟩ := info_parts u32_info
 go_enter Tryz.func217, Tryz.ntmps217
 go_wp2_with fail
 go_loopw [9, 10, 11, 12] (fun s i _ _ wr => ∃ k r q, k ≤ l.length ∧ i = .int .i64 ((k : Int) - 1) ∧ RestR wr s r ∧ Blk wr w.heap.size q ∧ DivJ l D q k r ∧ Ext w wr) (fun _ i _ _ _ => (intOf i + 1).toNat)
 case atStart => exact ⟨l.length, 0, _, nR _, rfl, .inl ⟨rfl, rfl⟩, blk_new _ _, hst.out, (xR w).al _⟩
 case round =>
  obtain ⟨k, r, q, hk, rfl, hrest, hB, hj, he⟩ := hrel
  obtain ⟨wo, rfl⟩ : ∃ wo : World, wo = wr := ⟨_, rfl⟩
  cases k with
  | zero =>
   obtain ⟨e1, e2⟩ := divJ_end hj
   rw [hvl.out] at e1 e2
   have hown := hB.own (by have := hj.1; omega)
   have hRR := RestR.of (hown.lim hj.2.1)
   obtain ⟨aa, cc, he0, hle, hrow⟩ := hown.r
   simp only [Value.slice.injEq] at he0
   obtain ⟨rfl, -, rfl⟩ := he0
   have hcall := fun w' (e : Row w' (some ⟨w.heap.size, 0, none⟩) (limV q)) => rtrim_c (some ⟨w.heap.size, 0, none⟩) q q.length w' hj.2.1 (by have := hj.1; omega) hle e
   rw [e1] at hRR hcall
   rw [hj.1] at hcall hRR
   rw [e2] at hrest
   replace hcall := mK hcall
   replace hRR := mK hRR
   replace hrow := mK hrow
   replace hj := mK hj
   replace he := mK he
   replace hrest := mK hrest
   replace e1 := mK e1
   replace e2 := mK e2
   clear hown hB
   go_wp2_with fail
   refine (hcall.out _ hrow.out).mono ?_
   rintro e w' ⟨rfl, rfl⟩
   go_wp2_with fail
   go_ret2
   exact ⟨_, _, rfl, hRR.out, hrest.out, he.out, fun g hg => by cases hg; exact nR _⟩
  | succ k =>
   rw [show (((k + 1 : Nat)) : Int) - 1 = (k : Int) by omega]
   have hcl := he.cell (row_at hc.out (show k < l.length by omega))
   have hA := ha.out (limV_ne (show k < l.length by omega))
   rw [hA]
   have hx := okL_get okl k
   have hq1 := hj.1
   have hnext := divJ_step hj (by omega) okl
   have hsame := fun n hn => divJ_same (n := n) hj (by omega) hn
   have hrD := hj.2.2.1
   obtain ⟨x, hxe⟩ : ∃ x, x = l.getD k 0 := ⟨_, rfl⟩
   rw [← hxe] at hcl hx hnext
   have happ := hrest.app
   have hrl : (lim r).length ≤ 536870912 := by have := lim_mono (Nat.le_of_lt hrD); have := hnd.out; omega
   replace hA := mK hA
   replace hnext := mK hnext
   replace hsame := mK hsame
   replace hj := mK hj
   replace hrD := mK hrD
   replace he := mK he
   replace hB := mK hB
   replace hxe := mK hxe
   replace happ := mK happ
   replace hrest := mK hrest
   go_wp2_with (at_builtin; refine wpList_append_own _ rfl (.tmp 38) (.tmp 43) 48 rfl wo.heap.size 140 i0 (.int .u32 0) 1 4 u32_under hi hz0 hz1 hz2 rfl (by decide) _ 0 [] rfl (World.ownsRow_nil _ _ _ _) ⟨wo.heap.size, 0, none⟩ 1 1 [.int .u32 (x : Int)] rfl rfl cells_new one_u32 ?c3 ?c4 ?c5 ?_)
   case c3 => decide
   case c4 => decide
   case c5 => simp
   intro v1 w1 hown hgrow _
   have he1 : Ext wo w1 := ((xR _).al _).gr hgrow (fun k hk => by simp [Value.ownBlock] at hk)
   replace happ := mK (happ.out.ext he1)
   replace hown : w1.ownsRow wo.heap.size 140 1 v1 1 [.int .u32 (x : Int)] := hown
   replace hown := mK hown
   replace he1 := mK he1
   clear hgrow
   have hrl2 : (limV (lim r)).length = (lim r).length := limV_length _
   go_wp2_with (at_builtin; refine wpList_append_both rfl (.tmp 45) (.tmp 46) 48 rfl wo.heap.size 140 i0 (.int .u32 0) 4 u32_under hi hz0 hz1 hz2 rfl _ 1 [.int .u32 (x : Int)] rfl hown.out (limV (lim r)) happ.out (limV_one _) ?d3 ?d4 ?d5 ?_)
   case d3 => unfold maxLen; omega
   case d4 => omega
   case d5 => exact he1.out.size
   intro v2 w2 hown2 hgrow2
   have he2 : Ext wo w2 := he1.out.gr hgrow2 (fun k hk => (World.ownsRow.lt hown.out k hk).1)
   replace hrl2 := mK hrl2
   obtain ⟨g, c2, rfl, hg, hgc, hcells⟩ := own_some hown2 (by omega)
   obtain ⟨nx, hnx⟩ : ∃ nx, nx = 1 + (lim r).length := ⟨_, rfl⟩
   rw [← hnx] at hgc ⊢
   have hrow2 : Row w2 (some ⟨g, 0, none⟩) (limV (x :: lim r)) := ⟨g, 0, fun _ => rfl, by rw [limV_cons]; exact hcells⟩
   have okx : OkL (x :: lim r) := okL_cons.2 ⟨hx, lim_ok r⟩
   have hvx : val (x :: lim r) = x + 4294967296 * r := by simp only [val, val_lim]
   have hlx : (x :: lim r).length = nx := by rw [hnx, List.length_cons]; omega
   have htr := rtrim_c (some ⟨g, 0, none⟩) (x :: lim r) c2 w2 okx (by rw [hlx]; omega) (by rw [hlx]; omega) hrow2
   have hrow3 := hrow2.lim okx
   rw [hvx] at htr hrow3
   rw [hlx] at htr
   have hln := lim_length_val okx
   rw [hvx, hlx] at hln
   have hB2 := hB.out.ext he2
   obtain ⟨N, hN⟩ : ∃ N, N = x + 4294967296 * r := ⟨_, rfl⟩
   rw [← hN] at htr hrow3 hln hnext
   have hND : N < D * 4294967296 := by
    have := Nat.mul_le_mul_right 4294967296 (show r + 1 ≤ D from hrD.out)
    omega
   replace hN := mK hN
   have hnx1 : nx ≤ 536870913 := by omega
   replace hnx := mK hnx
   replace htr := mK htr
   have hcmp := mK (fun W (e : Ext w2 W) => rcmp_c (some ⟨g, 0, none⟩) a' c2 c' N D W (by omega) (by have := hnd.out; omega) (hrow3.ext e) (h'.out.ext (he.out.trans (he2.trans e))))
   have hfit := mK (fun W (e : Ext w2 W) => rfitting_c (some ⟨g, 0, none⟩) a' c2 c' N D W (by omega) (by have := hnd.out; omega) (by have := hD.out; omega) hND (hrow3.ext e) (h'.out.ext (he.out.trans (he2.trans e))))
   rw [← hnd.out] at hcmp hfit
   replace hrow3 := mK hrow3
   replace hB2 := mK hB2
   replace he2 := mK he2
   replace hND := mK hND
   clear hown hown2 hgrow2 hrow2 hcells okx hvx hlx he1 happ
   go_wp2_with fail
   refine htr.out.mono ?_
   rintro e w' ⟨rfl, rfl⟩
   go_wp2_with fail
   refine (hcmp.out w2 (xR _)).mono ?_
   rintro e w3 ⟨rfl, he3⟩
   have hcl2 := cmp_lt (X := N) (R := D)
   have hcb := cmp_bounds (X := N) (R := D)
   generalize ((N : Int) - (D : Int)).sign = S at *
   replace hcl2 := mK hcl2
   have he23 := mK (he2.out.trans he3)
   have hB3 := mK (hB2.out.ext he3)
   by_cases hS : S < 0
   ·have hlt := hcl2.out.1 hS
    have e0 : N / D = 0 := Nat.div_eq_of_lt hlt
    have e1 : N % D = N := Nat.mod_eq_of_lt hlt
    rw [e0, e1] at hnext
    have hs := hsame.out 0 rfl
    have hn2 := hnext.out
    rw [hs] at hn2
    replace hn2 := mK hn2
    have hRN : RestR w3 (.slice (some ⟨g, 0, none⟩) (lim N).length c2) N := restR_of_row (hrow3.out.ext he3) (by omega)
    replace hRN := mK hRN
    replace he3 := mK he3
    replace hlt := mK hlt
    clear e0 e1 hs
    go_wp2_with fail
    go_roundw
    case rel => exact ⟨k, _, _, by omega, rfl, hRN.out, hB3.out, hn2.out, he.out.trans he23.out⟩
    case measure => simp [intOf] <;> omega
   ·have hge : D ≤ N := by have := hcl2.out; omega
    have hQ32 : N / D < 4294967296 := Nat.div_lt_of_lt_mul hND.out
    have hsub := Nat.div_mul_le_self N D
    have hfr := hB3.out.frozen k
    have hold := hB3.out.cell (k := k) (by omega)
    replace hfit := mK (hfit.out w3 he3)
    replace hcl2 := mK hcl2
    replace hge := mK hge
    go_wp2_with fail
    refine hfit.out.mono ?_
    rintro e w4 ⟨rfl, he4⟩
    obtain ⟨Q, hQ⟩ : ∃ Q, Q = N / D := ⟨_, rfl⟩
    have hmod : N % D = N - D * Q := by rw [hQ]; exact Nat.mod_eq_sub_mul_div ..
    rw [← hQ] at hnext hQ32 hsub ⊢
    rw [hmod] at hnext
    rw [Nat.mul_comm] at hsub
    have hB4 := hB3.out.ext he4
    have hfr := hB4.frozen k
    have hold := hB4.cell (k := k) (by omega)
    have hB5 := hB4.set k Q
    have he5 := (he.out.trans (he23.out.trans he4)).st (p := ⟨w.heap.size, k, none⟩) (nR _) (.int .u32 ((Q : Nat) : Int))
    have hwg : w.heap.size ≠ g := by have := (Array.getElem?_eq_some_iff.1 hB.out).1; omega
    have hrow5 := (hrow3.out.ext (he3.trans he4)).set_other (p := ⟨w.heap.size, k, none⟩) (.int .u32 ((Q : Nat) : Int)) hwg
    have htm := rtimes_c a' c' (lim D) Q _ (by have := hnd.out; omega) (lim_ok D) hQ32 (h'.out.ext he5)
    rw [val_lim, ← hnd.out] at htm
    replace htm := mK htm
    replace hQ := mK hQ
    replace hmod := mK hmod
    replace hB5 := mK hB5
    replace he5 := mK he5
    replace hrow5 := mK hrow5
    replace hsub := mK hsub
    clear hB4 he4 hfit hcmp
    go_wp2_with fail
    refine htm.out.mono ?_
    rintro e w6 ⟨v6, rfl, hv6, he6⟩
    obtain ⟨a6, c6, rfl, hle6, hrow6⟩ := hv6.r
    have hsb := rsub_c (some ⟨g, 0, none⟩) a6 c2 c6 (lim N) (lim (D * Q)) w6 (by omega) (lim_mono hsub.out) (lim_ok _) (lim_ok _) (by rw [val_lim, val_lim]; exact hsub.out) (hrow5.out.ext he6) hrow6
    rw [val_lim, val_lim] at hsb
    replace hsb := mK hsb
    replace hB5 := mK (hB5.out.ext he6)
    replace he5 := mK (he5.out.trans he6)
    clear hv6 hrow6 he6 htm hrow5
    go_wp2_with fail
    refine hsb.out.mono ?_
    rintro e w7 ⟨v7, rfl, hv7, he7⟩
    have hR7 := mK (RestR.of hv7)
    replace hB5 := mK (hB5.out.ext he7)
    replace he5 := mK (he5.out.trans he7)
    clear hv7 he7 hsb
    go_wp2_with fail
    go_roundw
    case rel => exact ⟨k, _, _, by omega, rfl, hR7.out, hB5.out, hnext.out, he5.out⟩
    case measure => simp [intOf] <;> omega
theorem rdivide_k (a a' : Option Addr) (c c' : Nat) (A D : Nat) (w : World) (hl : (lim A).length ≤ 536870912) (hm : (lim D).length ≤ 536870912) (hD : 0 < D)
  (h : Row w a (limV (lim A))) (h' : Row w a' (limV (lim D))) :
  Calls Tryz.prog 217 #[.slice a (lim A).length c, .slice a' (lim D).length c'] w fun e w' => ∃ v1 v2, e = .returned (.tuple #[v1, v2]) ∧ RestR w' v1 (A / D) ∧ RestR w' v2 (A % D) ∧ Ext w w' ∧ NewV w.heap.size v1 := by
 by_cases h1 : D < 4294967296
 ·exact rdivide_one_k a a' c c' A D w (by omega) hD h1 h h'
 ·exact rdivide_many_k a a' c c' A D w hl hm (by omega) h h'
set_option maxHeartbeats 1600000 in
theorem rsign_c (v : Value) (X : Int) (w : World) (h : IntR w v X) (hX : nl X ≤ 1073741824) :
  Calls Tryz.prog 136 #[v] w fun e w' => e = .returned (.int .i64 (X.sign)) ∧ Ext w w' := by
 obtain ⟨s, rfl, a, c, rfl, _, r⟩ := h
 clear r
 by_cases h0 : X = 0
 ·subst h0
  have hl : (lim (Int.natAbs 0)).length = 0 := by simp [lim_zero]
  rw [hl]
  go_enter Tryz.func136, Tryz.ntmps136
  go_wp2_with fail
  go_ret
  exact ⟨rfl, (xR _).al _⟩
 ·have hl : (((lim X.natAbs).length : Int) == 0) = false := by
   have : X.natAbs ≠ 0 := by omega
   rw [lim_pos this]
   simp
   omega
  replace h0 := mK h0
  by_cases hn : X < 0
  ·have hs : X.sign = -1 := Int.sign_eq_neg_one_of_neg hn
   have hd : decide (X < 0) = true := by simpa using hn
   rw [hs, hd]
   replace hn := mK hn
   clear hs hd
   go_enter Tryz.func136, Tryz.ntmps136
   go_wp2_with fail
   go_ret
   exact ⟨rfl, (xR _).al _⟩
  ·have hs : X.sign = 1 := Int.sign_eq_one_of_pos (by have := h0.out; omega)
   have hd : decide (X < 0) = false := by simpa using hn
   rw [hs, hd]
   replace hn := mK hn
   clear hs hd
   go_enter Tryz.func136, Tryz.ntmps136
   go_wp2_with fail
   go_ret
   exact ⟨rfl, (xR _).al _⟩
set_option maxHeartbeats 1600000 in
theorem rcheck_c (v : Value) (b : Bool) (l : List Nat) (w : World) (hl : l.length ≤ 4294967296) (h : AnyR w v b l) :
  Calls Tryz.prog 133 #[v] w fun e w' => e = .returned (.int .i64 (if goodI b l then 0 else 1)) ∧ Ext w w' := by
 obtain ⟨a, c, rfl, okl, _, r⟩ := h
 by_cases h1 : 2048 < l.length
 ·have hg : goodI b l = false := by unfold goodI; simp; omega
  rw [hg]
  clear hg r
  go_enter Tryz.func133, Tryz.ntmps133
  go_wp2_with fail
  go_ret
  exact ⟨rfl, (xR _).al _⟩
 ·by_cases h2 : l = []
  ·subst h2
   clear r h1 hl
   cases b
   ·have hg : goodI false [] = true := rfl
    rw [hg]
    clear hg
    go_enter Tryz.func133, Tryz.ntmps133
    go_wp2_with fail
    go_ret
    exact ⟨rfl, (xR _).al _⟩
   ·have hg : goodI true [] = false := rfl
    rw [hg]
    clear hg
    go_enter Tryz.func133, Tryz.ntmps133
    go_wp2_with fail
    go_ret
    exact ⟨rfl, (xR _).al _⟩
  ·obtain ⟨g, off, ha, hc⟩ := r
   have h0 : 0 < l.length := by cases l with | nil => exact absurd rfl h2 | cons x y => simp
   have hcell : w.cell? ⟨g, off + (l.length - 1), none⟩ = some (.int .u32 (l.getD (l.length - 1) 0 : Nat)) := by
    rw [hc _ (by rw [limV_length]; omega), limV_getD _ _ (by omega)]
   have hgl := okL_get okl (l.length - 1)
   have hi : ((l.length : Int) - 1) = ((l.length - 1 : Nat) : Int) := by omega
   obtain rfl := ha (by intro e; have := congrArg List.length e; rw [limV_length] at this; simp at this; exact h2 this)
   have hlt : (w.heap.size = g) = False := by
    have := lt_of_cell hcell
    simp at this
    exact eq_false (by omega)
   have hgd : goodI b l = decide (l.getD (l.length - 1) 0 ≠ 0) := by
    have h3 : l.getLastD 0 = l.getD (l.length - 1) 0 := by
     rw [List.getLastD_eq_getLast?, List.getLast?_eq_getElem?, List.getD_eq_getElem?_getD]
    unfold goodI
    rw [h3]
    simp [h2]
    omega
   rw [hgd]
   clear hgd hc
   generalize l.getD (l.length - 1) 0 = x at *
   have hcell2 : (w.alloc (.cells #[.bool b, .slice (some ⟨g, off, none⟩) l.length c] 50)).cell? ⟨g, off + (l.length - 1), none⟩ = some (.int .u32 (x : Nat)) := ((xR w).al _).cell hcell
   clear hcell ha hlt
   by_cases hx : x = 0
   ·subst hx
    go_enter Tryz.func133, Tryz.ntmps133
    go_wp2_with fail
    go_ret
    exact ⟨rfl, (xR _).al _⟩
   ·have hx2 : ((x : Int) == 0) = false := by rw [beq_eq_false_iff_ne]; omega
    rw [if_pos (show decide (x ≠ 0) = true by simpa using hx)]
    go_enter Tryz.func133, Tryz.ntmps133
    go_wp2_with fail
    go_ret
    exact ⟨rfl, (xR _).al _⟩
def RawR (w : World) (v : Value) (n : Nat) : Prop := ∃ r, MagR w v r ∧ OkL r ∧ r.length ≤ 4294967296 ∧ val r = n
theorem RawR.ext {w w' : World} {v : Value} {n : Nat} (h : RawR w v n) (e : Ext w w') : RawR w' v n := by
 obtain ⟨r, h1, h2⟩ := h
 exact ⟨r, h1.ext e, h2⟩
theorem RawO.rr {w : World} {base : Nat} {v : Value} {n : Nat} (h : RawO w base v n) : RawR w v n := by
 obtain ⟨r, h1, h2⟩ := h
 exact ⟨r, h1.r, h2⟩
theorem RawR.lims {w : World} {v : Value} {n : Nat} (h : MagR w v (lim n)) (hl : (lim n).length ≤ 4294967296) : RawR w v n := ⟨_, h, lim_ok _, hl, val_lim _⟩
theorem rsigned_raw_k (neg : Bool) (s : Value) (n : Nat) (w : World) (h : RawR w s n) :
  Calls Tryz.prog 132 #[.bool neg, s] w fun e w' => ∃ v, e = .returned v ∧ IntR w' v (sg neg n) ∧ Ext w w' ∧ ∀ lo, NewV lo s → NewI lo v := by
 obtain ⟨r, h1, h2, h3, rfl⟩ := h
 exact rsigned_k neg s r w h2 h3 h1
theorem rsigned_raw (neg : Bool) (s : Value) (n : Nat) (w : World) (h : RawR w s n) :
  Calls Tryz.prog 132 #[.bool neg, s] w fun e w' => ∃ v, e = .returned v ∧ IntR w' v (sg neg n) ∧ Ext w w' := by
 obtain ⟨r, h1, h2, h3, rfl⟩ := h
 exact rsigned_c neg s r w h2 h3 h1
theorem st_intRG {ss : List FSpec} (x : Int) (h : StableAll Ext ss) : StableAll Ext (.pred (fun W v => IntR W v x) :: ss) := ⟨fun _ _ _ e h => IntR.ext h e, h⟩
theorem st_rawR {ss : List FSpec} (n : Nat) (h : StableAll Ext ss) : StableAll Ext (.pred (fun W v => RawR W v n) :: ss) := ⟨fun _ _ _ e h => RawR.ext h e, h⟩
set_option maxHeartbeats 1600000 in
theorem rof_c (n : Int) (w : World) (h0 : -9223372036854775808 ≤ n) (h1 : n < 9223372036854775808) :
  Calls Tryz.prog 81 #[.int .i64 n] w fun e w' => ∃ v, e = .returned v ∧ IntR w' v n ∧ Ext w w' := by
 by_cases hn : n < 0
 ·have hz : sg true n.natAbs = n := by simp [sg]; omega
  replace hz := mK hz
  go_enter Tryz.func81, Tryz.ntmps81
  go_wp2_with fail
  have e : IntKind.u64.wrap (-IntKind.u64.wrap n) = ((n.natAbs : Nat) : Int) := by rw [IntKind.wrap_u64, IntKind.wrap_u64]; omega
  refine (rsigned_raw true _ n.natAbs _ (raw_two _ _ (by omega) _ _ (by rw [e, Int.tmod_eq_emod_of_nonneg (by omega)]; omega) (by rw [e, Int.tdiv_eq_ediv_of_nonneg (by omega), IntKind.wrap_u64]; omega) (w.heap.size + 1) (by simp)).rr).mono ?_
  rintro e w2 ⟨v, rfl, h7, he2⟩
  have hEW0 := (((xR w).al _).al _).trans he2
  have hBW := he2.blk ((heap_alloc_old _ _ (by simp)).trans (heap_alloc_new w _))
  rw [hz.out] at h7
  replace he2 := mK he2
  obtain ⟨nb, a2, n2, c2, rfl⟩ := h7.shape
  have hR := h7.flat hBW (by simp [flatV]) #[.bool nb, .slice a2 n2 c2]
  have hEW := hEW0.row (show w.heap.size ≤ w.heap.size by omega) #[.bool nb, .slice a2 n2 c2]
  replace hR := mK hR
  replace hEW := mK hEW
  clear h7 hEW0
  go_wp2_with (refine wpList_store_row rfl 50 (.tmp 2) (.tmp 19) rfl (w.heap.size) #[.bool nb, .slice a2 n2 c2] rfl rfl 50 _ hBW (by kernel_rfl) rfl (by kernel_rfl) ?_)
  exact bodyPost_ret (results_cell_row rfl _ _ (w.heap.size) 50 #[.bool nb, .slice a2 n2 c2] (0, 0) _ rfl (setRow_heap _ _ _ _ _ _ hBW) Tryz.underlying50 rfl (by kernel_rfl)) rfl ⟨_, rfl, hR.out, hEW.out⟩
 ·have hz : sg false n.natAbs = n := by simp [sg]; omega
  replace hz := mK hz
  go_enter Tryz.func81, Tryz.ntmps81
  go_wp2_with fail
  refine (rsigned_raw false _ n.natAbs _ (raw_two _ _ (by omega) _ _ (by omega) (by omega) (w.heap.size + 1) (by simp)).rr).mono ?_
  rintro e w2 ⟨v, rfl, h7, he2⟩
  have hEW0 := (((xR w).al _).al _).trans he2
  have hBW := he2.blk ((heap_alloc_old _ _ (by simp)).trans (heap_alloc_new w _))
  rw [hz.out] at h7
  replace he2 := mK he2
  obtain ⟨nb, a2, n2, c2, rfl⟩ := h7.shape
  have hR := h7.flat hBW (by simp [flatV]) #[.bool nb, .slice a2 n2 c2]
  have hEW := hEW0.row (show w.heap.size ≤ w.heap.size by omega) #[.bool nb, .slice a2 n2 c2]
  replace hR := mK hR
  replace hEW := mK hEW
  clear h7 hEW0
  go_wp2_with (refine wpList_store_row rfl 50 (.tmp 2) (.tmp 19) rfl (w.heap.size) #[.bool nb, .slice a2 n2 c2] rfl rfl 50 _ hBW (by kernel_rfl) rfl (by kernel_rfl) ?_)
  exact bodyPost_ret (results_cell_row rfl _ _ (w.heap.size) 50 #[.bool nb, .slice a2 n2 c2] (0, 0) _ rfl (setRow_heap _ _ _ _ _ _ hBW) Tryz.underlying50 rfl (by kernel_rfl)) rfl ⟨_, rfl, hR.out, hEW.out⟩
def BitsRes (k : Int) (X : Int) : Prop := 0 ≤ k ∧ k ≤ 68719476736 ∧ (k = 1 → X.natAbs = 1)
set_option maxHeartbeats 1600000 in
theorem rbits_c (v : Value) (X : Int) (w : World) (h : IntR w v X) (hX : nl X ≤ 1073741824) :
  Calls Tryz.prog 215 #[v] w fun e w' => ∃ k, e = .returned (.int .i64 k) ∧ BitsRes k X ∧ Ext w w' := by
 obtain ⟨s, rfl, a, c, rfl, _, r⟩ := h
 by_cases h0 : X = 0
 ·subst h0
  have hl : (lim (Int.natAbs 0)).length = 0 := by simp [lim_zero]
  rw [hl]
  clear r
  go_enter Tryz.func215, Tryz.ntmps215
  go_wp2_with fail
  go_ret
  exact ⟨0, rfl, ⟨by omega, by omega, by omega⟩, (xR _).al _⟩
 ·have hn0 : X.natAbs ≠ 0 := by omega
  have hpos : 0 < (lim X.natAbs).length := by rw [lim_pos hn0]; simp
  have hl : (((lim X.natAbs).length : Int) == 0) = false := by rw [beq_eq_false_iff_ne]; omega
  obtain ⟨g, off, ha, hc⟩ := r
  have hcell := row_at hc (show (lim X.natAbs).length - 1 < (lim X.natAbs).length by omega)
  have htop := lim_top hn0
  have htl := okL_get (lim_ok X.natAbs) ((lim X.natAbs).length - 1)
  have hone : (lim X.natAbs).length = 1 → (lim X.natAbs).getD ((lim X.natAbs).length - 1) 0 = 1 → X.natAbs = 1 := by
   intro e1 e2
   have := val_lim X.natAbs
   generalize lim X.natAbs = l at *
   match l, e1 with
   | [y], _ =>
    simp [val] at this e2
    omega
  obtain rfl := ha (limV_ne hpos)
  have hlX : (lim X.natAbs).length ≤ 1073741824 := hX
  obtain ⟨d, hd⟩ : ∃ d, d = decide (X < 0) := ⟨_, rfl⟩
  rw [← hd]
  generalize (lim X.natAbs).getD ((lim X.natAbs).length - 1) 0 = t at *
  generalize (lim X.natAbs).length = n at *
  have hcell2 : (w.alloc (.cells #[.bool d, .slice (some ⟨g, off, none⟩) n c] 50)).cell? ⟨g, off + (n - 1), none⟩ = some (.int .u32 (t : Nat)) := ((xR w).al _).cell hcell
  have hlt : (w.heap.size = g) = False := by
   have := lt_of_cell hcell
   simp at this
   exact eq_false (by omega)
  have hi : ((n : Int) - 1) = ((n - 1 : Nat) : Int) := by omega
  replace hone := mK hone
  replace hd := mK hd
  clear h0 hcell ha hc hn0
  go_enter Tryz.func215, Tryz.ntmps215
  go_wp2_with fail
  go_loop [3, 4] (fun a b => ∃ (z : Int) (u : Nat), a = .int .i64 z ∧ b = .int .u32 (u : Nat) ∧ z + u ≤ 32 * ((n : Int) - 1) + t ∧ 32 * ((n : Int) - 1) ≤ z ∧ ((z = 32 * ((n : Int) - 1) ∧ u = t) ∨ (z = 32 * ((n : Int) - 1) + 1 ∧ u = t / 2) ∨ 32 * ((n : Int) - 1) + 2 ≤ z)) (fun _ b => (intOf b).toNat)
  case atStart => exact ⟨_, t, rfl, rfl, by omega, by omega, .inl ⟨by omega, rfl⟩⟩
  case round =>
   obtain ⟨z, u, rfl, rfl, h1, h2, h3⟩ := hrel
   have hz : z ≤ 68719476736 := by omega
   have hz0 : 0 ≤ z := by omega
   by_cases hu : 0 < u
   ·have h4 : ((z + 1 = 32 * ((n : Int) - 1) ∧ u / 2 = t) ∨ (z + 1 = 32 * ((n : Int) - 1) + 1 ∧ u / 2 = t / 2) ∨ 32 * ((n : Int) - 1) + 2 ≤ z + 1) := by omega
    replace h3 := mK h3
    replace h4 := mK h4
    go_wp2_with fail
    go_round
    case rel => exact ⟨z + 1, u / 2, rfl, by simp, by omega, by omega, h4.out⟩
    case measure => simp [intOf] <;> omega
   ·obtain rfl : u = 0 := by omega
    have hres : BitsRes z X := ⟨hz0, by omega, fun e => hone.out (by omega) (by omega)⟩
    replace hres := mK hres
    replace h3 := mK h3
    go_wp2_with fail
    go_ret
    exact ⟨z, rfl, hres.out, (xR _).al _⟩
theorem sign_cmp (X Y : Int) : (X.sign < Y.sign → (X - Y).sign = -1) ∧ (Y.sign < X.sign → (X - Y).sign = 1) ∧
  (X.sign = Y.sign → (X.sign < 0 → (X - Y).sign = -(((X.natAbs : Nat) : Int) - Y.natAbs).sign) ∧ (¬ X.sign < 0 → (X - Y).sign = (((X.natAbs : Nat) : Int) - Y.natAbs).sign)) := by
 have sp : ∀ z : Int, 0 < z → z.sign = 1 := fun z h => Int.sign_eq_one_of_pos h
 have sn : ∀ z : Int, z < 0 → z.sign = -1 := fun z h => Int.sign_eq_neg_one_of_neg h
 have s0 : ∀ z : Int, z = 0 → z.sign = 0 := fun z h => by rw [h]; rfl
 rcases Int.lt_trichotomy X 0 with h | h | h <;> rcases Int.lt_trichotomy Y 0 with h' | h' | h'
 ·rw [sn X h, sn Y h']
  refine ⟨by omega, by omega, fun _ => ⟨fun _ => ?_, by omega⟩⟩
  rw [← Int.sign_neg]
  congr 1
  omega
 ·rw [sn X h, s0 Y h', sn (X - Y) (by omega)]; omega
 ·rw [sn X h, sp Y h', sn (X - Y) (by omega)]; omega
 ·rw [s0 X h, sn Y h', sp (X - Y) (by omega)]; omega
 ·subst h; subst h'; simp
 ·rw [s0 X h, sp Y h', sn (X - Y) (by omega)]; omega
 ·rw [sp X h, sn Y h', sp (X - Y) (by omega)]; omega
 ·rw [sp X h, s0 Y h', sp (X - Y) (by omega)]; omega
 ·rw [sp X h, sp Y h']
  refine ⟨by omega, by omega, fun _ => ⟨by omega, fun _ => ?_⟩⟩
  congr 1
  omega
theorem sign_rng (X : Int) : -1 ≤ X.sign ∧ X.sign ≤ 1 := by
 rcases Int.lt_trichotomy X 0 with h | h | h
 ·rw [Int.sign_eq_neg_one_of_neg h]; omega
 ·subst h; simp
 ·rw [Int.sign_eq_one_of_pos h]; omega
set_option maxHeartbeats 3200000 in
theorem rcmpI_c (v1 v2 : Value) (X Y : Int) (w : World) (hX : nl X ≤ 1073741824) (hY : nl Y ≤ 1073741824) (h1 : IntR w v1 X) (h2 : IntR w v2 Y) :
  Calls Tryz.prog 134 #[v1, v2] w fun e w' => e = .returned (.int .i64 (X - Y).sign) ∧ Ext w w' := by
 have H1 := mK h1
 have H2 := mK h2
 obtain ⟨s1, rfl, a1, c1, rfl, _, r1⟩ := h1
 obtain ⟨s2, rfl, a2, c2, rfl, _, r2⟩ := h2
 replace r1 := mK r1
 replace r2 := mK r2
 obtain ⟨bx, hbx⟩ : ∃ b, b = decide (X < 0) := ⟨_, rfl⟩
 obtain ⟨bY, hbY⟩ : ∃ b, b = decide (Y < 0) := ⟨_, rfl⟩
 rw [← hbx] at H1 ⊢
 rw [← hbY] at H2 ⊢
 replace hbx := mK hbx
 replace hbY := mK hbY
 have hsc := sign_cmp X Y
 have rC := cmp_bounds (X := X.natAbs) (R := Y.natAbs)
 have rx := sign_rng X
 have ry := sign_rng Y
 have S1 := mK (fun W (e : Ext w W) => rsign_c _ X W (H1.out.ext e) hX)
 have S2 := mK (fun W (e : Ext w W) => rsign_c _ Y W (H2.out.ext e) hY)
 have SC := mK (fun W (e : Ext w W) => rcmp_c a1 a2 c1 c2 X.natAbs Y.natAbs W (by unfold nl at *; omega) (by unfold nl at *; omega) (r1.out.ext e) (r2.out.ext e))
 obtain ⟨R, hR⟩ : ∃ R, R = (X - Y).sign := ⟨_, rfl⟩
 rw [← hR] at hsc ⊢
 generalize (((X.natAbs : Nat) : Int) - Y.natAbs).sign = C at *
 generalize X.sign = sx at *
 generalize Y.sign = sy at *
 generalize (lim X.natAbs).length = n1 at *
 generalize (lim Y.natAbs).length = n2 at *
 replace hsc := mK hsc
 replace hR := mK hR
 go_enter Tryz.func134, Tryz.ntmps134
 go_wp2_with fail
 obtain ⟨wb, hwb⟩ : ∃ wb, wb = (w.alloc (.cells #[.bool bx, .slice a1 n1 c1] 50)).alloc (.cells #[.bool bY, .slice a2 n2 c2] 50) := ⟨_, rfl⟩
 have hE : Ext w wb := by rw [hwb]; exact ((xR w).al _).al _
 have h00 : ∀ W, Ext wb W → W.cell? ⟨w.heap.size, 0, none⟩ = some (.bool bx) := fun W e => e.cell (by rw [hwb]; go_simp)
 have h01 : ∀ W, Ext wb W → W.cell? ⟨w.heap.size, 1, none⟩ = some (.slice a1 n1 c1) := fun W e => e.cell (by rw [hwb]; go_simp)
 have h10 : ∀ W, Ext wb W → W.cell? ⟨w.heap.size + 1, 0, none⟩ = some (.bool bY) := fun W e => e.cell (by rw [hwb]; go_simp)
 have h11 : ∀ W, Ext wb W → W.cell? ⟨w.heap.size + 1, 1, none⟩ = some (.slice a2 n2 c2) := fun W e => e.cell (by rw [hwb]; go_simp)
 rw [← hwb]
 clear hwb
 replace h00 := mK h00
 replace h01 := mK h01
 replace h10 := mK h10
 replace h11 := mK h11
 replace hE := mK hE
 refine (S1.out _ hE.out).mono ?_
 rintro e w1 ⟨rfl, he1⟩
 have k10 := h10.out w1 he1
 have k11 := h11.out w1 he1
 replace he1 := mK he1
 clear S1
 go_wp2_with fail
 refine (S2.out _ (hE.out.trans he1.out)).mono ?_
 rintro e w2 ⟨rfl, he2⟩
 replace he2 := mK (he1.out.trans he2)
 clear S2 k10 k11 he1
 have k01 := h01.out w2 he2.out
 have k11 := h11.out w2 he2.out
 replace he1 := mK (hE.out.trans he2.out)
 clear h00 h01 h10 h11 he2
 by_cases hs : sx = sy
 ·subst hs
  obtain ⟨q1, q2⟩ := hsc.out.2.2 rfl
  clear hsc
  replace q1 := mK q1
  replace q2 := mK q2
  go_wp2_with fail
  refine (SC.out _ he1.out).mono ?_
  rintro e w3 ⟨rfl, he3⟩
  replace he3 := mK (he1.out.trans he3)
  clear SC he1
  by_cases hn : sx < 0
  ·have := q1.out hn
   subst this
   go_wp2_with fail
   go_ret
   exact ⟨rfl, he3.out⟩
  ·have := q2.out (by omega)
   subst this
   go_wp2_with fail
   go_ret
   exact ⟨rfl, he3.out⟩
 ·have hne : (sx != sy) = true := by simpa using hs
  by_cases hlt : sx < sy
  ·have := hsc.out.1 hlt
   subst this
   clear hsc
   replace hs := mK hs
   go_wp2_with fail
   go_ret
   exact ⟨rfl, he1.out⟩
  ·have := hsc.out.2.1 (by omega)
   subst this
   clear hsc
   replace hs := mK hs
   go_wp2_with fail
   go_ret
   exact ⟨rfl, he1.out⟩
set_option maxHeartbeats 1600000 in
theorem rbelow_c (v1 v2 : Value) (X Y : Int) (w : World) (hX : nl X ≤ 1073741824) (hY : nl Y ≤ 1073741824) (h1 : IntR w v1 X) (h2 : IntR w v2 Y) :
  Calls Tryz.prog 220 #[v1, v2] w fun e w' => e = .returned (.bool (decide (X < Y))) ∧ Ext w w' := by
 obtain ⟨bx, a1, n1, c1, rfl⟩ := h1.shape
 obtain ⟨bY, a2, n2, c2, rfl⟩ := h2.shape
 have S1 := mK (fun W (e : Ext w W) => rcmpI_c _ _ X Y W hX hY (h1.ext e) (h2.ext e))
 have rx := sign_rng (X - Y)
 have hd : decide (X < Y) = decide ((X - Y).sign < 0) := by
  rw [Bool.eq_iff_iff]
  simp only [decide_eq_true_eq, Int.sign_neg_iff]
  omega
 rw [hd]
 clear hd h1 h2
 generalize (X - Y).sign = C at *
 go_enter Tryz.func220, Tryz.ntmps220
 go_wp2_with fail
 refine (S1.out _ (((xR w).al _).al _)).mono ?_
 rintro e w1 ⟨rfl, he1⟩
 replace he1 := mK ((((xR w).al _).al _).trans he1)
 go_wp2_with fail
 go_ret
 exact ⟨rfl, he1.out⟩
theorem sg_neg_sg (X : Int) : sg (!decide (X < 0)) X.natAbs = -X := by
 unfold sg
 by_cases h : X < 0
 ·simp [h]; omega
 ·simp [h]; omega
set_option maxHeartbeats 1600000 in
theorem rturnedI_c (v : Value) (X : Int) (w : World) (hX : nl X ≤ 1073741824) (h1 : IntR w v X) :
  Calls Tryz.prog 240 #[v] w fun e w' => ∃ v, e = .returned v ∧ IntR w' v (-X) ∧ Ext w w' := by
 obtain ⟨s1, rfl, a1, c1, rfl, hc, r1⟩ := h1
 obtain ⟨bx, hbx⟩ : ∃ b, b = decide (X < 0) := ⟨_, rfl⟩
 have SG := mK (fun W (e : Ext w W) => rsigned_raw (!bx) _ X.natAbs W (RawR.lims ⟨a1, c1, rfl, hc, r1.ext e⟩ (by unfold nl at hX; omega)))
 rw [hbx, sg_neg_sg, ← hbx] at SG
 rw [← hbx]
 clear hbx r1 hc
 generalize (lim X.natAbs).length = n1 at *
 go_enter Tryz.func240, Tryz.ntmps240
 go_wp2_with fail
 refine (SG.out _ (((xR w).al _).al _)).mono ?_
 rintro e w2 ⟨v, rfl, h7, he2⟩
 have hEW0 := (((xR w).al _).al _).trans he2
 have hBW := he2.blk (heap_at _ _ (w.heap.size + 1) (by simp))
 replace he2 := mK he2
 obtain ⟨nb, a2, n2, c2, rfl⟩ := h7.shape
 have hR := h7.flat hBW (by simp [flatV]) #[.bool nb, .slice a2 n2 c2]
 have hEW := hEW0.row (show w.heap.size ≤ w.heap.size + 1 by omega) #[.bool nb, .slice a2 n2 c2]
 replace hR := mK hR
 replace hEW := mK hEW
 clear h7 hEW0
 go_wp2_with (refine wpList_store_row rfl 50 (.tmp 2) (.tmp 8) rfl (w.heap.size + 1) #[.bool nb, .slice a2 n2 c2] rfl rfl 50 _ hBW (by kernel_rfl) rfl (by kernel_rfl) ?_)
 exact bodyPost_ret (results_cell_row rfl _ _ (w.heap.size + 1) 50 #[.bool nb, .slice a2 n2 c2] (0, 0) _ rfl (setRow_heap _ _ _ _ _ _ hBW) Tryz.underlying50 rfl (by kernel_rfl)) rfl ⟨_, rfl, hR.out, hEW.out⟩
theorem radd_raw (a a' : Option Addr) (c c' : Nat) (x y : Nat) (w : World) (hl : (lim x).length ≤ 2147483648) (hm : (lim y).length ≤ 2147483648) (h : Row w a (limV (lim x))) (h' : Row w a' (limV (lim y))) :
  Calls Tryz.prog 130 #[.slice a (lim x).length c, .slice a' (lim y).length c'] w fun e w' => ∃ v, e = .returned v ∧ RawR w' v (x + y) ∧ Ext w w' := by
 refine (radd_c a a' c c' (lim x) (lim y) w hl hm (lim_ok _) (lim_ok _) h h').mono ?_
 rintro e w' ⟨v, q, he, h1, h2, h3, h4, h5⟩
 rw [val_lim, val_lim] at h4
 exact ⟨v, he, ⟨q, h1.r, h2, by omega, h4⟩, h5⟩
theorem rsub_raw (a a' : Option Addr) (c c' : Nat) (x y : Nat) (w : World) (hl : (lim x).length ≤ 2147483648) (hv : y ≤ x) (h : Row w a (limV (lim x))) (h' : Row w a' (limV (lim y))) :
  Calls Tryz.prog 236 #[.slice a (lim x).length c, .slice a' (lim y).length c'] w fun e w' => ∃ v, e = .returned v ∧ RawR w' v (x - y) ∧ Ext w w' := by
 refine (rsub_c a a' c c' (lim x) (lim y) w hl (lim_mono hv) (lim_ok _) (lim_ok _) (by rw [val_lim, val_lim]; exact hv) h h').mono ?_
 rintro e w' ⟨v, he, h1, h2⟩
 rw [val_lim, val_lim] at h1
 have := lim_mono (Nat.sub_le x y)
 exact ⟨v, he, RawR.lims h1.r (by omega), h2⟩
set_option maxHeartbeats 3200000 in
theorem rplusI_c (v1 v2 : Value) (X Y : Int) (w : World) (hX : nl X ≤ 1073741824) (hY : nl Y ≤ 1073741824) (h1 : IntR w v1 X) (h2 : IntR w v2 Y) :
  Calls Tryz.prog 239 #[v1, v2] w fun e w' => ∃ v, e = .returned v ∧ IntR w' v (X + Y) ∧ Ext w w' := by
 obtain ⟨s1, rfl, a1, c1, rfl, _, r1⟩ := h1
 obtain ⟨s2, rfl, a2, c2, rfl, _, r2⟩ := h2
 obtain ⟨bx, hbx⟩ : ∃ b, b = decide (X < 0) := ⟨_, rfl⟩
 obtain ⟨bY, hbY⟩ : ∃ b, b = decide (Y < 0) := ⟨_, rfl⟩
 rw [← hbx, ← hbY]
 have hXl : (lim X.natAbs).length ≤ 1073741824 := hX
 have hYl : (lim Y.natAbs).length ≤ 1073741824 := hY
 by_cases hs : bx = bY
 ·have hsg : sg bx (X.natAbs + Y.natAbs) = X + Y := by
   rw [hbx] at hs ⊢
   rw [hbY] at hs
   unfold sg
   by_cases h : X < 0
   ·have : Y < 0 := by simpa [h] using hs
    simp [h]; omega
   ·have : ¬ Y < 0 := by simpa [h] using hs
    simp [h]; omega
  have AD := mK (fun W (e : Ext w W) => radd_raw a1 a2 c1 c2 X.natAbs Y.natAbs W (by omega) (by omega) (r1.ext e) (r2.ext e))
  have SG := mK (fun s W h => rsigned_raw bx s (X.natAbs + Y.natAbs) W h)
  rw [hsg] at SG
  subst hs
  clear hsg hbx hbY hXl hYl hX hY r1 r2
  generalize (lim X.natAbs).length = n1 at *
  generalize (lim Y.natAbs).length = n2 at *
  generalize X.natAbs + Y.natAbs = M at *
  go_enter Tryz.func239, Tryz.ntmps239
  go_wp2_with fail
  obtain ⟨wb, hwb⟩ : ∃ wb, wb = ((w.alloc (.cells #[.bool bx, .slice a1 n1 c1] 50)).alloc (.cells #[.bool bx, .slice a2 n2 c2] 50)).alloc (.cells #[.bool false, .slice none 0 0] 50) := ⟨_, rfl⟩
  have hE : Ext w wb := by rw [hwb]; exact (((xR w).al _).al _).al _
  have h00 : ∀ W, Ext wb W → W.cell? ⟨w.heap.size, 0, none⟩ = some (.bool bx) := fun W e => e.cell (by rw [hwb]; go_simp)
  have h01 : ∀ W, Ext wb W → W.cell? ⟨w.heap.size, 1, none⟩ = some (.slice a1 n1 c1) := fun W e => e.cell (by rw [hwb]; go_simp)
  have h10 : ∀ W, Ext wb W → W.cell? ⟨w.heap.size + 1, 0, none⟩ = some (.bool bx) := fun W e => e.cell (by rw [hwb]; go_simp)
  have h11 : ∀ W, Ext wb W → W.cell? ⟨w.heap.size + 1, 1, none⟩ = some (.slice a2 n2 c2) := fun W e => e.cell (by rw [hwb]; go_simp)
  have hB : ∀ W, Ext wb W → W.heap[w.heap.size + 2]? = some (.cells #[.bool false, .slice none 0 0] 50) := fun W e => e.blk (by rw [hwb]; exact heap_at _ _ _ (by simp))
  rw [← hwb]
  clear hwb
  replace hB := mK hB
  replace hE := mK hE
  have hE0 := xR wb
  apply region_ext [.val _, .val _, .val _, .val _, .val _, .val _, .pred (fun W v => RawR W v (M)), .pred (fun W v => IntR W v (X + Y))] (by kernel_rfl) (stable_vals _ (stable_vals _ (stable_vals _ (stable_vals _ (stable_vals _ (stable_vals _ (st_rawR _ (st_intRG _ trivial))))))))
  iterate 6 (refine ⟨fun W hW _ => by go_simp; exact ⟨xR _, rfl⟩, ?_⟩)
  refine ⟨fun W hW _ => ?g6, fun v6 => ⟨fun W hW hF => ?g7, fun v7 => fun W hW hF => ?fin⟩⟩
  case g6 =>
   go_simp
   refine (AD.out W (hE.out.trans (hE0.trans hW))).mono ?_
   rintro e w' ⟨v, rfl, h1, h2⟩
   exact ⟨v, rfl, h2, h1⟩
  case g7 =>
   have d6 : RawR W v6 (M) := hF.1 (by kernel_rfl)
   replace d6 := mK d6
   clear hF
   go_simp
   refine (SG.out v6 W d6.out).mono ?_
   rintro e w' ⟨v, rfl, h1, h2⟩
   exact ⟨v, rfl, h2, h1⟩
  case fin =>
   have d7 : IntR W v7 (X + Y) := hF.1 rfl
   have hBW := hB.out W (hE0.trans hW)
   have hEW0 := hE.out.trans (hE0.trans hW)
   clear hF h00 h01 h10 h11 AD SG hW
   go_simp
   obtain ⟨nb, a2, n2, c2, rfl⟩ := d7.shape
   have hR := d7.flat hBW (by simp [flatV]) #[.bool nb, .slice a2 n2 c2]
   have hEW := hEW0.row (show w.heap.size ≤ w.heap.size + 2 by omega) #[.bool nb, .slice a2 n2 c2]
   replace hR := mK hR
   replace hEW := mK hEW
   clear d7 hEW0
   go_wp2_with (refine wpList_store_row rfl 50 (.tmp 4) (.tmp 17) rfl (w.heap.size + 2) #[.bool nb, .slice a2 n2 c2] rfl rfl 50 _ hBW (by kernel_rfl) rfl (by kernel_rfl) ?_)
   exact bodyPost_ret (results_cell_row rfl _ _ (w.heap.size + 2) 50 #[.bool nb, .slice a2 n2 c2] (0, 0) _ rfl (setRow_heap _ _ _ _ _ _ hBW) Tryz.underlying50 rfl (by kernel_rfl)) rfl ⟨_, rfl, hR.out, hEW.out⟩
 ·have hne : (bx == bY) = false := by simpa using hs
  have hxy : (X < 0 ∧ ¬ Y < 0) ∨ (¬ X < 0 ∧ Y < 0) := by
   rw [hbx, hbY] at hs
   by_cases h : X < 0 <;> by_cases h' : Y < 0 <;> simp [h, h'] at hs ⊢ <;> omega
  have SC := mK (fun W (e : Ext w W) => rcmp_c a1 a2 c1 c2 X.natAbs Y.natAbs W (by omega) (by omega) (r1.ext e) (r2.ext e))
  have rC := cmp_bounds (X := X.natAbs) (R := Y.natAbs)
  by_cases hlt : X.natAbs < Y.natAbs
  ·have hcs := sgn_lt hlt
   rw [hcs] at SC
   have hsg : sg bY (Y.natAbs - X.natAbs) = X + Y := by
    rw [hbY]
    unfold sg
    by_cases h : Y < 0
    ·simp [h]; omega
    ·simp [h]; omega
   have AD := mK (fun W (e : Ext w W) => rsub_raw a2 a1 c2 c1 Y.natAbs X.natAbs W (by omega) (by omega) (r2.ext e) (r1.ext e))
   have SG := mK (fun s W h => rsigned_raw bY s (Y.natAbs - X.natAbs) W h)
   rw [hsg] at SG
   clear hsg hbx hbY hXl hYl hX hY r1 r2 hcs rC hxy hlt hs
   generalize (lim X.natAbs).length = n1 at *
   generalize (lim Y.natAbs).length = n2 at *
   generalize Y.natAbs - X.natAbs = M at *
   go_enter Tryz.func239, Tryz.ntmps239
   go_wp2_with fail
   obtain ⟨wb, hwb⟩ : ∃ wb, wb = ((w.alloc (.cells #[.bool bx, .slice a1 n1 c1] 50)).alloc (.cells #[.bool bY, .slice a2 n2 c2] 50)).alloc (.cells #[.bool false, .slice none 0 0] 50) := ⟨_, rfl⟩
   have hE : Ext w wb := by rw [hwb]; exact (((xR w).al _).al _).al _
   have h00 : ∀ W, Ext wb W → W.cell? ⟨w.heap.size, 0, none⟩ = some (.bool bx) := fun W e => e.cell (by rw [hwb]; go_simp)
   have h01 : ∀ W, Ext wb W → W.cell? ⟨w.heap.size, 1, none⟩ = some (.slice a1 n1 c1) := fun W e => e.cell (by rw [hwb]; go_simp)
   have h10 : ∀ W, Ext wb W → W.cell? ⟨w.heap.size + 1, 0, none⟩ = some (.bool bY) := fun W e => e.cell (by rw [hwb]; go_simp)
   have h11 : ∀ W, Ext wb W → W.cell? ⟨w.heap.size + 1, 1, none⟩ = some (.slice a2 n2 c2) := fun W e => e.cell (by rw [hwb]; go_simp)
   have hB : ∀ W, Ext wb W → W.heap[w.heap.size + 2]? = some (.cells #[.bool false, .slice none 0 0] 50) := fun W e => e.blk (by rw [hwb]; exact heap_at _ _ _ (by simp))
   rw [← hwb]
   clear hwb
   replace hB := mK hB
   replace hE := mK hE
   refine (SC.out _ hE.out).mono ?_
   rintro e w1 ⟨rfl, hE0⟩
   clear SC
   go_wp2_with fail
   replace h00 := fun W (e : Ext w1 W) => h00 W (hE0.trans e)
   replace h01 := fun W (e : Ext w1 W) => h01 W (hE0.trans e)
   replace h10 := fun W (e : Ext w1 W) => h10 W (hE0.trans e)
   replace h11 := fun W (e : Ext w1 W) => h11 W (hE0.trans e)
   apply region_ext [.val _, .val _, .val _, .val _, .val _, .val _, .pred (fun W v => RawR W v (M)), .pred (fun W v => IntR W v (X + Y))] (by kernel_rfl) (stable_vals _ (stable_vals _ (stable_vals _ (stable_vals _ (stable_vals _ (stable_vals _ (st_rawR _ (st_intRG _ trivial))))))))
   iterate 6 (refine ⟨fun W hW _ => by go_simp; exact ⟨xR _, rfl⟩, ?_⟩)
   refine ⟨fun W hW _ => ?g6, fun v6 => ⟨fun W hW hF => ?g7, fun v7 => fun W hW hF => ?fin⟩⟩
   case g6 =>
    go_simp
    refine (AD.out W (hE.out.trans (hE0.trans hW))).mono ?_
    rintro e w' ⟨v, rfl, h1, h2⟩
    exact ⟨v, rfl, h2, h1⟩
   case g7 =>
    have d6 : RawR W v6 (M) := hF.1 (by kernel_rfl)
    replace d6 := mK d6
    clear hF
    go_simp
    refine (SG.out v6 W d6.out).mono ?_
    rintro e w' ⟨v, rfl, h1, h2⟩
    exact ⟨v, rfl, h2, h1⟩
   case fin =>
    have d7 : IntR W v7 (X + Y) := hF.1 rfl
    have hBW := hB.out W (hE0.trans hW)
    have hEW0 := hE.out.trans (hE0.trans hW)
    clear hF h00 h01 h10 h11 AD SG hW
    go_simp
    obtain ⟨nb, a2, n2, c2, rfl⟩ := d7.shape
    have hR := d7.flat hBW (by simp [flatV]) #[.bool nb, .slice a2 n2 c2]
    have hEW := hEW0.row (show w.heap.size ≤ w.heap.size + 2 by omega) #[.bool nb, .slice a2 n2 c2]
    replace hR := mK hR
    replace hEW := mK hEW
    clear d7 hEW0
    go_wp2_with (refine wpList_store_row rfl 50 (.tmp 4) (.tmp 39) rfl (w.heap.size + 2) #[.bool nb, .slice a2 n2 c2] rfl rfl 50 _ hBW (by kernel_rfl) rfl (by kernel_rfl) ?_)
    exact bodyPost_ret (results_cell_row rfl _ _ (w.heap.size + 2) 50 #[.bool nb, .slice a2 n2 c2] (0, 0) _ rfl (setRow_heap _ _ _ _ _ _ hBW) Tryz.underlying50 rfl (by kernel_rfl)) rfl ⟨_, rfl, hR.out, hEW.out⟩
  ·have hge : 0 ≤ (((X.natAbs : Nat) : Int) - Y.natAbs).sign := by
    rcases Nat.lt_trichotomy X.natAbs Y.natAbs with h | h | h
    ·omega
    ·rw [sgn_eq h]; omega
    ·rw [sgn_gt h]; omega
   have hsg : sg bx (X.natAbs - Y.natAbs) = X + Y := by
    rw [hbx]
    unfold sg
    by_cases h : X < 0
    ·simp [h]; omega
    ·simp [h]; omega
   have AD := mK (fun W (e : Ext w W) => rsub_raw a1 a2 c1 c2 X.natAbs Y.natAbs W (by omega) (by omega) (r1.ext e) (r2.ext e))
   have SG := mK (fun s W h => rsigned_raw bx s (X.natAbs - Y.natAbs) W h)
   rw [hsg] at SG
   clear hsg hbx hbY hXl hYl hX hY r1 r2 hxy hlt hs
   generalize (((X.natAbs : Nat) : Int) - Y.natAbs).sign = C at *
   generalize (lim X.natAbs).length = n1 at *
   generalize (lim Y.natAbs).length = n2 at *
   generalize X.natAbs - Y.natAbs = M at *
   go_enter Tryz.func239, Tryz.ntmps239
   go_wp2_with fail
   obtain ⟨wb, hwb⟩ : ∃ wb, wb = ((w.alloc (.cells #[.bool bx, .slice a1 n1 c1] 50)).alloc (.cells #[.bool bY, .slice a2 n2 c2] 50)).alloc (.cells #[.bool false, .slice none 0 0] 50) := ⟨_, rfl⟩
   have hE : Ext w wb := by rw [hwb]; exact (((xR w).al _).al _).al _
   have h00 : ∀ W, Ext wb W → W.cell? ⟨w.heap.size, 0, none⟩ = some (.bool bx) := fun W e => e.cell (by rw [hwb]; go_simp)
   have h01 : ∀ W, Ext wb W → W.cell? ⟨w.heap.size, 1, none⟩ = some (.slice a1 n1 c1) := fun W e => e.cell (by rw [hwb]; go_simp)
   have h10 : ∀ W, Ext wb W → W.cell? ⟨w.heap.size + 1, 0, none⟩ = some (.bool bY) := fun W e => e.cell (by rw [hwb]; go_simp)
   have h11 : ∀ W, Ext wb W → W.cell? ⟨w.heap.size + 1, 1, none⟩ = some (.slice a2 n2 c2) := fun W e => e.cell (by rw [hwb]; go_simp)
   have hB : ∀ W, Ext wb W → W.heap[w.heap.size + 2]? = some (.cells #[.bool false, .slice none 0 0] 50) := fun W e => e.blk (by rw [hwb]; exact heap_at _ _ _ (by simp))
   rw [← hwb]
   clear hwb
   replace hB := mK hB
   replace hE := mK hE
   refine (SC.out _ hE.out).mono ?_
   rintro e w1 ⟨rfl, hE0⟩
   clear SC
   go_wp2_with fail
   replace h00 := fun W (e : Ext w1 W) => h00 W (hE0.trans e)
   replace h01 := fun W (e : Ext w1 W) => h01 W (hE0.trans e)
   replace h10 := fun W (e : Ext w1 W) => h10 W (hE0.trans e)
   replace h11 := fun W (e : Ext w1 W) => h11 W (hE0.trans e)
   apply region_ext [.val _, .val _, .val _, .val _, .val _, .val _, .pred (fun W v => RawR W v (M)), .pred (fun W v => IntR W v (X + Y))] (by kernel_rfl) (stable_vals _ (stable_vals _ (stable_vals _ (stable_vals _ (stable_vals _ (stable_vals _ (st_rawR _ (st_intRG _ trivial))))))))
   iterate 6 (refine ⟨fun W hW _ => by go_simp; exact ⟨xR _, rfl⟩, ?_⟩)
   refine ⟨fun W hW _ => ?g6, fun v6 => ⟨fun W hW hF => ?g7, fun v7 => fun W hW hF => ?fin⟩⟩
   case g6 =>
    go_simp
    refine (AD.out W (hE.out.trans (hE0.trans hW))).mono ?_
    rintro e w' ⟨v, rfl, h1, h2⟩
    exact ⟨v, rfl, h2, h1⟩
   case g7 =>
    have d6 : RawR W v6 (M) := hF.1 (by kernel_rfl)
    replace d6 := mK d6
    clear hF
    go_simp
    refine (SG.out v6 W d6.out).mono ?_
    rintro e w' ⟨v, rfl, h1, h2⟩
    exact ⟨v, rfl, h2, h1⟩
   case fin =>
    have d7 : IntR W v7 (X + Y) := hF.1 rfl
    have hBW := hB.out W (hE0.trans hW)
    have hEW0 := hE.out.trans (hE0.trans hW)
    clear hF h00 h01 h10 h11 AD SG hW
    go_simp
    obtain ⟨nb, a2, n2, c2, rfl⟩ := d7.shape
    have hR := d7.flat hBW (by simp [flatV]) #[.bool nb, .slice a2 n2 c2]
    have hEW := hEW0.row (show w.heap.size ≤ w.heap.size + 2 by omega) #[.bool nb, .slice a2 n2 c2]
    replace hR := mK hR
    replace hEW := mK hEW
    clear d7 hEW0
    go_wp2_with (refine wpList_store_row rfl 50 (.tmp 4) (.tmp 31) rfl (w.heap.size + 2) #[.bool nb, .slice a2 n2 c2] rfl rfl 50 _ hBW (by kernel_rfl) rfl (by kernel_rfl) ?_)
    exact bodyPost_ret (results_cell_row rfl _ _ (w.heap.size + 2) 50 #[.bool nb, .slice a2 n2 c2] (0, 0) _ rfl (setRow_heap _ _ _ _ _ _ hBW) Tryz.underlying50 rfl (by kernel_rfl)) rfl ⟨_, rfl, hR.out, hEW.out⟩
set_option maxHeartbeats 3200000 in
theorem rminusI_c (v1 v2 : Value) (X Y : Int) (w : World) (hX : nl X ≤ 1073741824) (hY : nl Y ≤ 1073741824) (h1 : IntR w v1 X) (h2 : IntR w v2 Y) :
  Calls Tryz.prog 218 #[v1, v2] w fun e w' => ∃ v, e = .returned v ∧ IntR w' v (X - Y) ∧ Ext w w' := by
 obtain ⟨bx, a1, n1, c1, rfl⟩ := h1.shape
 obtain ⟨bY, a2, n2, c2, rfl⟩ := h2.shape
 have TN := mK (fun W (e : Ext w W) => rturnedI_c _ Y W hY (h2.ext e))
 have PL := mK (fun v W (e : Ext w W) h => rplusI_c _ v X (-Y) W hX (by unfold nl at *; simpa using hY) (h1.ext e) h)
 rw [← Int.sub_eq_add_neg] at PL
 clear h1 h2 hX hY
 go_enter Tryz.func218, Tryz.ntmps218
 go_wp2_with fail
 obtain ⟨wb, hwb⟩ : ∃ wb, wb = ((w.alloc (.cells #[.bool bx, .slice a1 n1 c1] 50)).alloc (.cells #[.bool bY, .slice a2 n2 c2] 50)).alloc (.cells #[.bool false, .slice none 0 0] 50) := ⟨_, rfl⟩
 have hE : Ext w wb := by rw [hwb]; exact (((xR w).al _).al _).al _
 have h00 : ∀ W, Ext wb W → W.cell? ⟨w.heap.size, 0, none⟩ = some (.bool bx) := fun W e => e.cell (by rw [hwb]; go_simp)
 have h01 : ∀ W, Ext wb W → W.cell? ⟨w.heap.size, 1, none⟩ = some (.slice a1 n1 c1) := fun W e => e.cell (by rw [hwb]; go_simp)
 have h10 : ∀ W, Ext wb W → W.cell? ⟨w.heap.size + 1, 0, none⟩ = some (.bool bY) := fun W e => e.cell (by rw [hwb]; go_simp)
 have h11 : ∀ W, Ext wb W → W.cell? ⟨w.heap.size + 1, 1, none⟩ = some (.slice a2 n2 c2) := fun W e => e.cell (by rw [hwb]; go_simp)
 have hB : ∀ W, Ext wb W → W.heap[w.heap.size + 2]? = some (.cells #[.bool false, .slice none 0 0] 50) := fun W e => e.blk (by rw [hwb]; exact heap_at _ _ _ (by simp))
 rw [← hwb]
 clear hwb
 replace hB := mK hB
 replace hE := mK hE
 apply region_ext [.val _, .val _, .pred (fun W v => IntR W v (-Y)), .pred (fun W v => IntR W v (X - Y))] (by kernel_rfl) (stable_vals _ (stable_vals _ (st_intRG _ (st_intRG _ trivial))))
 iterate 2 (refine ⟨fun W hW _ => by go_simp; exact ⟨xR _, rfl⟩, ?_⟩)
 refine ⟨fun W hW _ => ?g6, fun v6 => ⟨fun W hW hF => ?g7, fun v7 => fun W hW hF => ?fin⟩⟩
 case g6 =>
  go_simp
  refine (TN.out W (hE.out.trans hW)).mono ?_
  rintro e w' ⟨v, rfl, h1, h2⟩
  exact ⟨v, rfl, h2, h1⟩
 case g7 =>
  have d6 : IntR W v6 (-Y) := hF.1 (by kernel_rfl)
  replace d6 := mK d6
  clear hF
  go_simp
  refine (PL.out v6 W (hE.out.trans hW) d6.out).mono ?_
  rintro e w' ⟨v, rfl, h1, h2⟩
  exact ⟨v, rfl, h2, h1⟩
 case fin =>
  have d7 : IntR W v7 (X - Y) := hF.1 rfl
  have hBW := hB.out W hW
  have hEW0 := hE.out.trans hW
  clear hF h00 h01 h10 h11 TN PL hW
  go_simp
  obtain ⟨nb, a2, n2, c2, rfl⟩ := d7.shape
  have hR := d7.flat hBW (by simp [flatV]) #[.bool nb, .slice a2 n2 c2]
  have hEW := hEW0.row (show w.heap.size ≤ w.heap.size + 2 by omega) #[.bool nb, .slice a2 n2 c2]
  replace hR := mK hR
  replace hEW := mK hEW
  clear d7 hEW0
  go_wp2_with (refine wpList_store_row rfl 50 (.tmp 4) (.tmp 8) rfl (w.heap.size + 2) #[.bool nb, .slice a2 n2 c2] rfl rfl 50 _ hBW (by kernel_rfl) rfl (by kernel_rfl) ?_)
  exact bodyPost_ret (results_cell_row rfl _ _ (w.heap.size + 2) 50 #[.bool nb, .slice a2 n2 c2] (0, 0) _ rfl (setRow_heap _ _ _ _ _ _ hBW) Tryz.underlying50 rfl (by kernel_rfl)) rfl ⟨_, rfl, hR.out, hEW.out⟩
theorem RestR.raw {w : World} {v : Value} {n : Nat} (h : RestR w v n) (hl : (lim n).length ≤ 4294967296) : RawR w v n := by
 obtain ⟨a, c, h1, h2, h3⟩ := h.r
 exact RawR.lims ⟨a, c, h1, h2, h3⟩ hl
theorem st_intN {ss : List FSpec} (x : Int) (lo : Nat) (h : StableAll Ext ss) : StableAll Ext (.pred (fun W v => IntR W v x ∧ NewI lo v) :: ss) := ⟨fun _ _ _ e h => ⟨h.1.ext e, h.2⟩, h⟩
set_option maxHeartbeats 3200000 in
theorem rdivI_k (v1 v2 : Value) (X Y : Int) (w : World) (hX : nl X ≤ 536870912) (hY : nl Y ≤ 536870912) (hY0 : Y ≠ 0) (h1 : IntR w v1 X) (h2 : IntR w v2 Y) :
  Calls Tryz.prog 188 #[v1, v2] w fun e w' => ∃ q r, e = .returned (.tuple #[q, r]) ∧ IntR w' q (X.tdiv Y) ∧ IntR w' r (X.tmod Y) ∧ Ext w w' ∧ NewI w.heap.size q := by
 obtain ⟨s1, rfl, a1, c1, rfl, _, r1⟩ := h1
 obtain ⟨s2, rfl, a2, c2, rfl, _, r2⟩ := h2
 have hsq := sg_tdiv X Y
 have hsr := sg_tmod X Y
 have hXl : (lim X.natAbs).length ≤ 536870912 := hX
 have hYl : (lim Y.natAbs).length ≤ 536870912 := hY
 have hq := lim_mono (Nat.div_le_self X.natAbs Y.natAbs)
 have hr := lim_mono (Nat.mod_le X.natAbs Y.natAbs)
 obtain ⟨bx, hbx⟩ : ∃ b, b = decide (X < 0) := ⟨_, rfl⟩
 obtain ⟨bY, hbY⟩ : ∃ b, b = decide (Y < 0) := ⟨_, rfl⟩
 rw [← hbx, ← hbY] at hsq
 rw [← hbx] at hsr
 rw [← hbx, ← hbY]
 have DV := mK (fun W (e : Ext w W) => rdivide_k a1 a2 c1 c2 X.natAbs Y.natAbs W hX hY (by omega) (r1.ext e) (r2.ext e))
 have SQ := mK (fun s W h => rsigned_raw_k (bx != bY) s (X.natAbs / Y.natAbs) W h)
 have SR := mK (fun s W h => rsigned_raw bx s (X.natAbs % Y.natAbs) W h)
 rw [hsq] at SQ
 rw [hsr] at SR
 clear hsq hsr hbx hbY hX hY r1 r2
 generalize (lim X.natAbs).length = n1 at *
 generalize (lim Y.natAbs).length = n2 at *
 generalize X.natAbs / Y.natAbs = Q at *
 generalize X.natAbs % Y.natAbs = R at *
 go_enter Tryz.func188, Tryz.ntmps188
 go_wp2_with fail
 obtain ⟨wb, hwb⟩ : ∃ wb, wb = (((w.alloc (.cells #[.bool bx, .slice a1 n1 c1] 50)).alloc (.cells #[.bool bY, .slice a2 n2 c2] 50)).alloc (.cells #[.bool false, .slice none 0 0] 50)).alloc (.cells #[.bool false, .slice none 0 0] 50) := ⟨_, rfl⟩
 have hE : Ext w wb := by rw [hwb]; exact ((((xR w).al _).al _).al _).al _
 have h00 : ∀ W, Ext wb W → W.cell? ⟨w.heap.size, 0, none⟩ = some (.bool bx) := fun W e => e.cell (by rw [hwb]; go_simp)
 have h10 : ∀ W, Ext wb W → W.cell? ⟨w.heap.size + 1, 0, none⟩ = some (.bool bY) := fun W e => e.cell (by rw [hwb]; go_simp)
 have hB2 : ∀ W, Ext wb W → W.heap[w.heap.size + 2]? = some (.cells #[.bool false, .slice none 0 0] 50) := fun W e => e.blk (by rw [hwb]; exact (heap_alloc_old _ _ (by simp)).trans (heap_at _ _ _ (by simp)))
 have hB3 : ∀ W, Ext wb W → W.heap[w.heap.size + 3]? = some (.cells #[.bool false, .slice none 0 0] 50) := fun W e => e.blk (by rw [hwb]; exact heap_at _ _ _ (by simp))
 rw [← hwb]
 clear hwb
 replace hB2 := mK hB2
 replace hB3 := mK hB3
 replace hE := mK hE
 refine (DV.out _ hE.out).mono ?_
 rintro e w1 ⟨vq, vr, rfl, hq1, hr1, he1, hnv⟩
 replace hnv := mK (show NewV w.heap.size vq from fun g hg => nT hE.out.size (hnv g hg))
 have dq := mK (hq1.raw (by omega))
 have dr := mK (hr1.raw (by omega))
 replace h00 := fun W (e : Ext w1 W) => h00 W (he1.trans e)
 replace h10 := fun W (e : Ext w1 W) => h10 W (he1.trans e)
 replace hB2 := mK (fun W (e : Ext w1 W) => hB2.out W (he1.trans e))
 replace hB3 := mK (fun W (e : Ext w1 W) => hB3.out W (he1.trans e))
 replace hE := mK (hE.out.trans he1)
 clear hq1 hr1 he1 DV
 go_wp2_with fail
 apply region_ext [.val _, .val _, .val _, .val _, .val _, .val _, .pred (fun W v => IntR W v (X.tdiv Y) ∧ NewI w.heap.size v), .val _, .val _, .val _, .pred (fun W v => IntR W v (X.tmod Y))] (by kernel_rfl) (stable_vals _ (stable_vals _ (stable_vals _ (stable_vals _ (stable_vals _ (stable_vals _ (st_intN _ _ (stable_vals _ (stable_vals _ (stable_vals _ (st_intRG _ trivial)))))))))))
 iterate 6 (refine ⟨fun W hW _ => by go_simp; exact ⟨xR _, rfl⟩, ?_⟩)
 refine ⟨fun W hW _ => ?g6, fun v6 => ?_⟩
 case g6 =>
  go_simp
  refine (SQ.out vq W (dq.out.ext hW)).mono ?_
  rintro e w' ⟨v, rfl, h1, h2, h3⟩
  exact ⟨v, rfl, h2, h1, h3 _ hnv.out⟩
 iterate 3 (refine ⟨fun W hW _ => by go_simp; exact ⟨xR _, rfl⟩, ?_⟩)
 refine ⟨fun W hW _ => ?g10, fun v10 => fun W hW hF => ?fin⟩
 case g10 =>
  go_simp
  refine (SR.out vr W (dr.out.ext hW)).mono ?_
  rintro e w' ⟨v, rfl, h1, h2⟩
  exact ⟨v, rfl, h2, h1⟩
 case fin =>
  have d6' : IntR W v6 (X.tdiv Y) ∧ NewI w.heap.size v6 := hF.2.1 rfl
  obtain ⟨d6, d6n⟩ := d6'
  replace d6n := mK d6n
  have d10 : IntR W v10 (X.tmod Y) := hF.1 rfl
  have b2 := hB2.out W hW
  have b3 := hB3.out W hW
  obtain ⟨q1, q2, q3, q4, rfl⟩ := d6.shape
  obtain ⟨r1, r2, r3, r4, rfl⟩ := d10.shape
  have hrows := two_rows W (w.heap.size + 2) (w.heap.size + 3) #[.bool q1, .slice q2 q3 q4] #[.bool r1, .slice r2 r3 r4] _ _ _ (by omega) b2 b3
  have F1 := (d6.flat b2 (by simp [flatV]) #[.bool q1, .slice q2 q3 q4]).flat hrows.2.2 (by simp [flatV]) #[.bool r1, .slice r2 r3 r4]
  have F2 := (d10.flat b2 (by simp [flatV]) #[.bool q1, .slice q2 q3 q4]).flat hrows.2.2 (by simp [flatV]) #[.bool r1, .slice r2 r3 r4]
  have FE := ((hE.out.trans hW).row (show w.heap.size ≤ w.heap.size + 2 by omega) #[.bool q1, .slice q2 q3 q4]).row (show w.heap.size ≤ w.heap.size + 3 by omega) #[.bool r1, .slice r2 r3 r4]
  replace F1 := mK F1
  replace F2 := mK F2
  replace FE := mK FE
  replace hrows := mK hrows
  replace b2 := mK b2
  clear d6 d10 hF h00 h10 SQ SR hW b3
  go_simp
  go_wp2_with (first
   | (refine wpList_store_row rfl 50 (.tmp 4) (.tmp 22) rfl (w.heap.size + 2) #[.bool q1, .slice q2 q3 q4] rfl rfl 50 _ b2.out (by kernel_rfl) rfl (by kernel_rfl) ?_)
   | (refine wpList_store_row rfl 50 (.tmp 5) (.tmp 26) rfl (w.heap.size + 3) #[.bool r1, .slice r2 r3 r4] rfl rfl 50 _ hrows.out.2.2 (by kernel_rfl) rfl (by kernel_rfl) ?_))
  exact bodyPost_ret (results_two rfl _ _ (w.heap.size + 2) (w.heap.size + 3) 50 #[.bool q1, .slice q2 q3 q4] #[.bool r1, .slice r2 r3 r4] _ rfl rfl hrows.out.1 hrows.out.2.1 Tryz.underlying50 rfl (by kernel_rfl) (by kernel_rfl)) rfl ⟨_, _, rfl, F1.out, F2.out, FE.out, d6n.out⟩
theorem rdivI_c (v1 v2 : Value) (X Y : Int) (w : World) (hX : nl X ≤ 536870912) (hY : nl Y ≤ 536870912) (hY0 : Y ≠ 0) (h1 : IntR w v1 X) (h2 : IntR w v2 Y) :
  Calls Tryz.prog 188 #[v1, v2] w fun e w' => ∃ q r, e = .returned (.tuple #[q, r]) ∧ IntR w' q (X.tdiv Y) ∧ IntR w' r (X.tmod Y) ∧ Ext w w' :=
 (rdivI_k v1 v2 X Y w hX hY hY0 h1 h2).mono fun _ _ ⟨q, r, h1, h2, h3, h4, _⟩ => ⟨q, r, h1, h2, h3, h4⟩
end Go.Proofs.YtjelnmokcpoofaaGreatDoor
