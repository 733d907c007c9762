/-
  law25: filled: a catalogue of what goes of a list, and the parts that went in. Near's closure off: how far a part's power is from another one. cmp.Or of three numbers; Near's closure that compares two parts. slices.MinFunc at parts, by Near's comparison. The catalogue's Near.
-/
import Derived.Test.YtjelnmokcpoofaaGreatDoorKAM
import Derived.Test.YtjelnmokcpoofaaGreatDoorKAI
import Derived.Test.YtjelnmokcpoofaaGreatDoorKAE
import Derived.Test.YtjelnmokcpoofaaGreatDoorKAC
import Derived.Test.YtjelnmokcpoofaaGreatDoorKAH
import Derived.Laws.EntriesVeiled
namespace Go.Proofs.YtjelnmokcpoofaaGreatDoor
set_option maxRecDepth 100000
open Go Go.RowKit Go.Proofs
/-- A part that reads so. -/
def PartIn (w : World) (v : Value) (r : RD) : Prop := ∃ p q : FV, v = .agg #[.string r.nm, .int .u8 r.kd, .bool p.b1, .slice p.a1 p.n1 p.c1, .bool p.b2, .slice p.a2 p.n2 p.c2, .bool q.b1, .slice q.a1 q.n1 q.c1, .bool q.b2, .slice q.a2 q.n2 q.c2, .int .i64 r.co] ∧ AnyF w (.agg #[.bool p.b1, .slice p.a1 p.n1 p.c1, .bool p.b2, .slice p.a2 p.n2 p.c2]) r.op ∧ AnyF w (.agg #[.bool q.b1, .slice q.a1 q.n1 q.c1, .bool q.b2, .slice q.a2 q.n2 q.c2]) r.oq ∧ r.nm.size ≤ 9223372036854775807
theorem PartIn.ext {w w' : World} {v : Value} {r : RD} (h : PartIn w v r) (e : Ext w w') : PartIn w' v r := by
  obtain ⟨p, q, h0, h1, h2, h3⟩ := h
  exact ⟨p, q, h0, h1.ext e, h2.ext e, h3⟩
structure InD (w : World) (s : Value) (xs : List (RD × Value)) : Prop where
  at' : ∃ a c, s = .slice a xs.length c ∧ xs.length ≤ c ∧ Row w a (cellsV (xs.map (·.2)))
  part : ∀ x ∈ xs, PartIn w x.2 x.1
theorem InD.is {w : World} {s : Value} {xs : List (RD × Value)} (h : InD w s xs) : Is11 (xs.map (·.2)) := fun v hv => by
  obtain ⟨x, hx, rfl⟩ := List.mem_map.1 hv
  obtain ⟨p, q, e, -⟩ := h.part x hx
  exact ⟨_, _, _, p, q, e⟩
theorem InD.ext {w w' : World} {s : Value} {xs : List (RD × Value)} (h : InD w s xs) (e : Ext w w') : InD w' s xs := by
  obtain ⟨⟨a, c, h1, h2, h3⟩, hp⟩ := h
  exact ⟨⟨a, c, h1, h2, h3.ext e⟩, fun x hx => (hp x hx).ext e⟩
theorem row_range {w : World} {a : Option Addr} {vs : List Value} (h : Row w a (cellsV vs)) (his : Is11 vs) {k : Nat} (hk : k < vs.length) : ∃ b o, a = some ⟨b, o, none⟩ ∧ w.rangeAt b (o + k * 11) vs[k].cells.toList := by
  obtain ⟨b, o, ha, hr⟩ := h
  have hl := cellsV_len his
  have hne : cellsV vs ≠ [] := by intro e; rw [e, List.length_nil] at hl; omega
  refine ⟨b, o, ha hne, fun j v hv => ?_⟩
  have hcl : vs[k].cells.toList.length = 11 := by
    obtain ⟨nm, kd, co, p, q, e⟩ := his vs[k] (List.getElem_mem hk)
    rw [e]
    rfl
  have hj : j < 11 := by have := (List.getElem?_eq_some_iff.1 hv).1; omega
  have h1 := hr (k * 11 + j) (by omega)
  have h2 := cellsV_at his hk j hj
  rw [List.getD_eq_getElem?_getD, h2] at h1
  have h3 : vs[k].cells[j]? = some v := by simpa using hv
  rw [h3] at h1
  rw [Nat.add_assoc]
  exact h1
theorem InD.get {w : World} {s : Value} {xs : List (RD × Value)} (h : InD w s xs) {k : Nat} (hk : k < xs.length) : ∃ b o c, s = .slice (some ⟨b, o, none⟩) xs.length c ∧ xs.length ≤ c ∧ w.rangeAt b (o + k * 11) xs[k].2.cells.toList := by
  obtain ⟨a, c, rfl, hc, hr⟩ := h.at'
  obtain ⟨b, o, rfl, h2⟩ := row_range hr h.is (k := k) (by simpa using hk)
  refine ⟨b, o, c, rfl, hc, ?_⟩
  simpa using h2
/-- A part goes in, or it does not: for three reasons. -/
theorem goes_cases (r : RD) : nameB r.nm.data.toList = false ∨ (nameB r.nm.data.toList = true ∧ mayP r.kd r.co r.op r.oq = false) ∨
    (nameB r.nm.data.toList = true ∧ ∃ p q, r.op = some p ∧ r.oq = some q ∧ mayP r.kd r.co (some p) (some q) = true ∧ goesD r = some ⟨r.nm, r.kd, p, q, r.co⟩) := by
  cases h1 : nameB r.nm.data.toList with
  | false => exact .inl rfl
  | true =>
    cases h2 : mayP r.kd r.co r.op r.oq with
    | false => exact .inr (.inl ⟨rfl, rfl⟩)
    | true =>
      refine .inr (.inr ⟨rfl, ?_⟩)
      have hsome : [r.op, r.oq].all Option.isSome = true := by
        cases h3 : [r.op, r.oq].all Option.isSome with
        | true => rfl
        | false =>
          unfold mayP at h2
          rw [mayO_none r.kd h3] at h2
          simp at h2
      simp only [List.all_cons, List.all_nil, Bool.and_true, Bool.and_eq_true] at hsome
      obtain ⟨p, hp⟩ := Option.isSome_iff_exists.1 hsome.1
      obtain ⟨q, hq⟩ := Option.isSome_iff_exists.1 hsome.2
      rw [hp, hq] at h2
      refine ⟨p, q, hp, hq, h2, ?_⟩
      unfold goesD
      rw [hp, hq]
      simp [h1, h2]
theorem put_no (r : RD) (p q : FV) (w : World) (g M : Nat) (es : List (PD × Value)) (h : Cat w g M es) (h1 : AnyF w (.agg #[.bool p.b1, .slice p.a1 p.n1 p.c1, .bool p.b2, .slice p.a2 p.n2 p.c2]) r.op) (h2 : AnyF w (.agg #[.bool q.b1, .slice q.a1 q.n1 q.c1, .bool q.b2, .slice q.a2 q.n2 q.c2]) r.oq) (hs : r.nm.size ≤ 9223372036854775807)
    (hr : ∀ d, goesD r = some d → (findP d.nm es).isSome = true ∨ 64 ≤ es.length) :
    Calls Tryz.prog 29 #[.pointer (some ⟨g, 0, none⟩), .agg #[.string r.nm, .int .u8 r.kd, .bool p.b1, .slice p.a1 p.n1 p.c1, .bool p.b2, .slice p.a2 p.n2 p.c2, .bool q.b1, .slice q.a1 q.n1 q.c1, .bool q.b2, .slice q.a2 q.n2 q.c2, .int .i64 r.co]] w fun e w' => ∃ c : Int, e = .returned (.int .i64 c) ∧ c ≠ 0 ∧ Ext w w' := by
  rcases goes_cases r with hn | ⟨hn, hm⟩ | ⟨hn, x, y, hx, hy, hm, hg⟩
  · refine (put_name p q r.nm r.kd r.co r.op r.oq w g M es h h1 h2 hs hn).mono ?_
    rintro e w' ⟨rfl, hE⟩
    exact ⟨9, rfl, by decide, hE⟩
  · refine (put_arg p q r.nm r.kd r.co r.op r.oq w g M es h h1 h2 hs hn hm).mono ?_
    rintro e w' ⟨rfl, hE⟩
    exact ⟨1, rfl, by decide, hE⟩
  · have hr := hr _ hg
    cases hf : findP r.nm es with
    | some z =>
      refine (put_twice p q r.nm r.kd r.co r.op r.oq w g M es h h1 h2 hs hn (by rw [hx, hy]; exact hm) z hf).mono ?_
      rintro e w' ⟨rfl, hE⟩
      exact ⟨10, rfl, by decide, hE⟩
    | none =>
      have hl : 64 ≤ es.length := by
        rcases hr with hr | hr
        · simp only at hr
          rw [hf] at hr
          cases hr
        · exact hr
      refine (put_full p q r.nm r.kd r.co r.op r.oq w g M es h h1 h2 hs hn (by rw [hx, hy]; exact hm) hf hl).mono ?_
      rintro e w' ⟨rfl, hE⟩
      exact ⟨12, rfl, by decide, hE⟩
/-- What goes in may be, and reads so. -/
theorem goes_part {r : RD} {d : PD} {p q : FV} {w : World} (h1 : AnyF w (.agg #[.bool p.b1, .slice p.a1 p.n1 p.c1, .bool p.b2, .slice p.a2 p.n2 p.c2]) r.op) (h2 : AnyF w (.agg #[.bool q.b1, .slice q.a1 q.n1 q.c1, .bool q.b2, .slice q.a2 q.n2 q.c2]) r.oq) (hg : goesD r = some d) :
    d.nm = r.nm ∧ d.kd = r.kd ∧ d.co = r.co ∧ okPD d ∧ FracR w (.agg #[.bool p.b1, .slice p.a1 p.n1 p.c1, .bool p.b2, .slice p.a2 p.n2 p.c2]) d.p ∧ FracR w (.agg #[.bool q.b1, .slice q.a1 q.n1 q.c1, .bool q.b2, .slice q.a2 q.n2 q.c2]) d.q := by
  unfold goesD at hg
  split at hg
  · rename_i x y hx hy
    split at hg
    · rename_i hc
      cases hg
      rw [hx] at h1
      rw [hy] at h2
      obtain ⟨f1, n1⟩ := h1.frac
      obtain ⟨f2, n2⟩ := h2.frac
      rw [Bool.and_eq_true] at hc
      exact ⟨rfl, rfl, rfl, ⟨n1, n2, hc.1, hc.2⟩, f1, f2⟩
    · cases hg
  · cases hg
theorem put_in (r : RD) (p q : FV) (w : World) (g M : Nat) (es : List (PD × Value)) (h : Cat w g M es) (h1 : AnyF w (.agg #[.bool p.b1, .slice p.a1 p.n1 p.c1, .bool p.b2, .slice p.a2 p.n2 p.c2]) r.op) (h2 : AnyF w (.agg #[.bool q.b1, .slice q.a1 q.n1 q.c1, .bool q.b2, .slice q.a2 q.n2 q.c2]) r.oq) (hs : r.nm.size ≤ 9223372036854775807)
    (d : PD) (hg : goesD r = some d) (hf : findP d.nm es = none) (hl : es.length < 64) :
    Calls Tryz.prog 29 #[.pointer (some ⟨g, 0, none⟩), .agg #[.string r.nm, .int .u8 r.kd, .bool p.b1, .slice p.a1 p.n1 p.c1, .bool p.b2, .slice p.a2 p.n2 p.c2, .bool q.b1, .slice q.a1 q.n1 q.c1, .bool q.b2, .slice q.a2 q.n2 q.c2, .int .i64 r.co]] w fun e w' => e = .returned (.int .i64 0) ∧ ∃ v, PartK w.heap.size w' v d ∧ Cat w' g M (insP (d, v) es) ∧ Chg w w' (· = M) := by
  obtain ⟨e1, e2, e3, hok, f1, f2⟩ := goes_part h1 h2 hg
  have := put_ok p q d w g M es h f1 f2 hok (by rw [e1]; exact hs) hf hl
  rw [e1, e2, e3] at this
  exact this
theorem owns11_lt {w : World} {lo E n : Nat} {v : Value} {xs : List Value} (h : w.ownsRow lo E 11 v n xs) : ∀ g, v.ownBlock = some g → lo ≤ g ∧ g < w.heap.size := by
  intro g hg
  rcases h.2 with ⟨rfl, _⟩ | ⟨g', cap, cur, rfl, a2, a3, _⟩
  · cases hg
  · cases hg
    exact ⟨a2, (Array.getElem?_eq_some_iff.1 a3).1⟩
/-- The parts that went in, in a row of their own; the catalogue's blocks are others. -/
structure Went (w0 w : World) (g M : Nat) (es : List (PD × Value)) (s : Value) (ins : List (PD × Value)) : Prop where
  cat : Cat w g M es
  row : w.ownsRow w0.heap.size 56 11 s ins.length (cellsP ins)
  part : ∀ x ∈ ins, PartR w0 x.2 x.1 ∧ okPD x.1
  perm : (es.map (·.1)).Perm (ins.map (·.1))
  own : ∀ k, s.ownBlock = some k → ¬ catB g M es k
  ext : Ext w0 w
  lo : w0.heap.size ≤ g ∧ w0.heap.size ≤ M
theorem Went.same {w0 w w' : World} {g M : Nat} {es : List (PD × Value)} {s : Value} {ins : List (PD × Value)} (h : Went w0 w g M es s ins) (e : Ext w w') : Went w0 w' g M es s ins :=
  ⟨h.cat.ext e, ownsRow_ext h.row e, h.part, h.perm, h.own, h.ext.trans e, h.lo⟩
theorem Went.put {w0 w w3 w4 : World} {g M : Nat} {es : List (PD × Value)} {s s' : Value} {ins : List (PD × Value)} {d : PD} {v u : Value} {o : Obj} (h : Went w0 w g M es s ins)
    (hk : PartK w.heap.size w3 v d) (hc : Cat w3 g M (insP (d, v) es)) (ht : Chg w w3 (· = M)) (hu : PartR w0 u d) (hok : okPD d)
    (hown : w4.ownsRow w0.heap.size 56 11 s' (ins.length + 1) (cellsP ins ++ u.cells.toList)) (hg : (w3.alloc o).grownBy w4 s.ownBlock) (ha : s'.ownBlock = s.ownBlock ∨ s'.ownBlock = some (w3.alloc o).heap.size) :
    Went w0 w4 g M (insP (d, v) es) s' (ins ++ [(d, u)]) := by
  have hw3 : Ext w0 w3 := ht.ext w0 h.ext (fun k hk e => by have := h.lo.2; omega)
  have hblk : ∀ k, s.ownBlock = some k → w0.heap.size ≤ k ∧ k < w.heap.size := owns11_lt h.row
  have hcb : ∀ k, catB g M (insP (d, v) es) k → catB g M es k ∨ w.heap.size ≤ k := by
    rintro k (hk' | hk' | ⟨x, hx, hk'⟩)
    · exact .inl (.inl hk')
    · exact .inl (.inr (.inl hk'))
    · rcases mem_insP.1 hx with rfl | hx
      · exact .inr (hk.span k hk').1
      · exact .inl (.inr (.inr ⟨x, hx, hk'⟩))
  have hno : ∀ k, s.ownBlock = some k → ¬ catB g M (insP (d, v) es) k := by
    intro k hk' hb
    rcases hcb k hb with hb | hb
    · exact h.own k hk' hb
    · have := (hblk k hk').2
      omega
  have hsz : w3.heap.size < (w3.alloc o).heap.size := by simp
  have hcat : Cat w4 g M (insP (d, v) es) := hc.near (Nat.le_trans (Nat.le_of_lt hsz) hg.size) fun k hb => by
    have hlt := hc.lt k hb
    rw [hg.block k (by omega) (fun e => hno k e.symm hb), heap_alloc_old _ _ hlt]
  refine ⟨hcat, ?_, fun x hx => ?_, ?_, fun k e hb => ?_, (hw3.al o).gr hg (fun k e => (hblk k e).1), h.lo⟩
  · have e : cellsP (ins ++ [(d, u)]) = cellsP ins ++ u.cells.toList := by rw [cellsP_append]; simp [cellsP]
    rw [e, List.length_append, List.length_singleton]
    exact hown
  · rcases List.mem_append.1 hx with hx | hx
    · exact h.part x hx
    · rw [List.mem_singleton] at hx
      subst hx
      exact ⟨hu, hok⟩
  · rw [List.map_append]
    exact ins_perm h.perm d v
  · rcases ha with ha | ha
    · exact hno k (by rw [← ha]; exact e) hb
    · rw [ha] at e
      cases e
      have := hc.lt _ hb
      omega
/-- The loop over the list. -/
def FillR (w0 : World) (g M : Nat) (xs : List (RD × Value)) (t5 t6 : Value) (wr : World) : Prop :=
  ∃ (k : Nat) (es ins : List (PD × Value)), k ≤ xs.length ∧ k ≤ 200 ∧ t6 = .int .i64 k ∧ Went w0 wr g M es t5 ins ∧ ins.map (·.1) = fillD ((xs.take k).map (·.1))
def FillQ (w0 : World) (xs : List (RD × Value)) (e : Ending) (w' : World) : Prop :=
  ∃ (g M : Nat) (es ins : List (PD × Value)) (s : Value), e = .returned (.tuple #[.pointer (some ⟨g, 0, none⟩), s]) ∧ Went w0 w' g M es s ins ∧ ins.map (·.1) = fillD ((xs.take 200).map (·.1))
theorem take_snoc {xs : List (RD × Value)} {k : Nat} (hk : k < xs.length) : (xs.take (k + 1)).map (·.1) = (xs.take k).map (·.1) ++ [xs[k].1] := by
  rw [List.take_succ_eq_append_getElem hk, List.map_append]
  rfl
set_option maxHeartbeats 3200000 in
theorem filled_c (s : Value) (xs : List (RD × Value)) (w : World) (h : InD w s xs) (_hlen : xs.length ≤ 1099511627776) :
    Calls Tryz.prog 13 #[s] w (FillQ w xs) := by
  obtain ⟨i0, hi, hz0, hz1, hz2⟩ := info_parts infoPart
  have hN := mkHid (new_c w)
  obtain ⟨a, c, rfl, hcc, hrow⟩ := h.at'
  have hI := mkHid (fun W (e : Ext w W) => h.ext e)
  have hD := mkHid h
  clear h hrow
  go_enter Tryz.func13, Tryz.ntmps13
  have tok : Tok 0 := .mk _
  go_wp2_with ((have _t : Tok 0 := tok); clear _t; clear tok; (have tok : Tok 1 := .mk _); go_at_call 14; refine hN.out.mono ?_; rintro e w1 ⟨g, M, rfl, hcat, hE1, hg, hM⟩; replace hcat := mkHid hcat; replace hE1 := mkHid hE1)
  clear tok hN
  have st : FillR w g M xs (.slice none 0 0) (.int .i64 0) w1 := ⟨0, [], [], Nat.zero_le _, Nat.zero_le _, rfl, ⟨hcat.out, World.ownsRow_nil _ _ _ _, (fun x hx => by cases hx), List.Perm.refl _, (fun k e => by cases e), hE1.out, hg, hM⟩, rfl⟩
  replace st := mkHid st
  clear hcat hE1 hg hM
  go_loopw [5, 6] (fun t5 t6 wr => FillR w g M xs t5 t6 wr) (fun _ t6 _ => xs.length - (intOf t6).toNat)
  case atStart => exact st.out
  case round =>
    clear st
    obtain ⟨k, es, ins, hk, hk2, rfl, hW, hmap⟩ := hrel
    obtain ⟨w2, rfl⟩ : ∃ w2 : World, w2 = wr := ⟨_, rfl⟩
    by_cases hlt : k < xs.length
    · have hlt' : (k : Int) < (xs.length : Int) := by omega
      by_cases hlt2 : k < 200
      · have hlt2' : (k : Int) < 200 := by omega
        have hI2 := hI.out w2 hW.ext
        obtain ⟨b, o, c', e1, -, hr⟩ := hD.out.get hlt
        simp only [Value.slice.injEq, true_and] at e1
        obtain ⟨rfl, rfl⟩ := e1
        have hxm : xs[k] ∈ xs := List.getElem_mem hlt
        have hmapk := take_snoc hlt
        obtain ⟨r, u, hru⟩ : ∃ r u, xs[k] = (r, u) := ⟨_, _, rfl⟩
        rw [hru] at hr hxm hmapk
        have hpt : PartIn w2 u r := hI2.part _ hxm
        have hpt' : PartIn w u r := hD.out.part _ hxm
        obtain ⟨p, q, e0, h1, h2, hs⟩ := hpt
        obtain ⟨p', q', e0', h1', h2', -⟩ := hpt'
        subst e0
        replace hmapk : (xs.take (k + 1)).map (·.1) = (xs.take k).map (·.1) ++ [r] := hmapk
        replace hr : w.rangeAt b (o + k * 11) [.string r.nm, .int .u8 r.kd, .bool p.b1, .slice p.a1 p.n1 p.c1, .bool p.b2, .slice p.a2 p.n2 p.c2, .bool q.b1, .slice q.a1 q.n1 q.c1, .bool q.b2, .slice q.a2 q.n2 q.c2, .int .i64 r.co] := hr
        have hr2 := mkHid (rangeAt_ext hr hW.ext)
        have hgd : ∀ d, goesD r = some d → okPD d ∧ PartR w (.agg #[.string r.nm, .int .u8 r.kd, .bool p.b1, .slice p.a1 p.n1 p.c1, .bool p.b2, .slice p.a2 p.n2 p.c2, .bool q.b1, .slice q.a1 q.n1 q.c1, .bool q.b2, .slice q.a2 q.n2 q.c2, .int .i64 r.co]) d := by
          intro d hg
          obtain ⟨y1, y2, y3, y4, y5, y6⟩ := goes_part h1' h2' hg
          refine ⟨y4, ?_⟩
          rw [e0', ← y1, ← y2, ← y3]
          exact PartR.mk y5 y6
        clear hI2 e0' h1' h2' hxm hru
        have hfl : (fillD ((xs.take (k + 1)).map (·.1))) = stepIn (ins.map (·.1)) r := by
          rw [hmapk, fillD_snoc, hmap]
        by_cases hno : ∀ d, goesD r = some d → (findP d.nm es).isSome = true ∨ 64 ≤ es.length
        · have hP := mkHid (put_no r p q w2 g M es hW.cat h1 h2 hs hno)
          have hstay : stepIn (ins.map (·.1)) r = ins.map (·.1) := by
            unfold stepIn
            split
            · rfl
            · rename_i d hd
              have hx := hno d hd
              rw [find_perm hW.perm d] at hx
              rcases hx with hx | hx
              · rw [if_pos hx]
              · have := hW.perm.length_eq
                rw [List.length_map, List.length_map] at this
                split
                · rfl
                · rw [if_pos (by rw [List.length_map]; omega)]
          have hnew := mkHid (fun (w3 : World) (v6 : Value) (e : Ext w2 w3) (hv : v6 = .int .i64 ((k + 1 : Nat) : Int)) => (show FillR w g M xs u5 v6 w3 from ⟨k + 1, es, ins, by omega, by omega, hv, hW.same e, by rw [hfl, hstay]⟩))
          replace hr := mkHid hr
          clear hW hmap hgd hno hfl hstay hmapk h1 h2 hs
          have tok : Tok 2 := .mk _
          go_wp2_with (first
            | ((have _t : Tok 2 := tok); clear _t; clear tok; (have tok : Tok 3 := .mk _); refine wpList_load_mid rfl 56 (.tmp 21) rfl b (o + k * 11) rfl [.string r.nm, .int .u8 r.kd, .bool p.b1, .slice p.a1 p.n1 p.c1, .bool p.b2, .slice p.a2 p.n2 p.c2, .bool q.b1, .slice q.a1 q.n1 q.c1, .bool q.b2, .slice q.a2 q.n2 q.c2, .int .i64 r.co] _ hr2.out Tryz.underlying56 rfl (by kernel_rfl) ?_)
            | ((have _t : Tok 3 := tok); clear _t; clear tok; (have tok : Tok 4 := .mk _); go_at_call 29; refine hP.out.mono ?_; rintro e w3 ⟨cd, rfl, hne, hE3⟩; replace hE3 := mkHid hE3))
          refine ⟨hnew.out _ _ hE3.out (by go_num), by simp [intOf]; omega⟩
        · obtain ⟨d, hg, hx⟩ : ∃ d, goesD r = some d ∧ ¬ ((findP d.nm es).isSome = true ∨ 64 ≤ es.length) := by
            refine Classical.byContradiction fun hcon => hno fun d hd => Classical.byContradiction fun hcc => hcon ⟨d, hd, hcc⟩
          have hf : findP d.nm es = none := by
            cases hf : findP d.nm es with
            | none => rfl
            | some z => exact absurd (.inl (by rw [hf]; rfl)) hx
          have hl : es.length < 64 := Nat.lt_of_not_le fun e => hx (.inr e)
          have hP := mkHid (put_in r p q w2 g M es hW.cat h1 h2 hs d hg hf hl)
          obtain ⟨hok, hpr⟩ := hgd d hg
          have hgo : stepIn (ins.map (·.1)) r = ins.map (·.1) ++ [d] := by
            unfold stepIn
            rw [hg]
            have hlen2 := hW.perm.length_eq
            rw [List.length_map, List.length_map] at hlen2
            have hany : (ins.map (·.1)).any (sameN d) = false := by rw [← find_perm hW.perm d, hf]; rfl
            simp only [hany, Bool.false_eq_true, if_false]
            rw [if_neg (by rw [List.length_map]; omega)]
          have hil : ins.length < 64 := by
            have hlen2 := hW.perm.length_eq
            rw [List.length_map, List.length_map] at hlen2
            omega
          rw [hgo] at hfl
          replace hr := mkHid hr
          replace hW := mkHid hW
          replace hfl := mkHid hfl
          replace hpr := mkHid hpr
          replace hok := mkHid hok
          clear hmap hgd hno hgo hmapk h1 h2 hs hf hl hx hg
          have tok : Tok 5 := .mk _
          go_wp2_with (first
            | ((have _t : Tok 5 := tok); clear _t; clear tok; (have tok : Tok 6 := .mk _); refine wpList_load_mid rfl 56 (.tmp 21) rfl b (o + k * 11) rfl [.string r.nm, .int .u8 r.kd, .bool p.b1, .slice p.a1 p.n1 p.c1, .bool p.b2, .slice p.a2 p.n2 p.c2, .bool q.b1, .slice q.a1 q.n1 q.c1, .bool q.b2, .slice q.a2 q.n2 q.c2, .int .i64 r.co] _ hr2.out Tryz.underlying56 rfl (by kernel_rfl) ?_)
            | ((have _t : Tok 6 := tok); clear _t; clear tok; (have tok : Tok 7 := .mk _); go_at_call 29; refine hP.out.mono ?_; rintro e w3 ⟨rfl, v3, hk3, hc3, ht3⟩; (have hr3 := mkHid (rangeAt_ext hr.out (ht3.ext w hW.out.ext (fun k' hk' e' => by have := hW.out.lo.2; omega)))); replace hk3 := mkHid hk3; replace hc3 := mkHid hc3; replace ht3 := mkHid ht3)
            | ((have _t : Tok 7 := tok); clear _t; clear tok; (have tok : Tok 8 := .mk _); refine wpList_load_mid rfl 56 (.tmp 28) rfl b (o + k * 11) rfl [.string r.nm, .int .u8 r.kd, .bool p.b1, .slice p.a1 p.n1 p.c1, .bool p.b2, .slice p.a2 p.n2 p.c2, .bool q.b1, .slice q.a1 q.n1 q.c1, .bool q.b2, .slice q.a2 q.n2 q.c2, .int .i64 r.co] _ hr3.out Tryz.underlying56 rfl (by kernel_rfl) ?_)
            | ((have _t : Tok 8 := tok); clear _t; clear tok; (have tok : Tok 9 := .mk _); at_builtin; (have X := ht3.out.row hW.out.row (fun k' e e2 => hW.out.own k' e (.inr (.inl e2)))); (have Z := X.alloc (.cells #[.string r.nm, .int .u8 r.kd, .bool p.b1, .slice p.a1 p.n1 p.c1, .bool p.b2, .slice p.a2 p.n2 p.c2, .bool q.b1, .slice q.a1 q.n1 q.c1, .bool q.b2, .slice q.a2 q.n2 q.c2, .int .i64 r.co] 56)); (have U := Tryz.underlying27); refine wpList_append_own_at _ ?ya ?yb ?yc 27 ?yd w.heap.size 56 i0 zeroPart 11 160 U hi hz0 hz1 hz2 ?ye ?yf u5 ins.length (cellsP ins) ?yh Z ⟨w3.heap.size, 0, none⟩ 1 1 [.string r.nm, .int .u8 r.kd, .bool p.b1, .slice p.a1 p.n1 p.c1, .bool p.b2, .slice p.a2 p.n2 p.c2, .bool q.b1, .slice q.a1 q.n1 q.c1, .bool q.b2, .slice q.a2 q.n2 q.c2, .int .i64 r.co] ?yi ?yj ?zc1 ?zc2 ?zc3 ?zc4 ?zc5 ?_; (case ya => rfl); (case yd => rfl); (case ye => rfl); (case yf => decide); (case yh => rfl); (case yi => rfl); (case yj => rfl); (case zc1 => exact news_cells w3 _ _); (case zc2 => exact part_one ⟨r.nm, r.kd, 0, 0, r.co⟩ p q); (case zc3 => unfold maxLen; omega); (case zc4 => omega); (case zc5 => have := hW.out.ext.size; have := ht3.out.size; rw [World.size_alloc]; omega); intro v4 w4 hown4 hgrow4 _ hloc4; clear X Z U; replace hown4 := mkHid hown4; replace hgrow4 := mkHid hgrow4; replace hloc4 := mkHid hloc4))
          have hW4 := hW.out.put hk3.out hc3.out ht3.out hpr.out hok.out hown4.out hgrow4.out hloc4.out
          refine ⟨⟨k + 1, _, _, by omega, by omega, by go_num, hW4, by rw [hfl.out, List.map_append]; rfl⟩, by simp [intOf]; omega⟩
      · have hk3 : k = 200 := by omega
        subst hk3
        have hq : FillQ w xs (.returned (.tuple #[.pointer (some ⟨g, 0, none⟩), u5])) w2 := ⟨g, M, es, ins, u5, rfl, hW, hmap⟩
        replace hq := mkHid hq
        clear hW hmap
        go_wp2_with fail
        go_ret2
        exact hq.out
    · have hk3 : k = xs.length := by omega
      subst hk3
      have hq : FillQ w xs (.returned (.tuple #[.pointer (some ⟨g, 0, none⟩), u5])) w2 := ⟨g, M, es, ins, u5, rfl, hW, by rw [hmap, List.take_length, List.take_of_length_le (by omega)]⟩
      replace hq := mkHid hq
      clear hW hmap
      go_wp2_with fail
      go_ret2
      exact hq.out
end Go.Proofs.YtjelnmokcpoofaaGreatDoor
namespace Go.Proofs.YtjelnmokcpoofaaGreatDoor
set_option maxRecDepth 100000
open Go Go.RowKit Go.Proofs
theorem rabs_num (q : Rat) : (rabs q).num = (q.num.natAbs : Int) ∧ (rabs q).den = q.den := by
  unfold rabs
  split
  · rename_i h
    rw [Rat.neg_num, Rat.neg_den]
    exact ⟨by omega, rfl⟩
  · exact ⟨by omega, rfl⟩
theorem rabs_nf (q : Rat) : nf (rabs q) = nf q := by
  obtain ⟨h1, h2⟩ := rabs_num q
  unfold nf
  rw [h1, h2]
  unfold nl
  simp
theorem rabs_frac {w : World} {r : FV} {q : Rat} (h : FracR w (.agg #[.bool r.b1, .slice r.a1 r.n1 r.c1, .bool r.b2, .slice r.a2 r.n2 r.c2]) q) : FracR w (.agg #[.bool false, .slice r.a1 r.n1 r.c1, .bool r.b2, .slice r.a2 r.n2 r.c2]) (rabs q) := by
  obtain ⟨h1, h2⟩ := rabs_num q
  obtain ⟨b1, a1, n1, c1, b2, a2, n2, c2, e, k1, k2⟩ := h
  simp only [Value.agg.injEq, Array.mk.injEq, List.cons.injEq, and_true, Value.bool.injEq, Value.slice.injEq] at e
  obtain ⟨rfl, ⟨rfl, rfl, rfl⟩, rfl, rfl, rfl, rfl⟩ := e
  refine ⟨_, _, _, _, _, _, _, _, rfl, ?_, by rw [h2]; exact k2⟩
  obtain ⟨s, e, k⟩ := k1
  simp only [Value.agg.injEq, Array.mk.injEq, List.cons.injEq, and_true, Value.bool.injEq] at e
  obtain ⟨-, rfl⟩ := e
  refine ⟨_, ?_, by rw [h1, Int.natAbs_natCast]; exact k⟩
  rw [h1]
  simp
set_option maxHeartbeats 1600000 in
theorem off_c (d : PD) (p q pw : FV) (x : Rat) (gp : Nat) (w : World) (hp : nf d.p ≤ 2048) (hx : nf x ≤ 2048) (h1 : FracR w (.agg #[.bool p.b1, .slice p.a1 p.n1 p.c1, .bool p.b2, .slice p.a2 p.n2 p.c2]) d.p) (h2 : FracR w (.agg #[.bool pw.b1, .slice pw.a1 pw.n1 pw.c1, .bool pw.b2, .slice pw.a2 pw.n2 pw.c2]) x) (zp : w.heap[gp]? = some (.cells #[.bool pw.b1, .slice pw.a1 pw.n1 pw.c1, .bool pw.b2, .slice pw.a2 pw.n2 pw.c2] 52 (0, 0))) :
    Calls Tryz.prog 61 #[.agg #[.string d.nm, .int .u8 d.kd, .bool p.b1, .slice p.a1 p.n1 p.c1, .bool p.b2, .slice p.a2 p.n2 p.c2, .bool q.b1, .slice q.a1 q.n1 q.c1, .bool q.b2, .slice q.a2 q.n2 q.c2, .int .i64 d.co], .pointer (some ⟨gp, 0, none⟩)] w fun e w' => ∃ v, e = .returned v ∧ FracR w' v (offP x d) ∧ Ext w w' := by
  obtain ⟨w1, hw1⟩ : ∃ w1, w1 = (w.alloc (.cells #[.string d.nm, .int .u8 d.kd, .bool p.b1, .slice p.a1 p.n1 p.c1, .bool p.b2, .slice p.a2 p.n2 p.c2, .bool q.b1, .slice q.a1 q.n1 q.c1, .bool q.b2, .slice q.a2 q.n2 q.c2, .int .i64 d.co] 56)).alloc (.cells #[.bool false, .slice none 0 0, .bool false, .slice none 0 0] 52) := ⟨_, rfl⟩
  have hE : Ext w w1 := by rw [hw1]; exact ((Ext.refl w).al _).al _
  have z0 := mkHid (show w1.heap[w.heap.size]? = some (.cells #[.string d.nm, .int .u8 d.kd, .bool p.b1, .slice p.a1 p.n1 p.c1, .bool p.b2, .slice p.a2 p.n2 p.c2, .bool q.b1, .slice q.a1 q.n1 q.c1, .bool q.b2, .slice q.a2 q.n2 q.c2, .int .i64 d.co] 56 (0, 0)) by rw [hw1]; exact (heap_alloc_old _ _ (by simp)).trans (heap_alloc_new _ _))
  have zR := mkHid (show w1.heap[w.heap.size + 1]? = some (.cells #[.bool false, .slice none 0 0, .bool false, .slice none 0 0] 52 (0, 0)) by rw [hw1]; exact heap_at _ _ _ (by simp))
  have zP := mkHid (hE.blk zp)
  have hsz := mkHid (show w1.heap.size = w.heap.size + 2 by rw [hw1]; simp)
  have hM := mkHid (minus_f (.agg #[.bool p.b1, .slice p.a1 p.n1 p.c1, .bool p.b2, .slice p.a2 p.n2 p.c2]) (.agg #[.bool pw.b1, .slice pw.a1 pw.n1 pw.c1, .bool pw.b2, .slice pw.a2 pw.n2 pw.c2]) d.p x w1 (Nat.le_trans hp (by decide)) (Nat.le_trans hx (by decide)) (h1.ext hE) (h2.ext hE))
  replace hw1 := mkHid hw1
  replace hE := mkHid hE
  clear h1 h2 zp hp hx
  go_enter Tryz.func61, Tryz.ntmps61
  have tok : Tok 0 := .mk _
  go_wp2_with (first
    | ((have _t : Tok 0 := tok); clear _t; clear tok; (have tok : Tok 1 := .mk _); rw [← hw1.out]; refine wpList_load_sub (by rfl) 52 (.tmp 6) rfl w.heap.size 2 ?za 56 _ #[.bool p.b1, .slice p.a1 p.n1 p.c1, .bool p.b2, .slice p.a2 p.n2 p.c2] (0, 0) _ z0.out ?zb Tryz.underlying52 rfl (by kernel_rfl) ?_; (case za => rfl); (case zb => rfl))
    | ((have _t : Tok 1 := tok); clear _t; clear tok; (have tok : Tok 2 := .mk _); refine wpList_load_row (by rfl) 52 (.tmp 1) rfl gp rfl 52 #[.bool pw.b1, .slice pw.a1 pw.n1 pw.c1, .bool pw.b2, .slice pw.a2 pw.n2 pw.c2] (0, 0) _ zP.out Tryz.underlying52 rfl (by kernel_rfl) ?_)
    | ((have _t : Tok 2 := tok); clear _t; clear tok; (have tok : Tok 3 := .mk _); go_at_call 62; refine hM.out.mono ?_; rintro e w2 ⟨v2, rfl, hE2, hv2⟩; (obtain ⟨r, rfl⟩ := hv2.r.fv);
        (obtain ⟨w3, hw3⟩ : ∃ w3, w3 = (w2.alloc (.cells #[.bool false, .slice none 0 0, .bool false, .slice none 0 0] 52)).setRow w2.heap.size #[.bool r.b1, .slice r.a1 r.n1 r.c1, .bool r.b2, .slice r.a2 r.n2 r.c2] := ⟨_, rfl⟩);
        (have hE3 : Ext w2 w3 := by rw [hw3]; exact ((Ext.refl w2).al _).row (Nat.le_refl _) _);
        (have z3 : w3.heap[w2.heap.size]? = some (.cells #[.bool r.b1, .slice r.a1 r.n1 r.c1, .bool r.b2, .slice r.a2 r.n2 r.c2] 52 (0, 0)) := by rw [hw3]; exact setRow_heap _ _ _ _ _ _ (heap_alloc_new _ _));
        (have y3 : w3.cell? ⟨w2.heap.size, 0, none⟩ = some (.bool r.b1) := row16_cells z3 0);
        (have f3 : w3.frozen? ⟨w2.heap.size, 0, none⟩ = false := by simp [World.frozen?, z3]);
        (obtain ⟨w4, hw4⟩ : ∃ w4, w4 = w3.setCell ⟨w2.heap.size, 0, none⟩ (.bool false) := ⟨_, rfl⟩);
        (have hs4 : w4 = w3.setRow w2.heap.size #[.bool false, .slice r.a1 r.n1 r.c1, .bool r.b2, .slice r.a2 r.n2 r.c2] := by rw [hw4, setCell_eq_setRow _ _ _ _ _ _ _ z3]; rfl);
        (have z4 := mkHid (show w4.heap[w2.heap.size]? = some (.cells #[.bool false, .slice r.a1 r.n1 r.c1, .bool r.b2, .slice r.a2 r.n2 r.c2] 52 (0, 0)) by rw [hs4]; exact setRow_heap _ _ _ _ _ _ z3));
        (have hE4 : Ext w2 w4 := by rw [hs4]; exact hE3.row (Nat.le_refl _) _);
        (have zR4 := mkHid (hE4.blk (hE2.blk zR.out)));
        (have hE5 := mkHid ((hE.out.trans (hE2.trans hE4)).row (show w.heap.size ≤ w.heap.size + 1 by omega) #[.bool false, .slice r.a1 r.n1 r.c1, .bool r.b2, .slice r.a2 r.n2 r.c2]));
        (have hv5 := mkHid (rabs_frac ((hv2.ext hE4).row (g := w.heap.size + 1) (by have := hsz.out; omega) #[.bool false, .slice r.a1 r.n1 r.c1, .bool r.b2, .slice r.a2 r.n2 r.c2]).r));
        replace hw3 := mkHid hw3; replace hw4 := mkHid hw4; clear hE2 hv2 hE3 z3 hs4 hE4)
    | ((have _t : Tok 3 := tok); clear _t; clear tok; (have tok : Tok 4 := .mk _); refine wpList_store_row rfl 52 (.tmp 4) (.tmp 9) rfl w2.heap.size #[.bool r.b1, .slice r.a1 r.n1 r.c1, .bool r.b2, .slice r.a2 r.n2 r.c2] rfl rfl 52 _ (heap_alloc_new _ _) (by kernel_rfl) rfl (by kernel_rfl) ?_; rw [← hw3.out])
    | ((have _t : Tok 4 := tok); clear _t; clear tok; (have tok : Tok 5 := .mk _); rw [← hw4.out]; refine wpList_load_row (by rfl) 52 (.tmp 4) rfl w2.heap.size rfl 52 #[.bool false, .slice r.a1 r.n1 r.c1, .bool r.b2, .slice r.a2 r.n2 r.c2] (0, 0) _ z4.out Tryz.underlying52 rfl (by kernel_rfl) ?_)
    | ((have _t : Tok 5 := tok); clear _t; clear tok; (have tok : Tok 6 := .mk _); refine wpList_store_row rfl 52 (.tmp 3) (.tmp 12) rfl (w.heap.size + 1) #[.bool false, .slice r.a1 r.n1 r.c1, .bool r.b2, .slice r.a2 r.n2 r.c2] rfl rfl 52 _ zR4.out (by kernel_rfl) rfl (by kernel_rfl) ?_))
  exact bodyPost_ret (results_cell_row rfl _ _ (w.heap.size + 1) 52 #[.bool false, .slice r.a1 r.n1 r.c1, .bool r.b2, .slice r.a2 r.n2 r.c2] (0, 0) _ rfl (setRow_heap _ _ _ _ _ _ zR4.out) Tryz.underlying52 rfl (by kernel_rfl)) rfl ⟨_, rfl, hv5.out, hE5.out⟩
end Go.Proofs.YtjelnmokcpoofaaGreatDoor
namespace Go.Proofs.YtjelnmokcpoofaaGreatDoor
set_option maxRecDepth 100000
open Go Go.RowKit Go.Proofs
def Or3R (a b c : Int) (t8 : Value) : Prop := t8 = .int .i64 0 ∨ (t8 = .int .i64 1 ∧ a = 0) ∨ (t8 = .int .i64 2 ∧ a = 0 ∧ b = 0) ∨ (t8 = .int .i64 3 ∧ a = 0 ∧ b = 0 ∧ c = 0)
set_option maxHeartbeats 800000 in
theorem or3_c (a b c : Int) (g : Nat) (w : World) (h : w.heap[g]? = some (.cells #[.int .i64 a, .int .i64 b, .int .i64 c] 3 (0, 0))) :
    Calls Tryz.prog 67 #[.slice (some ⟨g, 0, none⟩) 3 3] w fun e w' => e = .returned (.int .i64 (orI a b c)) ∧ w = w' := by
  have y0 : w.cell? ⟨g, 0, none⟩ = some (.int .i64 a) := row16_cells h 0
  have y1 : w.cell? ⟨g, 1, none⟩ = some (.int .i64 b) := row16_cells h 1
  have y2 : w.cell? ⟨g, 2, none⟩ = some (.int .i64 c) := row16_cells h 2
  clear h
  go_enter Tryz.func67, Tryz.ntmps67
  go_wp2_with fail
  go_loop [8] (fun t8 => Or3R a b c t8) (fun t8 => 3 - (intOf t8).toNat)
  case atStart => exact .inl rfl
  case round =>
    rcases hrel with rfl | ⟨rfl, ha⟩ | ⟨rfl, ha, hb⟩ | ⟨rfl, ha, hb, hc⟩
    · by_cases h0 : a = 0
      · have hb0 : (a != 0) = false := by simp [h0]
        replace h0 := mkHid h0
        go_wp2_with fail
        exact ⟨.inr (.inl ⟨by go_num, h0.out⟩), by simp [intOf]⟩
      · have hb0 : (a != 0) = true := by simp [h0]
        replace h0 := mkHid h0
        go_wp2_with fail
        go_ret
        exact ⟨by unfold orI; rw [if_pos h0.out]; rfl, rfl⟩
    · by_cases h0 : b = 0
      · have hb0 : (b != 0) = false := by simp [h0]
        replace h0 := mkHid h0
        replace ha := mkHid ha
        go_wp2_with fail
        exact ⟨.inr (.inr (.inl ⟨by go_num, ha.out, h0.out⟩)), by simp [intOf]⟩
      · have hb0 : (b != 0) = true := by simp [h0]
        replace h0 := mkHid h0
        replace ha := mkHid ha
        go_wp2_with fail
        go_ret
        exact ⟨by unfold orI; rw [if_neg (by simp [ha.out]), if_pos h0.out]; rfl, rfl⟩
    · by_cases h0 : c = 0
      · have hb0 : (c != 0) = false := by simp [h0]
        replace h0 := mkHid h0
        replace ha := mkHid ha
        replace hb := mkHid hb
        go_wp2_with fail
        exact ⟨.inr (.inr (.inr ⟨by go_num, ha.out, hb.out, h0.out⟩)), by simp [intOf]⟩
      · have hb0 : (c != 0) = true := by simp [h0]
        replace h0 := mkHid h0
        replace ha := mkHid ha
        replace hb := mkHid hb
        go_wp2_with fail
        go_ret
        exact ⟨by unfold orI; rw [if_neg (by simp [ha.out]), if_neg (by simp [hb.out])]; rfl, rfl⟩
    · replace ha := mkHid ha
      replace hb := mkHid hb
      replace hc := mkHid hc
      go_wp2_with fail
      go_ret
      exact ⟨by unfold orI; rw [if_neg (by simp [ha.out]), if_neg (by simp [hb.out]), hc.out]; rfl, rfl⟩
def Ints3 (a b c : Int) (W : World) (v : Value) : Prop := ∃ g, v = .slice (some ⟨g, 0, none⟩) 3 3 ∧ W.heap[g]? = some (.cells #[.int .i64 a, .int .i64 b, .int .i64 c] 3 (0, 0))
theorem st_ints3 {ss : List FSpec} (a b c : Int) (h : StableAll Ext ss) : StableAll Ext (.pred (Ints3 a b c) :: ss) := ⟨fun _ _ _ e h => by obtain ⟨g, h1, h2⟩ := h; exact ⟨g, h1, e.blk h2⟩, h⟩
theorem nf_off {x : Rat} {d : PD} (hp : nf d.p ≤ 2048) (hx : nf x ≤ 2048) : nf (offP x d) ≤ 268435456 := by
  unfold offP
  rw [rabs_nf]
  have := nf_sub_le d.p x
  omega
set_option maxHeartbeats 1600000 in
theorem near3_c (d1 d2 : PD) (p1 q1 p2 q2 pw : FV) (x : Rat) (gp go : Nat) (w : World) (hp1 : nf d1.p ≤ 2048) (hp2 : nf d2.p ≤ 2048) (hx : nf x ≤ 2048) (h1 : FracR w (.agg #[.bool p1.b1, .slice p1.a1 p1.n1 p1.c1, .bool p1.b2, .slice p1.a2 p1.n2 p1.c2]) d1.p) (h2 : FracR w (.agg #[.bool p2.b1, .slice p2.a1 p2.n1 p2.c1, .bool p2.b2, .slice p2.a2 p2.n2 p2.c2]) d2.p) (h3 : FracR w (.agg #[.bool pw.b1, .slice pw.a1 pw.n1 pw.c1, .bool pw.b2, .slice pw.a2 pw.n2 pw.c2]) x)
    (zp : w.heap[gp]? = some (.cells #[.bool pw.b1, .slice pw.a1 pw.n1 pw.c1, .bool pw.b2, .slice pw.a2 pw.n2 pw.c2] 52 (0, 0))) (zo : w.heap[go]? = some (.cells #[.func (.func 61) #[] #[.pointer (some ⟨gp, 0, none⟩)]] 112 (0, 0))) :
    Calls Tryz.prog 66 #[.agg #[.string d1.nm, .int .u8 d1.kd, .bool p1.b1, .slice p1.a1 p1.n1 p1.c1, .bool p1.b2, .slice p1.a2 p1.n2 p1.c2, .bool q1.b1, .slice q1.a1 q1.n1 q1.c1, .bool q1.b2, .slice q1.a2 q1.n2 q1.c2, .int .i64 d1.co], .agg #[.string d2.nm, .int .u8 d2.kd, .bool p2.b1, .slice p2.a1 p2.n1 p2.c1, .bool p2.b2, .slice p2.a2 p2.n2 p2.c2, .bool q2.b1, .slice q2.a1 q2.n1 q2.c1, .bool q2.b2, .slice q2.a2 q2.n2 q2.c2, .int .i64 d2.co], .pointer (some ⟨go, 0, none⟩)] w fun e w' => e = .returned (.int .i64 (cmp3 x d1 d2)) ∧ Ext w w' := by
  obtain ⟨w1, hw1⟩ : ∃ w1, w1 = (w.alloc (.cells #[.string d1.nm, .int .u8 d1.kd, .bool p1.b1, .slice p1.a1 p1.n1 p1.c1, .bool p1.b2, .slice p1.a2 p1.n2 p1.c2, .bool q1.b1, .slice q1.a1 q1.n1 q1.c1, .bool q1.b2, .slice q1.a2 q1.n2 q1.c2, .int .i64 d1.co] 56)).alloc (.cells #[.string d2.nm, .int .u8 d2.kd, .bool p2.b1, .slice p2.a1 p2.n1 p2.c1, .bool p2.b2, .slice p2.a2 p2.n2 p2.c2, .bool q2.b1, .slice q2.a1 q2.n1 q2.c1, .bool q2.b2, .slice q2.a2 q2.n2 q2.c2, .int .i64 d2.co] 56) := ⟨_, rfl⟩
  have hE : Ext w w1 := by rw [hw1]; exact ((Ext.refl w).al _).al _
  have z1 := mkHid (show w1.heap[w.heap.size]? = some (.cells #[.string d1.nm, .int .u8 d1.kd, .bool p1.b1, .slice p1.a1 p1.n1 p1.c1, .bool p1.b2, .slice p1.a2 p1.n2 p1.c2, .bool q1.b1, .slice q1.a1 q1.n1 q1.c1, .bool q1.b2, .slice q1.a2 q1.n2 q1.c2, .int .i64 d1.co] 56 (0, 0)) by rw [hw1]; exact (heap_alloc_old _ _ (by simp)).trans (heap_alloc_new _ _))
  have z2 := mkHid (show w1.heap[w.heap.size + 1]? = some (.cells #[.string d2.nm, .int .u8 d2.kd, .bool p2.b1, .slice p2.a1 p2.n1 p2.c1, .bool p2.b2, .slice p2.a2 p2.n2 p2.c2, .bool q2.b1, .slice q2.a1 q2.n1 q2.c1, .bool q2.b2, .slice q2.a2 q2.n2 q2.c2, .int .i64 d2.co] 56 (0, 0)) by rw [hw1]; exact heap_at _ _ _ (by simp))
  have zF := mkHid (hE.blk zo)
  have O1 := mkHid (fun W (e : Ext w W) => off_c d1 p1 q1 pw x gp W hp1 hx (h1.ext e) (h3.ext e) (e.blk zp))
  have O2 := mkHid (fun W (e : Ext w W) => off_c d2 p2 q2 pw x gp W hp2 hx (h2.ext e) (h3.ext e) (e.blk zp))
  have C := mkHid (fun v1 v2 W (a : FracR W v1 (offP x d1)) (b : FracR W v2 (offP x d2)) => cmp_f v1 v2 _ _ W (nf_off hp1 hx) (nf_off hp2 hx) a b)
  replace hw1 := mkHid hw1
  replace hE := mkHid hE
  clear h1 h2 h3 zp zo hp1 hp2 hx
  go_enter Tryz.func66, Tryz.ntmps66
  go_wp2_with fail
  rw [← hw1.out]
  apply region_ext [.val (.func (.func 61) #[] #[.pointer (some ⟨gp, 0, none⟩)]), .val (.agg #[.string d1.nm, .int .u8 d1.kd, .bool p1.b1, .slice p1.a1 p1.n1 p1.c1, .bool p1.b2, .slice p1.a2 p1.n2 p1.c2, .bool q1.b1, .slice q1.a1 q1.n1 q1.c1, .bool q1.b2, .slice q1.a2 q1.n2 q1.c2, .int .i64 d1.co]), .pred (fun W v => FracR W v (offP x d1)), .val (.func (.func 61) #[] #[.pointer (some ⟨gp, 0, none⟩)]), .val (.agg #[.string d2.nm, .int .u8 d2.kd, .bool p2.b1, .slice p2.a1 p2.n1 p2.c1, .bool p2.b2, .slice p2.a2 p2.n2 p2.c2, .bool q2.b1, .slice q2.a1 q2.n1 q2.c1, .bool q2.b2, .slice q2.a2 q2.n2 q2.c2, .int .i64 d2.co]), .pred (fun W v => FracR W v (offP x d2)), .val (.int .i64 (cS (offP x d1) (offP x d2))), .val (.pointer (some ⟨w.heap.size, 10, none⟩)), .val (.int .i64 d1.co), .val (.pointer (some ⟨w.heap.size + 1, 10, none⟩)), .val (.int .i64 d2.co), .val (.int .i64 (cmpI d1.co d2.co)), .val (.pointer (some ⟨w.heap.size, 0, none⟩)), .val (.string d1.nm), .val (.pointer (some ⟨w.heap.size + 1, 0, none⟩)), .val (.string d2.nm), .val (.int .i64 (Lib.compareBytes d1.nm.data.toList d2.nm.data.toList)), .pred (Ints3 (cS (offP x d1) (offP x d2)) (cmpI d1.co d2.co) (Lib.compareBytes d1.nm.data.toList d2.nm.data.toList)), .val (.int .i64 (cmp3 x d1 d2))] (by kernel_rfl) (stable_vals _ (stable_vals _ (st_fracR _ (stable_vals _ (stable_vals _ (st_fracR _ (stable_vals _ (stable_vals _ (stable_vals _ (stable_vals _ (stable_vals _ (stable_vals _ (stable_vals _ (stable_vals _ (stable_vals _ (stable_vals _ (stable_vals _ (st_ints3 _ _ _ (stable_vals _ (trivial))))))))))))))))))))
  refine ⟨fun W hW _ => by have := cell0 (hW.blk zF.out); go_simp; first | exact ⟨Ext.refl _, rfl⟩ | exact Ext.refl _, ?_⟩
  refine ⟨?l1, ?_⟩
  case l1 =>
    intro W hW hF
    have hr := hW.blk z1.out
    with_reducible refine fr_load ?zhw 56 (.tmp 3) ?zho (w.heap.size) ?zhx 56 _ (0, 0) _ hr Tryz.underlying56 ?zhd ?zhi ?zh
    case zhw => kernel_rfl
    case zho => rfl
    case zhx => kernel_rfl
    case zhd => rfl
    case zhi => kernel_rfl
    case zh => exact ⟨Ext.refl _, rfl⟩
  refine ⟨fun W hW hF => ?o1, fun v2 => ?_⟩
  case o1 =>
    clear hF
    go_simp
    refine (O1.out W (hE.out.trans hW)).mono ?_
    rintro e w' ⟨v, rfl, h1, h2⟩
    exact ⟨v, rfl, h2, h1⟩
  refine ⟨fun W hW _ => by have := cell0 (hW.blk zF.out); go_simp; first | exact ⟨Ext.refl _, rfl⟩ | exact Ext.refl _, ?_⟩
  refine ⟨?l2, ?_⟩
  case l2 =>
    intro W hW hF
    have hr := hW.blk z2.out
    with_reducible refine fr_load ?zhw 56 (.tmp 4) ?zho (w.heap.size + 1) ?zhx 56 _ (0, 0) _ hr Tryz.underlying56 ?zhd ?zhi ?zh
    case zhw => kernel_rfl
    case zho => rfl
    case zhx => kernel_rfl
    case zhd => rfl
    case zhi => kernel_rfl
    case zh => exact ⟨Ext.refl _, rfl⟩
  refine ⟨fun W hW hF => ?o2, fun v5 => ?_⟩
  case o2 =>
    clear hF
    go_simp
    refine (O2.out W (hE.out.trans hW)).mono ?_
    rintro e w' ⟨v, rfl, h1, h2⟩
    exact ⟨v, rfl, h2, h1⟩
  refine ⟨fun W hW hF => ?cm, ?_⟩
  case cm =>
    have a2 : FracR W v5 (offP x d2) := hF.1 (by kernel_rfl)
    have a1 : FracR W v2 (offP x d1) := hF.2.1 (by kernel_rfl)
    replace a1 := mkHid a1
    replace a2 := mkHid a2
    clear hF
    go_simp
    refine (C.out v2 v5 W a1.out a2.out).mono ?_
    rintro e w' ⟨rfl, h1⟩
    exact ⟨rfl, h1⟩
  refine ⟨fun W hW _ => by go_simp; first | exact ⟨Ext.refl _, rfl⟩ | exact Ext.refl _, ?_⟩
  refine ⟨fun W hW _ => by have := row16_cells (hW.blk z1.out) 10; go_simp; first | exact ⟨Ext.refl _, rfl⟩ | exact Ext.refl _, ?_⟩
  refine ⟨fun W hW _ => by go_simp; first | exact ⟨Ext.refl _, rfl⟩ | exact Ext.refl _, ?_⟩
  refine ⟨fun W hW _ => by have := row16_cells (hW.blk z2.out) 10; go_simp; first | exact ⟨Ext.refl _, rfl⟩ | exact Ext.refl _, ?_⟩
  refine ⟨fun W hW hF => ?cc, ?_⟩
  case cc =>
    clear hF
    go_simp
    refine (Tryz.cmp_Compare_int d1.co d2.co W).mono ?_
    rintro e w' ⟨rfl, rfl⟩
    exact ⟨rfl, Ext.refl _⟩
  refine ⟨fun W hW _ => by go_simp; first | exact ⟨Ext.refl _, rfl⟩ | exact Ext.refl _, ?_⟩
  refine ⟨fun W hW _ => by have := row16_cells (hW.blk z1.out) 0; go_simp; first | exact ⟨Ext.refl _, rfl⟩ | exact Ext.refl _, ?_⟩
  refine ⟨fun W hW _ => by go_simp; first | exact ⟨Ext.refl _, rfl⟩ | exact Ext.refl _, ?_⟩
  refine ⟨fun W hW _ => by have := row16_cells (hW.blk z2.out) 0; go_simp; first | exact ⟨Ext.refl _, rfl⟩ | exact Ext.refl _, ?_⟩
  refine ⟨fun W hW hF => ?cs, ?_⟩
  case cs =>
    clear hF
    go_simp
    refine (Tryz.strings_Compare d1.nm d2.nm W).mono ?_
    rintro e w' ⟨rfl, rfl⟩
    exact ⟨rfl, Ext.refl _⟩
  refine ⟨fun W hW hF => ?bs, fun v17 => ?_⟩
  case bs =>
    clear hF
    go_simp
    exact ⟨(Ext.refl _).al _, _, rfl, heap_alloc_new _ _⟩
  refine ⟨fun W hW hF => ?ov, fun W hW hF => ?fin⟩
  case ov =>
    obtain ⟨g3, rfl, h3⟩ := hF.1 (by kernel_rfl)
    clear hF
    replace h3 := mkHid h3
    go_simp
    refine (or3_c _ _ _ g3 W h3.out).mono ?_
    rintro e w' ⟨rfl, rfl⟩
    exact ⟨rfl, Ext.refl _⟩
  case fin =>
    clear hF
    have FE := mkHid (hE.out.trans hW)
    clear hW
    go_simp
    go_wp2_with fail
    go_ret
    exact ⟨rfl, FE.out⟩
end Go.Proofs.YtjelnmokcpoofaaGreatDoor
namespace Go.Proofs.YtjelnmokcpoofaaGreatDoor
set_option maxRecDepth 100000
open Go Go.RowKit Go.Proofs
def minX (x : Rat) (m : PD × Value) (l : List (PD × Value)) : PD × Value := l.foldl (fun m d => if cmp3 x d.1 m.1 < 0 then d else m) m
theorem minX_fst (x : Rat) : ∀ (l : List (PD × Value)) (m : PD × Value), (minX x m l).1 = minF x m.1 (l.map (·.1))
  | [], _ => rfl
  | d :: r, m => by
    show (minX x (if cmp3 x d.1 m.1 < 0 then d else m) r).1 = minF x (if cmp3 x d.1 m.1 < 0 then d.1 else m.1) (r.map (·.1))
    rw [minX_fst x r]
    split <;> rfl
theorem minX_mem (x : Rat) : ∀ (l : List (PD × Value)) (m : PD × Value), minX x m l = m ∨ minX x m l ∈ l
  | [], _ => .inl rfl
  | d :: r, m => by
    have h := minX_mem x r (if cmp3 x d.1 m.1 < 0 then d else m)
    show minX x (if cmp3 x d.1 m.1 < 0 then d else m) r = m ∨ minX x (if cmp3 x d.1 m.1 < 0 then d else m) r ∈ d :: r
    rcases h with h | h
    · rw [h]
      split
      · exact .inr (List.mem_cons_self ..)
      · exact .inl rfl
    · exact .inr (List.mem_cons_of_mem _ h)
def MinR (w : World) (x : Rat) (m0 : PD × Value) (r : List (PD × Value)) (t6 : Value) (wr : World) : Prop :=
  ∃ (j k : Nat) (d : PD) (p q : FV), j = k + 1 ∧ k ≤ r.length ∧ t6 = .int .i64 j ∧ minX x m0 (r.take k) = (d, .agg #[.string d.nm, .int .u8 d.kd, .bool p.b1, .slice p.a1 p.n1 p.c1, .bool p.b2, .slice p.a2 p.n2 p.c2, .bool q.b1, .slice q.a1 q.n1 q.c1, .bool q.b2, .slice q.a2 q.n2 q.c2, .int .i64 d.co]) ∧ Ext w wr ∧
    wr.heap[w.heap.size]? = some (.cells #[.string ⟨#[]⟩, .int .u8 0, .bool false, .slice none 0 0, .bool false, .slice none 0 0, .bool false, .slice none 0 0, .bool false, .slice none 0 0, .int .i64 0] 56 (0, 0)) ∧ wr.heap[w.heap.size + 1]? = some (.cells #[.string d.nm, .int .u8 d.kd, .bool p.b1, .slice p.a1 p.n1 p.c1, .bool p.b2, .slice p.a2 p.n2 p.c2, .bool q.b1, .slice q.a1 q.n1 q.c1, .bool q.b2, .slice q.a2 q.n2 q.c2, .int .i64 d.co] 56 (0, 0))
def MinQ (w : World) (m : PD × Value) (e : Ending) (w' : World) : Prop := e = .returned m.2 ∧ Ext w w'
set_option maxHeartbeats 3200000 in
theorem min_c (m0 : PD × Value) (r : List (PD × Value)) (rest : List Value) (g c : Nat) (x : Rat) (pw : FV) (gp go : Nat) (w : World) (hv : AllV (m0 :: r)) (hl : (m0 :: r).length ≤ 64)
    (hr : w.heap[g]? = some (.cells (cellsP (m0 :: r) ++ rest).toArray 56 (0, 0))) (hpr : ∀ y ∈ m0 :: r, PartR w y.2 y.1) (hnf : ∀ y ∈ m0 :: r, nf y.1.p ≤ 2048) (hx : nf x ≤ 2048) (h3 : FracR w (.agg #[.bool pw.b1, .slice pw.a1 pw.n1 pw.c1, .bool pw.b2, .slice pw.a2 pw.n2 pw.c2]) x)
    (zp : w.heap[gp]? = some (.cells #[.bool pw.b1, .slice pw.a1 pw.n1 pw.c1, .bool pw.b2, .slice pw.a2 pw.n2 pw.c2] 52 (0, 0))) (zo : w.heap[go]? = some (.cells #[.func (.func 61) #[] #[.pointer (some ⟨gp, 0, none⟩)]] 112 (0, 0))) :
    Calls Tryz.prog 65 #[.slice (some ⟨g, 0, none⟩) (m0 :: r).length c, .func (.func 66) #[] #[.pointer (some ⟨go, 0, none⟩)]] w (MinQ w (minX x m0 r)) := by
  obtain ⟨d0, v0⟩ := m0
  obtain ⟨p0, q0, e0⟩ := hv (d0, v0) (List.mem_cons_self ..)
  have e0' : v0 = .agg #[.string d0.nm, .int .u8 d0.kd, .bool p0.b1, .slice p0.a1 p0.n1 p0.c1, .bool p0.b2, .slice p0.a2 p0.n2 p0.c2, .bool q0.b1, .slice q0.a1 q0.n1 q0.c1, .bool q0.b2, .slice q0.a2 q0.n2 q0.c2, .int .i64 d0.co] := e0
  subst e0'
  generalize hos : (d0, Value.agg #[.string d0.nm, .int .u8 d0.kd, .bool p0.b1, .slice p0.a1 p0.n1 p0.c1, .bool p0.b2, .slice p0.a2 p0.n2 p0.c2, .bool q0.b1, .slice q0.a1 q0.n1 q0.c1, .bool q0.b2, .slice q0.a2 q0.n2 q0.c2, .int .i64 d0.co]) :: r = os at *
  have hln : os.length = r.length + 1 := by rw [← hos]; rfl
  have h0 : os[0]? = some (d0, Value.agg #[.string d0.nm, .int .u8 d0.kd, .bool p0.b1, .slice p0.a1 p0.n1 p0.c1, .bool p0.b2, .slice p0.a2 p0.n2 p0.c2, .bool q0.b1, .slice q0.a1 q0.n1 q0.c1, .bool q0.b2, .slice q0.a2 q0.n2 q0.c2, .int .i64 d0.co]) := by rw [← hos]; rfl
  have hlt0 : 0 < os.length := by omega
  have hx0 := mkHid (row_extract hv hlt0 rest (sub := #[.string d0.nm, .int .u8 d0.kd, .bool p0.b1, .slice p0.a1 p0.n1 p0.c1, .bool p0.b2, .slice p0.a2 p0.n2 p0.c2, .bool q0.b1, .slice q0.a1 q0.n1 q0.c1, .bool q0.b2, .slice q0.a2 q0.n2 q0.c2, .int .i64 d0.co]) (by have := List.getElem?_eq_some_iff.1 h0; rw [this.2]))
  have hos' := mkHid hos
  obtain ⟨w1, hw1⟩ : ∃ w1, w1 = w.alloc (.cells #[.string ⟨#[]⟩, .int .u8 0, .bool false, .slice none 0 0, .bool false, .slice none 0 0, .bool false, .slice none 0 0, .bool false, .slice none 0 0, .int .i64 0] 56) := ⟨_, rfl⟩
  have hE1 : Ext w w1 := by rw [hw1]; exact (Ext.refl w).al _
  have zR := mkHid (show w1.heap[w.heap.size]? = some (.cells #[.string ⟨#[]⟩, .int .u8 0, .bool false, .slice none 0 0, .bool false, .slice none 0 0, .bool false, .slice none 0 0, .bool false, .slice none 0 0, .int .i64 0] 56 (0, 0)) by rw [hw1]; exact heap_alloc_new _ _)
  have hsz : w1.heap.size = w.heap.size + 1 := by rw [hw1]; simp
  have hr1 := mkHid (hE1.blk hr)
  obtain ⟨w2, hw2⟩ : ∃ w2, w2 = (w1.alloc (.cells #[.string ⟨#[]⟩, .int .u8 0, .bool false, .slice none 0 0, .bool false, .slice none 0 0, .bool false, .slice none 0 0, .bool false, .slice none 0 0, .int .i64 0] 56)).setRow w1.heap.size #[.string d0.nm, .int .u8 d0.kd, .bool p0.b1, .slice p0.a1 p0.n1 p0.c1, .bool p0.b2, .slice p0.a2 p0.n2 p0.c2, .bool q0.b1, .slice q0.a1 q0.n1 q0.c1, .bool q0.b2, .slice q0.a2 q0.n2 q0.c2, .int .i64 d0.co] := ⟨_, rfl⟩
  have hE2 : Ext w1 w2 := by rw [hw2]; exact ((Ext.refl w1).al _).row (Nat.le_refl _) _
  have zM := mkHid (show w2.heap[w.heap.size + 1]? = some (.cells #[.string d0.nm, .int .u8 d0.kd, .bool p0.b1, .slice p0.a1 p0.n1 p0.c1, .bool p0.b2, .slice p0.a2 p0.n2 p0.c2, .bool q0.b1, .slice q0.a1 q0.n1 q0.c1, .bool q0.b2, .slice q0.a2 q0.n2 q0.c2, .int .i64 d0.co] 56 (0, 0)) by rw [hw2, ← hsz]; exact setRow_heap _ _ _ _ _ _ (heap_alloc_new _ _))
  have st : MinR w x (d0, .agg #[.string d0.nm, .int .u8 d0.kd, .bool p0.b1, .slice p0.a1 p0.n1 p0.c1, .bool p0.b2, .slice p0.a2 p0.n2 p0.c2, .bool q0.b1, .slice q0.a1 q0.n1 q0.c1, .bool q0.b2, .slice q0.a2 q0.n2 q0.c2, .int .i64 d0.co]) r (.int .i64 1) w2 := ⟨1, 0, d0, p0, q0, rfl, Nat.zero_le _, rfl, rfl, hE1.trans hE2, hE2.blk zR.out, zM.out⟩
  have NC := mkHid (fun (y z : PD × Value) (py qy pz qz : FV) (W : World) (hy : y ∈ os) (hz : z ∈ os) (ey : y.2 = .agg #[.string y.1.nm, .int .u8 y.1.kd, .bool py.b1, .slice py.a1 py.n1 py.c1, .bool py.b2, .slice py.a2 py.n2 py.c2, .bool qy.b1, .slice qy.a1 qy.n1 qy.c1, .bool qy.b2, .slice qy.a2 qy.n2 qy.c2, .int .i64 y.1.co]) (ez : z.2 = .agg #[.string z.1.nm, .int .u8 z.1.kd, .bool pz.b1, .slice pz.a1 pz.n1 pz.c1, .bool pz.b2, .slice pz.a2 pz.n2 pz.c2, .bool qz.b1, .slice qz.a1 qz.n1 qz.c1, .bool qz.b2, .slice qz.a2 qz.n2 qz.c2, .int .i64 z.1.co]) (e : Ext w W) =>
    near3_c y.1 z.1 py qy pz qz pw x gp go W (hnf y hy) (hnf z hz) hx (by have := (hpr y hy).ext e; rw [ey] at this; obtain ⟨_, _, _, _, _, _, _, _, _, _, _, _, _, _, _, _, e2, k, _⟩ := this; simp only [Value.agg.injEq, Array.mk.injEq, List.cons.injEq, and_true, Value.bool.injEq, Value.slice.injEq, true_and] at e2; obtain ⟨rfl, ⟨rfl, rfl, rfl⟩, rfl, ⟨rfl, rfl, rfl⟩, -⟩ := e2; exact k) (by have := (hpr z hz).ext e; rw [ez] at this; obtain ⟨_, _, _, _, _, _, _, _, _, _, _, _, _, _, _, _, e2, k, _⟩ := this; simp only [Value.agg.injEq, Array.mk.injEq, List.cons.injEq, and_true, Value.bool.injEq, Value.slice.injEq, true_and] at e2; obtain ⟨rfl, ⟨rfl, rfl, rfl⟩, rfl, ⟨rfl, rfl, rfl⟩, -⟩ := e2; exact k) (h3.ext e) (e.blk zp) (e.blk zo))
  have hll : (1 : Int) ≤ (os.length : Int) := by omega
  have hll2 : (os.length : Int) ≤ 64 := by omega
  have hll3 : (0 : Int) < (os.length : Int) := by omega
  replace st := mkHid st
  replace hv := mkHid hv
  replace hr := mkHid hr
  replace hw1 := mkHid hw1
  replace hw2 := mkHid hw2
  replace hE1 := mkHid hE1
  replace hE2 := mkHid hE2
  replace hln := mkHid hln
  replace h0 := mkHid h0
  replace hsz := mkHid hsz
  clear hpr hnf hx h3 zp zo e0 hos zM
  unfold MinQ
  go_enter Tryz.func65, Tryz.ntmps65
  have tok : Tok 0 := .mk _
  go_wp2_with (first
    | ((have _t : Tok 0 := tok); clear _t; clear tok; (have tok : Tok 1 := .mk _); rw [← hw1.out]; refine wpList_load_sub (by rfl) 56 (.tmp 12) rfl g (0 * 11) ?zz 56 _ #[.string d0.nm, .int .u8 d0.kd, .bool p0.b1, .slice p0.a1 p0.n1 p0.c1, .bool p0.b2, .slice p0.a2 p0.n2 p0.c2, .bool q0.b1, .slice q0.a1 q0.n1 q0.c1, .bool q0.b2, .slice q0.a2 q0.n2 q0.c2, .int .i64 d0.co] (0, 0) _ hr1.out hx0.out Tryz.underlying56 rfl (by kernel_rfl) ?_; (case zz => rfl))
    | ((have _t : Tok 1 := tok); clear _t; clear tok; (have tok : Tok 2 := .mk _); refine wpList_store_row rfl 56 (.tmp 5) (.tmp 13) rfl w1.heap.size #[.string d0.nm, .int .u8 d0.kd, .bool p0.b1, .slice p0.a1 p0.n1 p0.c1, .bool p0.b2, .slice p0.a2 p0.n2 p0.c2, .bool q0.b1, .slice q0.a1 q0.n1 q0.c1, .bool q0.b2, .slice q0.a2 q0.n2 q0.c2, .int .i64 d0.co] rfl rfl 56 _ (heap_alloc_new _ _) (by kernel_rfl) rfl (by kernel_rfl) ?_; rw [← hw2.out, hsz.out]))
  clear tok hll hll3
  go_loopw [6] (fun t6 wr => MinR w x (d0, .agg #[.string d0.nm, .int .u8 d0.kd, .bool p0.b1, .slice p0.a1 p0.n1 p0.c1, .bool p0.b2, .slice p0.a2 p0.n2 p0.c2, .bool q0.b1, .slice q0.a1 q0.n1 q0.c1, .bool q0.b2, .slice q0.a2 q0.n2 q0.c2, .int .i64 d0.co]) r t6 wr) (fun t6 _ => os.length - (intOf t6).toNat)
  case atStart => exact st.out
  case round =>
    clear st
    obtain ⟨j, k, d, p, q, hjk, hk, rfl, hmin, hEw, hz, hm⟩ := hrel
    obtain ⟨w3, rfl⟩ : ∃ w3 : World, w3 = wr := ⟨_, rfl⟩
    have hln2 := hln.out
    have hmm : (d, Value.agg #[.string d.nm, .int .u8 d.kd, .bool p.b1, .slice p.a1 p.n1 p.c1, .bool p.b2, .slice p.a2 p.n2 p.c2, .bool q.b1, .slice q.a1 q.n1 q.c1, .bool q.b2, .slice q.a2 q.n2 q.c2, .int .i64 d.co]) ∈ os := by
      rw [← hmin, ← hos'.out]
      rcases minX_mem x (r.take k) (d0, .agg #[.string d0.nm, .int .u8 d0.kd, .bool p0.b1, .slice p0.a1 p0.n1 p0.c1, .bool p0.b2, .slice p0.a2 p0.n2 p0.c2, .bool q0.b1, .slice q0.a1 q0.n1 q0.c1, .bool q0.b2, .slice q0.a2 q0.n2 q0.c2, .int .i64 d0.co]) with h | h
      · rw [h]; exact List.mem_cons_self ..
      · exact List.mem_cons_of_mem _ (List.mem_of_mem_take h)
    by_cases hlt : j < os.length
    · obtain ⟨d2, v2, hdv⟩ : ∃ d2 v2, os[j] = (d2, v2) := ⟨_, _, rfl⟩
      have hmj : (d2, v2) ∈ os := by rw [← hdv]; exact List.getElem_mem hlt
      obtain ⟨p2, q2, e0⟩ := hv.out _ hmj
      have e0' : v2 = .agg #[.string d2.nm, .int .u8 d2.kd, .bool p2.b1, .slice p2.a1 p2.n1 p2.c1, .bool p2.b2, .slice p2.a2 p2.n2 p2.c2, .bool q2.b1, .slice q2.a1 q2.n1 q2.c1, .bool q2.b2, .slice q2.a2 q2.n2 q2.c2, .int .i64 d2.co] := e0
      subst e0'
      have hrk : r[k]? = some (d2, .agg #[.string d2.nm, .int .u8 d2.kd, .bool p2.b1, .slice p2.a1 p2.n1 p2.c1, .bool p2.b2, .slice p2.a2 p2.n2 p2.c2, .bool q2.b1, .slice q2.a1 q2.n1 q2.c1, .bool q2.b2, .slice q2.a2 q2.n2 q2.c2, .int .i64 d2.co]) := by
        have : os[j]? = some (d2, .agg #[.string d2.nm, .int .u8 d2.kd, .bool p2.b1, .slice p2.a1 p2.n1 p2.c1, .bool p2.b2, .slice p2.a2 p2.n2 p2.c2, .bool q2.b1, .slice q2.a1 q2.n1 q2.c1, .bool q2.b2, .slice q2.a2 q2.n2 q2.c2, .int .i64 d2.co]) := by rw [List.getElem?_eq_getElem hlt, hdv]
        rw [← hos'.out, hjk, List.getElem?_cons_succ] at this
        exact this
      have hxk := mkHid (row_extract hv.out hlt rest (sub := #[.string d2.nm, .int .u8 d2.kd, .bool p2.b1, .slice p2.a1 p2.n1 p2.c1, .bool p2.b2, .slice p2.a2 p2.n2 p2.c2, .bool q2.b1, .slice q2.a1 q2.n1 q2.c1, .bool q2.b2, .slice q2.a2 q2.n2 q2.c2, .int .i64 d2.co]) (by rw [hdv]))
      have hr3 := mkHid (hEw.blk hr.out)
      have hN := fun W (e : Ext w3 W) => NC.out (d2, _) (d, _) p2 q2 p q W hmj hmm rfl rfl (hEw.trans e)
      have hjl : (j : Int) < (os.length : Int) := by omega
      have hj64 : (j : Int) ≤ 64 := by omega
      generalize hC : cmp3 x d2 d = C at hN
      replace hN : Hid _ := mkHid hN
      have hmin2 : minX x (d0, .agg #[.string d0.nm, .int .u8 d0.kd, .bool p0.b1, .slice p0.a1 p0.n1 p0.c1, .bool p0.b2, .slice p0.a2 p0.n2 p0.c2, .bool q0.b1, .slice q0.a1 q0.n1 q0.c1, .bool q0.b2, .slice q0.a2 q0.n2 q0.c2, .int .i64 d0.co]) (r.take (k + 1)) = if C < 0 then (d2, .agg #[.string d2.nm, .int .u8 d2.kd, .bool p2.b1, .slice p2.a1 p2.n1 p2.c1, .bool p2.b2, .slice p2.a2 p2.n2 p2.c2, .bool q2.b1, .slice q2.a1 q2.n1 q2.c1, .bool q2.b2, .slice q2.a2 q2.n2 q2.c2, .int .i64 d2.co]) else (d, .agg #[.string d.nm, .int .u8 d.kd, .bool p.b1, .slice p.a1 p.n1 p.c1, .bool p.b2, .slice p.a2 p.n2 p.c2, .bool q.b1, .slice q.a1 q.n1 q.c1, .bool q.b2, .slice q.a2 q.n2 q.c2, .int .i64 d.co]) := by
        have hkl := (List.getElem?_eq_some_iff.1 hrk).1
        rw [List.take_succ_eq_append_getElem hkl, (List.getElem?_eq_some_iff.1 hrk).2]
        show List.foldl _ _ _ = _
        rw [List.foldl_append]
        show (if cmp3 x d2 (minX x _ (r.take k)).1 < 0 then _ else minX x _ (r.take k)) = _
        rw [hmin]
        show (if cmp3 x d2 d < 0 then _ else _) = _
        rw [hC]
      have hkr : k + 1 ≤ r.length := by omega
      have hgl := mkHid (Array.getElem?_eq_some_iff.1 hm).1
      replace hjk := mkHid hjk
      replace hmin := mkHid hmin
      replace hmin2 := mkHid hmin2
      replace hEw := mkHid hEw
      replace hz := mkHid hz
      replace hm := mkHid hm
      replace hdv := mkHid hdv
      replace hC := mkHid hC
      clear e0 hrk hmm hmj hln2
      go_wp2_with fail
      apply region_ext [.val (.func (.func 66) #[] #[.pointer (some ⟨go, 0, none⟩)]), .val (.slice (some ⟨g, 0, none⟩) os.length c), .val (.int .i64 j), .val (.pointer (some ⟨g, j * 11, none⟩)), .val (.agg #[.string d2.nm, .int .u8 d2.kd, .bool p2.b1, .slice p2.a1 p2.n1 p2.c1, .bool p2.b2, .slice p2.a2 p2.n2 p2.c2, .bool q2.b1, .slice q2.a1 q2.n1 q2.c1, .bool q2.b2, .slice q2.a2 q2.n2 q2.c2, .int .i64 d2.co]), .val (.agg #[.string d.nm, .int .u8 d.kd, .bool p.b1, .slice p.a1 p.n1 p.c1, .bool p.b2, .slice p.a2 p.n2 p.c2, .bool q.b1, .slice q.a1 q.n1 q.c1, .bool q.b2, .slice q.a2 q.n2 q.c2, .int .i64 d.co]), .val (.int .i64 C), .val (.bool (decide (C < 0)))] (by kernel_rfl) (stable_vals _ (stable_vals _ (stable_vals _ (stable_vals _ (stable_vals _ (stable_vals _ (stable_vals _ (stable_vals _ trivial))))))))
      iterate 4 (refine ⟨fun W hW _ => by go_simp; first | exact ⟨Ext.refl _, rfl⟩ | exact Ext.refl _, ?_⟩)
      refine ⟨?l1, ?_⟩
      case l1 =>
        intro W hW hF
        have hrw := hW.blk hr3.out
        with_reducible refine fr_load_sub ?zhw 56 (.tmp 23) ?zho g (j * 11) ?zhx 56 _ #[.string d2.nm, .int .u8 d2.kd, .bool p2.b1, .slice p2.a1 p2.n1 p2.c1, .bool p2.b2, .slice p2.a2 p2.n2 p2.c2, .bool q2.b1, .slice q2.a1 q2.n1 q2.c1, .bool q2.b2, .slice q2.a2 q2.n2 q2.c2, .int .i64 d2.co] (0, 0) _ hrw hxk.out Tryz.underlying56 ?zhd ?zhi ?zh
        case zhw => kernel_rfl
        case zho => rfl
        case zhx => rfl
        case zhd => rfl
        case zhi => kernel_rfl
        case zh => exact ⟨Ext.refl _, rfl⟩
      refine ⟨?l2, ?_⟩
      case l2 =>
        intro W hW hF
        have hrw := hW.blk hm.out
        with_reducible refine fr_load ?zhw 56 (.tmp 5) ?zho (w.heap.size + 1) ?zhx 56 _ (0, 0) _ hrw Tryz.underlying56 ?zhd ?zhi ?zh
        case zhw => kernel_rfl
        case zho => rfl
        case zhx => rfl
        case zhd => rfl
        case zhi => kernel_rfl
        case zh => exact ⟨Ext.refl _, rfl⟩
      refine ⟨fun W hW hF => ?cm, ?_⟩
      case cm =>
        clear hF
        go_simp
        refine (hN.out W hW).mono ?_
        rintro e w' ⟨rfl, h1⟩
        exact ⟨rfl, h1⟩
      refine ⟨fun W hW _ => by go_simp; first | exact ⟨Ext.refl _, rfl⟩ | exact Ext.refl _, fun W hW hF => ?fin⟩
      case fin =>
        clear hF
        have hEW := mkHid (hEw.out.trans hW)
        have hzW := mkHid (hW.blk hz.out)
        have hmW := mkHid (hW.blk hm.out)
        have hrW := mkHid (hW.blk hr3.out)
        clear hW
        by_cases hc : C < 0
        · rw [decide_eq_true hc]
          have hm3 := hmin2.out
          rw [if_pos hc] at hm3
          replace hm3 := mkHid hm3
          clear hc
          go_simp
          have tok : Tok 0 := .mk _
          go_wp2_with (first
            | ((have _t : Tok 0 := tok); clear _t; clear tok; (have tok : Tok 1 := .mk _); refine wpList_load_sub (by rfl) 56 (.tmp 30) rfl g (j * 11) ?zz 56 _ #[.string d2.nm, .int .u8 d2.kd, .bool p2.b1, .slice p2.a1 p2.n1 p2.c1, .bool p2.b2, .slice p2.a2 p2.n2 p2.c2, .bool q2.b1, .slice q2.a1 q2.n1 q2.c1, .bool q2.b2, .slice q2.a2 q2.n2 q2.c2, .int .i64 d2.co] (0, 0) _ hrW.out hxk.out Tryz.underlying56 rfl (by kernel_rfl) ?_; (case zz => rfl))
            | ((have _t : Tok 1 := tok); clear _t; clear tok; (have tok : Tok 2 := .mk _); refine wpList_store_row rfl 56 (.tmp 5) (.tmp 31) rfl (w.heap.size + 1) #[.string d2.nm, .int .u8 d2.kd, .bool p2.b1, .slice p2.a1 p2.n1 p2.c1, .bool p2.b2, .slice p2.a2 p2.n2 p2.c2, .bool q2.b1, .slice q2.a1 q2.n1 q2.c1, .bool q2.b2, .slice q2.a2 q2.n2 q2.c2, .int .i64 d2.co] rfl rfl 56 _ hmW.out (by kernel_rfl) rfl (by kernel_rfl) ?_))
          go_roundw
          case measure => simp [intOf]; omega
          case rel =>
            exact ⟨j + 1, k + 1, d2, p2, q2, by rw [hjk.out], hkr, by go_num, hm3.out, hEW.out.row (by omega) _, (setRow_other _ _ _ _ (by omega)).trans hzW.out, setRow_heap _ _ _ _ _ _ hmW.out⟩
        · rw [decide_eq_false hc]
          have hm3 := hmin2.out
          rw [if_neg hc] at hm3
          replace hm3 := mkHid hm3
          clear hc
          go_simp
          go_wp2_with fail
          go_roundw
          case measure => simp [intOf]; omega
          case rel =>
            exact ⟨j + 1, k + 1, d, p, q, by rw [hjk.out], hkr, by go_num, hm3.out, hEW.out, hzW.out, hmW.out⟩
    · have hjn : j = os.length := by omega
      have hkn : k = r.length := by omega
      rw [hkn, List.take_length] at hmin
      subst hjn
      replace hmin := mkHid hmin
      have hE4 := mkHid (hEw.row (show w.heap.size ≤ w.heap.size from Nat.le_refl _) #[.string d.nm, .int .u8 d.kd, .bool p.b1, .slice p.a1 p.n1 p.c1, .bool p.b2, .slice p.a2 p.n2 p.c2, .bool q.b1, .slice q.a1 q.n1 q.c1, .bool q.b2, .slice q.a2 q.n2 q.c2, .int .i64 d.co])
      replace hz := mkHid hz
      replace hm := mkHid hm
      replace hEw := mkHid hEw
      clear hjk hkn hk hln2 hmm
      have tok : Tok 0 := .mk _
      go_wp2_with (first
        | ((have _t : Tok 0 := tok); clear _t; clear tok; (have tok : Tok 1 := .mk _); refine wpList_load_row (by rfl) 56 (.tmp 5) rfl (w.heap.size + 1) rfl 56 #[.string d.nm, .int .u8 d.kd, .bool p.b1, .slice p.a1 p.n1 p.c1, .bool p.b2, .slice p.a2 p.n2 p.c2, .bool q.b1, .slice q.a1 q.n1 q.c1, .bool q.b2, .slice q.a2 q.n2 q.c2, .int .i64 d.co] (0, 0) _ hm.out Tryz.underlying56 rfl (by kernel_rfl) ?_)
        | ((have _t : Tok 1 := tok); clear _t; clear tok; (have tok : Tok 2 := .mk _); refine wpList_store_row rfl 56 (.tmp 4) (.tmp 32) rfl w.heap.size #[.string d.nm, .int .u8 d.kd, .bool p.b1, .slice p.a1 p.n1 p.c1, .bool p.b2, .slice p.a2 p.n2 p.c2, .bool q.b1, .slice q.a1 q.n1 q.c1, .bool q.b2, .slice q.a2 q.n2 q.c2, .int .i64 d.co] rfl rfl 56 _ hz.out (by kernel_rfl) rfl (by kernel_rfl) ?_))
      rw [hmin.out]
      exact bodyPost_ret (results_cell_row rfl _ _ w.heap.size 56 #[.string d.nm, .int .u8 d.kd, .bool p.b1, .slice p.a1 p.n1 p.c1, .bool p.b2, .slice p.a2 p.n2 p.c2, .bool q.b1, .slice q.a1 q.n1 q.c1, .bool q.b2, .slice q.a2 q.n2 q.c2, .int .i64 d.co] (0, 0) _ rfl (setRow_heap _ _ _ _ _ _ hz.out) Tryz.underlying56 rfl (by kernel_rfl)) rfl ⟨rfl, hE4.out⟩
end Go.Proofs.YtjelnmokcpoofaaGreatDoor
namespace Go.Proofs.YtjelnmokcpoofaaGreatDoor
set_option maxRecDepth 100000
open Go Go.RowKit Go.Proofs
theorem OutP.slice {lo : Nat} {w : World} {s : Value} {os : List (PD × Value)} (h : OutP lo w s os) : ∃ a c, s = .slice a os.length c ∧ (os ≠ [] → ∃ g, a = some ⟨g, 0, none⟩) := by
  rcases h.row.2 with ⟨e, h0⟩ | ⟨g, cap, cur, e, -⟩
  · have h0' : os = [] := List.eq_nil_of_length_eq_zero (by simpa using h0)
    subst h0'
    exact ⟨none, 0, e, fun h => absurd rfl h⟩
  · exact ⟨_, cap, e, fun _ => ⟨g, rfl⟩⟩
theorem delete_c (lo : Nat) (w : World) (s : Value) (os : List (PD × Value)) (h : OutP lo w s os) (hl : os.length ≤ 64) :
    Calls Tryz.prog 63 #[s, .func (.func 64) #[] #[]] w (DelQ lo w s os) := by
  cases hf : firstNo os with
  | none => exact delete_none lo w s os h hl hf
  | some i =>
    obtain ⟨hi, -⟩ := first_take hf
    obtain ⟨a, c, rfl, ha⟩ := h.slice
    obtain ⟨g, rfl⟩ := ha (by intro e; rw [e] at hi; simp at hi)
    exact delete_some lo w g _ c os h hl i hf
def NearQ (w : World) (x : Rat) (es : List (PD × Value)) (e : Ending) (w' : World) : Prop := ∃ v d, e = .returned (.tuple #[v, .int .i64 0]) ∧ nearG x none (es.map (·.1)) = some d ∧ PartK w.heap.size w' v d ∧ Ext w w'
theorem filter_fst (os : List (PD × Value)) : (os.filter lensX).map (·.1) = (os.map (·.1)).filter lensB := by
  rw [List.filter_map]
  rfl
theorem Rising.bef {es : List (PD × Value)} (hr : Rising es) : (es.map (·.1)).Pairwise (fun a b => bef a b = true) := by
  rw [List.pairwise_map]
  exact hr
theorem near_fst {es os : List (PD × Value)} (hr : Rising es) (he : os.map (·.1) = es.map (·.1)) (x : Rat) {m0 : PD × Value} {r : List (PD × Value)} (h : os.filter lensX = m0 :: r) : nearG x none (es.map (·.1)) = some (minX x m0 r).1 := by
  rw [near_both x (es.map (·.1)) hr.bef, ← he, ← filter_fst, h]
  show some (minF x m0.1 (r.map (·.1))) = _
  rw [minX_fst]
theorem near_nf {es os : List (PD × Value)} (he : os.map (·.1) = es.map (·.1)) (hok : ∀ y ∈ es, okPD y.1) {m0 : PD × Value} {r : List (PD × Value)} (h : os.filter lensX = m0 :: r) : ∀ y ∈ m0 :: r, nf y.1.p ≤ 2048 := by
  intro y hy
  rw [← h] at hy
  have h1 : y.1 ∈ os.map (·.1) := List.mem_map.2 ⟨y, (List.mem_filter.1 hy).1, rfl⟩
  rw [he] at h1
  obtain ⟨z, hz, e⟩ := List.mem_map.1 h1
  rw [← e]
  exact (hok z hz).1
theorem minX_in (x : Rat) (m : PD × Value) (r : List (PD × Value)) : minX x m r ∈ m :: r := by
  rcases minX_mem x r m with h | h
  · rw [h]; exact List.mem_cons_self ..
  · exact List.mem_cons_of_mem _ h
set_option maxHeartbeats 1600000 in
theorem near_none (pw : FV) (x : Rat) (w : World) (g M : Nat) (es : List (PD × Value)) (h : Cat w g M es) (hp0 : AnyF w (.agg #[.bool pw.b1, .slice pw.a1 pw.n1 pw.c1, .bool pw.b2, .slice pw.a2 pw.n2 pw.c2]) (some x)) (hne : (es.map (·.1)).filter lensB = []) :
    Calls Tryz.prog 32 #[.pointer (some ⟨g, 0, none⟩), .agg #[.bool pw.b1, .slice pw.a1 pw.n1 pw.c1, .bool pw.b2, .slice pw.a2 pw.n2 pw.c2]] w fun e w' => e = .returned (.tuple #[zeroPart, .int .i64 11]) ∧ Ext w w' := by
  obtain ⟨hp, hx⟩ := hp0.frac
  obtain ⟨wb, hwb⟩ : ∃ wb, wb = (w.alloc (.cells #[.bool pw.b1, .slice pw.a1 pw.n1 pw.c1, .bool pw.b2, .slice pw.a2 pw.n2 pw.c2] 52)).alloc (.cells #[.string ⟨#[]⟩, .int .u8 0, .bool false, .slice none 0 0, .bool false, .slice none 0 0, .bool false, .slice none 0 0, .bool false, .slice none 0 0, .int .i64 0] 56) := ⟨_, rfl⟩
  have hE : Ext w wb := by rw [hwb]; exact ((Ext.refl w).al _).al _
  have z0 := mkHid (show wb.heap[w.heap.size]? = some (.cells #[.bool pw.b1, .slice pw.a1 pw.n1 pw.c1, .bool pw.b2, .slice pw.a2 pw.n2 pw.c2] 52 (0, 0)) by rw [hwb]; exact (heap_alloc_old _ _ (by simp)).trans (heap_alloc_new _ _))
  have zR := mkHid (show wb.heap[w.heap.size + 1]? = some (.cells #[.string ⟨#[]⟩, .int .u8 0, .bool false, .slice none 0 0, .bool false, .slice none 0 0, .bool false, .slice none 0 0, .bool false, .slice none 0 0, .int .i64 0] 56 (0, 0)) by rw [hwb]; exact heap_at _ _ _ (by simp))
  have hsz := mkHid (show wb.heap.size = w.heap.size + 2 by rw [hwb]; simp)
  have hG := mkHid (gone_l g M wb (h.ext hE).str)
  have hK := mkHid (check_f _ _ wb (hp0.ext hE))
  have hA := mkHid (fun W (e : Ext w W) => all_l W g M es (h.ext e))
  have hri := mkHid h.map.rising
  have hok := mkHid h.ok
  have hfew := mkHid h.few
  have hP := mkHid (fun W (e : Ext w W) => hp.ext e)
  replace hE := mkHid hE
  replace hwb := mkHid hwb
  replace hx := mkHid hx
  replace hne := mkHid hne
  clear h hp hp0
  go_enter Tryz.func32, Tryz.ntmps32
  have tok : Tok 0 := .mk _
  go_wp2_with (first
    | ((have _t : Tok 0 := tok); clear _t; clear tok; (have tok : Tok 1 := .mk _); go_at_call 18; rw [← hwb.out]; refine hG.out.mono ?_; rintro e w' ⟨rfl, rfl⟩)
    | ((have _t : Tok 1 := tok); clear _t; clear tok; (have tok : Tok 2 := .mk _); refine wpList_load_row (by rfl) 52 (.tmp 3) rfl w.heap.size rfl 52 #[.bool pw.b1, .slice pw.a1 pw.n1 pw.c1, .bool pw.b2, .slice pw.a2 pw.n2 pw.c2] (0, 0) _ z0.out Tryz.underlying52 rfl (by kernel_rfl) ?_)
    | ((have _t : Tok 2 := tok); clear _t; clear tok; (have tok : Tok 3 := .mk _); go_at_call 60; refine hK.out.mono ?_; rintro e w2 ⟨rfl, hx2⟩; replace z0 := mkHid (hx2.blk z0.out); replace zR := mkHid (hx2.blk zR.out); replace hE := mkHid (hE.out.trans hx2); (have hs2 := mkHid (show w.heap.size + 2 ≤ w2.heap.size by have := hx2.size; have := hsz.out; omega)); clear hx2)
    | ((have _t : Tok 3 := tok); clear _t; clear tok; (have tok : Tok 4 := .mk _); go_at_call 10;
        (obtain ⟨w3, hw3⟩ : ∃ W, W = w2.alloc (.cells #[.func (.func 61) #[] #[.pointer (some ⟨w.heap.size, 0, none⟩)]] 112) := ⟨_, rfl⟩); rw [← hw3]; (have hx3 : Ext w2 w3 := by rw [hw3]; exact (Ext.refl _).al _); (have zF := mkHid (show w3.heap[w2.heap.size]? = some (.cells #[.func (.func 61) #[] #[.pointer (some ⟨w.heap.size, 0, none⟩)]] 112 (0, 0)) by rw [hw3]; exact heap_alloc_new _ _));
        replace z0 := mkHid (hx3.blk z0.out); replace zR := mkHid (hx3.blk zR.out); replace hE := mkHid (hE.out.trans hx3); (have hs3 := mkHid (show w2.heap.size < w3.heap.size by rw [hw3]; simp)); clear hx3; replace hw3 := mkHid hw3;
        refine (hA.out w3 hE.out).mono ?_; rintro e w4 ⟨v4, os, rfl, hO, hmap, hx4⟩; replace z0 := mkHid (hx4.blk z0.out); replace zR := mkHid (hx4.blk zR.out); replace zF := mkHid (hx4.blk zF.out); replace hE := mkHid (hE.out.trans hx4); (have hs4 := mkHid hx4.size); (have hol := mkHid (show os.length ≤ 64 by have h1 := congrArg List.length hmap; rw [List.length_map, List.length_map] at h1; have := hfew.out; omega)); replace hO := mkHid hO; replace hmap := mkHid hmap; clear hx4)
    | ((have _t : Tok 4 := tok); clear _t; clear tok; (have tok : Tok 5 := .mk _); go_at_call 63; refine (delete_c _ _ _ _ hO.out hol.out).mono ?_; rintro e w5 ⟨v5, rfl, hO5, hC5⟩;
        (have hb5 : ∀ k, k < w3.heap.size → w5.heap[k]? = w4.heap[k]? := fun k hk => hC5.block k (by have := hs4.out; omega) (fun e => by have := (hO.out.ownLt k e).1; omega));
        (have k1 : w.heap.size < w3.heap.size := by have := hs2.out; have := hs3.out; omega); (have k2 : w.heap.size + 1 < w3.heap.size := by have := hs2.out; have := hs3.out; omega);
        replace z0 := mkHid ((hb5 _ k1).trans z0.out); replace zR := mkHid ((hb5 _ k2).trans zR.out); replace zF := mkHid ((hb5 _ hs3.out).trans zF.out);
        replace hE := mkHid (hC5.ext w hE.out (fun k hk e => by have := (hO.out.ownLt k e).1; omega)); (obtain ⟨a5, c5, rfl, ha5⟩ := hO5.slice); replace hO5 := mkHid hO5; (have hs5 := mkHid (show w3.heap.size ≤ w5.heap.size by have := hs4.out; have := hC5.size; omega)); clear hC5 hb5; replace ha5 := mkHid ha5;
        (have hfil := mkHid (show (os.filter lensX).map (·.1) = (es.map (·.1)).filter lensB by rw [filter_fst, hmap.out])); (have hz5 : (os.filter lensX).length = 0 := by (have := congrArg List.length hfil.out; rw [hne.out, List.length_map] at this; simpa using this)); rw [hz5]; clear hz5; (have hE6 := mkHid (hE.out.row (show w.heap.size ≤ w.heap.size + 1 by omega) #[.string ⟨#[]⟩, .int .u8 0, .bool false, .slice none 0 0, .bool false, .slice none 0 0, .bool false, .slice none 0 0, .bool false, .slice none 0 0, .int .i64 0])))
    | ((have _t : Tok 5 := tok); clear _t; clear tok; (have tok : Tok 6 := .mk _); refine wpList_store_row rfl 56 (.tmp 4) (.tmp 24) rfl (w.heap.size + 1) #[.string ⟨#[]⟩, .int .u8 0, .bool false, .slice none 0 0, .bool false, .slice none 0 0, .bool false, .slice none 0 0, .bool false, .slice none 0 0, .int .i64 0] rfl rfl 56 _ zR.out (by kernel_rfl) rfl (by kernel_rfl) ?_))
  exact bodyPost_ret (results_row_tmp rfl _ _ (w.heap.size + 1) 56 #[.string ⟨#[]⟩, .int .u8 0, .bool false, .slice none 0 0, .bool false, .slice none 0 0, .bool false, .slice none 0 0, .bool false, .slice none 0 0, .int .i64 0] _ _ rfl rfl (setRow_heap _ _ _ _ _ _ zR.out) Tryz.underlying56 rfl (by kernel_rfl)) rfl ⟨rfl, hE6.out⟩
set_option maxHeartbeats 3200000 in
theorem near_ok (pw : FV) (x : Rat) (w : World) (g M : Nat) (es : List (PD × Value)) (h : Cat w g M es) (hp0 : AnyF w (.agg #[.bool pw.b1, .slice pw.a1 pw.n1 pw.c1, .bool pw.b2, .slice pw.a2 pw.n2 pw.c2]) (some x)) (hne : (es.map (·.1)).filter lensB ≠ []) :
    Calls Tryz.prog 32 #[.pointer (some ⟨g, 0, none⟩), .agg #[.bool pw.b1, .slice pw.a1 pw.n1 pw.c1, .bool pw.b2, .slice pw.a2 pw.n2 pw.c2]] w (NearQ w x es) := by
  obtain ⟨hp, hx⟩ := hp0.frac
  obtain ⟨wb, hwb⟩ : ∃ wb, wb = (w.alloc (.cells #[.bool pw.b1, .slice pw.a1 pw.n1 pw.c1, .bool pw.b2, .slice pw.a2 pw.n2 pw.c2] 52)).alloc (.cells #[.string ⟨#[]⟩, .int .u8 0, .bool false, .slice none 0 0, .bool false, .slice none 0 0, .bool false, .slice none 0 0, .bool false, .slice none 0 0, .int .i64 0] 56) := ⟨_, rfl⟩
  have hE : Ext w wb := by rw [hwb]; exact ((Ext.refl w).al _).al _
  have z0 := mkHid (show wb.heap[w.heap.size]? = some (.cells #[.bool pw.b1, .slice pw.a1 pw.n1 pw.c1, .bool pw.b2, .slice pw.a2 pw.n2 pw.c2] 52 (0, 0)) by rw [hwb]; exact (heap_alloc_old _ _ (by simp)).trans (heap_alloc_new _ _))
  have zR := mkHid (show wb.heap[w.heap.size + 1]? = some (.cells #[.string ⟨#[]⟩, .int .u8 0, .bool false, .slice none 0 0, .bool false, .slice none 0 0, .bool false, .slice none 0 0, .bool false, .slice none 0 0, .int .i64 0] 56 (0, 0)) by rw [hwb]; exact heap_at _ _ _ (by simp))
  have hsz := mkHid (show wb.heap.size = w.heap.size + 2 by rw [hwb]; simp)
  have hG := mkHid (gone_l g M wb (h.ext hE).str)
  have hK := mkHid (check_f _ _ wb (hp0.ext hE))
  have hA := mkHid (fun W (e : Ext w W) => all_l W g M es (h.ext e))
  have hri := mkHid h.map.rising
  have hok := mkHid h.ok
  have hfew := mkHid h.few
  have hP := mkHid (fun W (e : Ext w W) => hp.ext e)
  replace hE := mkHid hE
  replace hwb := mkHid hwb
  replace hx := mkHid hx
  replace hne := mkHid hne
  clear h hp hp0
  go_enter Tryz.func32, Tryz.ntmps32
  have tok : Tok 0 := .mk _
  go_wp2_with (first
    | ((have _t : Tok 0 := tok); clear _t; clear tok; (have tok : Tok 1 := .mk _); go_at_call 18; rw [← hwb.out]; refine hG.out.mono ?_; rintro e w' ⟨rfl, rfl⟩)
    | ((have _t : Tok 1 := tok); clear _t; clear tok; (have tok : Tok 2 := .mk _); refine wpList_load_row (by rfl) 52 (.tmp 3) rfl w.heap.size rfl 52 #[.bool pw.b1, .slice pw.a1 pw.n1 pw.c1, .bool pw.b2, .slice pw.a2 pw.n2 pw.c2] (0, 0) _ z0.out Tryz.underlying52 rfl (by kernel_rfl) ?_)
    | ((have _t : Tok 2 := tok); clear _t; clear tok; (have tok : Tok 3 := .mk _); go_at_call 60; refine hK.out.mono ?_; rintro e w2 ⟨rfl, hx2⟩; replace z0 := mkHid (hx2.blk z0.out); replace zR := mkHid (hx2.blk zR.out); replace hE := mkHid (hE.out.trans hx2); (have hs2 := mkHid (show w.heap.size + 2 ≤ w2.heap.size by have := hx2.size; have := hsz.out; omega)); clear hx2)
    | ((have _t : Tok 3 := tok); clear _t; clear tok; (have tok : Tok 4 := .mk _); go_at_call 10;
        (obtain ⟨w3, hw3⟩ : ∃ W, W = w2.alloc (.cells #[.func (.func 61) #[] #[.pointer (some ⟨w.heap.size, 0, none⟩)]] 112) := ⟨_, rfl⟩); rw [← hw3]; (have hx3 : Ext w2 w3 := by rw [hw3]; exact (Ext.refl _).al _); (have zF := mkHid (show w3.heap[w2.heap.size]? = some (.cells #[.func (.func 61) #[] #[.pointer (some ⟨w.heap.size, 0, none⟩)]] 112 (0, 0)) by rw [hw3]; exact heap_alloc_new _ _));
        replace z0 := mkHid (hx3.blk z0.out); replace zR := mkHid (hx3.blk zR.out); replace hE := mkHid (hE.out.trans hx3); (have hs3 := mkHid (show w2.heap.size < w3.heap.size by rw [hw3]; simp)); clear hx3; replace hw3 := mkHid hw3;
        refine (hA.out w3 hE.out).mono ?_; rintro e w4 ⟨v4, os, rfl, hO, hmap, hx4⟩; replace z0 := mkHid (hx4.blk z0.out); replace zR := mkHid (hx4.blk zR.out); replace zF := mkHid (hx4.blk zF.out); replace hE := mkHid (hE.out.trans hx4); (have hs4 := mkHid hx4.size); (have hol := mkHid (show os.length ≤ 64 by have h1 := congrArg List.length hmap; rw [List.length_map, List.length_map] at h1; have := hfew.out; omega)); replace hO := mkHid hO; replace hmap := mkHid hmap; clear hx4)
    | ((have _t : Tok 4 := tok); clear _t; clear tok; (have tok : Tok 5 := .mk _); go_at_call 63; refine (delete_c _ _ _ _ hO.out hol.out).mono ?_; rintro e w5 ⟨v5, rfl, hO5, hC5⟩;
        (have hb5 : ∀ k, k < w3.heap.size → w5.heap[k]? = w4.heap[k]? := fun k hk => hC5.block k (by have := hs4.out; omega) (fun e => by have := (hO.out.ownLt k e).1; omega));
        (have k1 : w.heap.size < w3.heap.size := by have := hs2.out; have := hs3.out; omega); (have k2 : w.heap.size + 1 < w3.heap.size := by have := hs2.out; have := hs3.out; omega);
        replace z0 := mkHid ((hb5 _ k1).trans z0.out); replace zR := mkHid ((hb5 _ k2).trans zR.out); replace zF := mkHid ((hb5 _ hs3.out).trans zF.out);
        replace hE := mkHid (hC5.ext w hE.out (fun k hk e => by have := (hO.out.ownLt k e).1; omega)); (obtain ⟨a5, c5, rfl, ha5⟩ := hO5.slice); replace hO5 := mkHid hO5; (have hs5 := mkHid (show w3.heap.size ≤ w5.heap.size by have := hs4.out; have := hC5.size; omega)); clear hC5 hb5; replace ha5 := mkHid ha5;
        (have hfil := mkHid (show (os.filter lensX).map (·.1) = (es.map (·.1)).filter lensB by rw [filter_fst, hmap.out])); (obtain ⟨m0, r, hmr⟩ := List.exists_cons_of_ne_nil (show os.filter lensX ≠ [] from fun he => hne.out (by rw [← hfil.out, he]; rfl)));
        (have hO6 := hO5.out); (have ha6 := ha5.out); rw [hmr] at hO6 ha6 ⊢; (obtain ⟨g5, rfl⟩ := ha6 (by simp)); (obtain ⟨-, hc1, hc2, hlg, rest, -, hr5⟩ := hO6.rowC);
        (have hnf := near_nf hmap.out hok.out hmr);
        (obtain ⟨n5, hn5⟩ : ∃ n, n = (m0 :: r).length := ⟨_, rfl⟩);
        (have hn64 : n5 ≤ 64 := by rw [hn5, ← hmr]; exact Nat.le_trans (List.length_filter_le _ _) hol.out);
        (have MC := min_c m0 r rest g5 c5 x pw w.heap.size w2.heap.size w5 hO6.allV (by rw [← hn5]; exact hn64) hr5 (fun y hy => (hO6.part y hy).r) hnf hx.out (hP.out _ hE.out) z0.out zF.out);
        (have hmem := minX_in x m0 r);
        (obtain ⟨dm, vm, hdm⟩ : ∃ d v, minX x m0 r = (d, v) := ⟨_, _, rfl⟩); rw [hdm] at MC hmem; (obtain ⟨pm, qm, em⟩ := hO6.allV _ hmem); (have em' : vm = .agg #[.string dm.nm, .int .u8 dm.kd, .bool pm.b1, .slice pm.a1 pm.n1 pm.c1, .bool pm.b2, .slice pm.a2 pm.n2 pm.c2, .bool qm.b1, .slice qm.a1 qm.n1 qm.c1, .bool qm.b2, .slice qm.a2 qm.n2 qm.c2, .int .i64 dm.co] := em); subst em'; rw [← hn5] at MC ⊢;
        (have hng := mkHid (show nearG x none (es.map (·.1)) = some dm by rw [near_fst hri.out hmap.out x hmr, hdm])); (have hPm := mkHid (show PartK w3.heap.size w5 (.agg #[.string dm.nm, .int .u8 dm.kd, .bool pm.b1, .slice pm.a1 pm.n1 pm.c1, .bool pm.b2, .slice pm.a2 pm.n2 pm.c2, .bool qm.b1, .slice qm.a1 qm.n1 qm.c1, .bool qm.b2, .slice qm.a2 qm.n2 qm.c2, .int .i64 dm.co]) dm from hO6.part _ hmem)); (have hn0 : ((n5 : Int) == 0) = false := by (have hp : 0 < n5 := by rw [hn5]; simp); (have hp2 : (n5 : Int) ≠ 0 := by omega); simpa using hp2); replace MC := mkHid MC; clear hO6 ha6 hr5 hnf hmem em hn64 hn5 hc1 hc2 hlg hdm hmr)
    | ((have _t : Tok 5 := tok); clear _t; clear tok; (have tok : Tok 6 := .mk _); go_at_call 65; refine MC.out.mono ?_; rintro e w6 hq; (obtain ⟨he6, hx6⟩ : e = .returned (.agg #[.string dm.nm, .int .u8 dm.kd, .bool pm.b1, .slice pm.a1 pm.n1 pm.c1, .bool pm.b2, .slice pm.a2 pm.n2 pm.c2, .bool qm.b1, .slice qm.a1 qm.n1 qm.c1, .bool qm.b2, .slice qm.a2 qm.n2 qm.c2, .int .i64 dm.co]) ∧ Ext w5 w6 := hq); subst he6; replace zR := mkHid (hx6.blk zR.out); (have hE7 := mkHid ((hE.out.trans hx6).row (show w.heap.size ≤ w.heap.size + 1 by omega) #[.string dm.nm, .int .u8 dm.kd, .bool pm.b1, .slice pm.a1 pm.n1 pm.c1, .bool pm.b2, .slice pm.a2 pm.n2 pm.c2, .bool qm.b1, .slice qm.a1 qm.n1 qm.c1, .bool qm.b2, .slice qm.a2 qm.n2 qm.c2, .int .i64 dm.co])); (have hP7 := mkHid (((hPm.out.ext hx6).row (g := w.heap.size + 1) (by have := hs2.out; have := hs3.out; omega) #[.string dm.nm, .int .u8 dm.kd, .bool pm.b1, .slice pm.a1 pm.n1 pm.c1, .bool pm.b2, .slice pm.a2 pm.n2 pm.c2, .bool qm.b1, .slice qm.a1 qm.n1 qm.c1, .bool qm.b2, .slice qm.a2 qm.n2 qm.c2, .int .i64 dm.co]).mono (show w.heap.size ≤ w3.heap.size by have := hs2.out; have := hs3.out; omega))); clear hx6)
    | ((have _t : Tok 6 := tok); clear _t; clear tok; (have tok : Tok 7 := .mk _); refine wpList_store_row rfl 56 (.tmp 4) (.tmp 27) rfl (w.heap.size + 1) #[.string dm.nm, .int .u8 dm.kd, .bool pm.b1, .slice pm.a1 pm.n1 pm.c1, .bool pm.b2, .slice pm.a2 pm.n2 pm.c2, .bool qm.b1, .slice qm.a1 qm.n1 qm.c1, .bool qm.b2, .slice qm.a2 qm.n2 qm.c2, .int .i64 dm.co] rfl rfl 56 _ zR.out (by kernel_rfl) rfl (by kernel_rfl) ?_))
  exact bodyPost_ret (results_row_tmp rfl _ _ (w.heap.size + 1) 56 #[.string dm.nm, .int .u8 dm.kd, .bool pm.b1, .slice pm.a1 pm.n1 pm.c1, .bool pm.b2, .slice pm.a2 pm.n2 pm.c2, .bool qm.b1, .slice qm.a1 qm.n1 qm.c1, .bool qm.b2, .slice qm.a2 qm.n2 qm.c2, .int .i64 dm.co] _ _ rfl rfl (setRow_heap _ _ _ _ _ _ zR.out) Tryz.underlying56 rfl (by kernel_rfl)) rfl ⟨_, dm, rfl, hng.out, hP7.out, hE7.out⟩
end Go.Proofs.YtjelnmokcpoofaaGreatDoor
