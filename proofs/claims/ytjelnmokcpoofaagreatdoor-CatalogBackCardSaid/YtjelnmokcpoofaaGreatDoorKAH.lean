/-
  Names: what is one; catalog.named. The catalogue in memory: its struct, its map, its parts; where they lie. Regions that draw their order, in which one operation that changes no memory may come late, behind operations of the tail: no program. Printed by tools/gen_late.py out of XPre. The catalogue's New, gone, Put, Drop, Get. The catalogue's Put, where it lets a part in. The catalogue's Drop and Get. exact.Read: the number of a text, or none. Decimal digits by parts of nine: no program. The digits of a number out of its parts: no program. Plain law of the reference's Digits: nine digits of each part, the low ones first, then zeros.
-/
import Derived.Test.YtjelnmokcpoofaaGreatDoorKAG
import Derived.Test.YtjelnmokcpoofaaGreatDoorKAC
import Derived.Test.YtjelnmokcpoofaaGreatDoorKAA
import Derived.Test.YtjelnmokcpoofaaGreatDoorKAB
import Derived.Test.YtjelnmokcpoofaaGreatDoorKAD
import Derived.Test.YtjelnmokcpoofaaGreatDoorKAE
import Derived.Laws.AppendOwnNone
import Derived.Deep.LoopGhost
import Derived.Shelf.Strings.SlTrimAscii
import Derived.Lib.SmallJoins
import Derived.Lib.ItoaNum
namespace Go.Proofs.YtjelnmokcpoofaaGreatDoor
set_option maxRecDepth 100000
open Go Go.RowKit Go.Proofs Go.Shelf Go.Lib
/-- The letters, digits and the stroke. -/
def cutset : List UInt8 := [97, 98, 99, 100, 101, 102, 103, 104, 105, 106, 107, 108, 109, 110, 111, 112, 113, 114, 115, 116, 117, 118, 119, 120, 121, 122, 48, 49, 50, 51, 52, 53, 54, 55, 56, 57, 45]
def nameC (c : UInt8) : Bool := (decide (97 ≤ c.toNat) && decide (c.toNat ≤ 122)) || (decide (48 ≤ c.toNat) && decide (c.toNat ≤ 57)) || c.toNat == 45
theorem cutset_nameC (c : UInt8) : cutset.contains c = nameC c := by
  have h : ∀ n : Fin 256, cutset.contains (UInt8.ofNat n.val) = nameC (UInt8.ofNat n.val) := by decide +kernel
  have := h ⟨c.toNat, c.toNat_lt⟩
  simpa using this
/-- Is it a name? -/
def nameB (l : List UInt8) : Bool := decide (0 < l.length) && (decide (l.length ≤ 32) && (decide (97 ≤ (l.headD 0).toNat) && (decide ((l.headD 0).toNat ≤ 122) && l.all nameC)))
theorem dw_all {p : UInt8 → Bool} : ∀ l : List UInt8, (∀ x ∈ l.dropWhile p, p x = true) → l.dropWhile p = []
  | [], _ => rfl
  | a :: l, h => by
    by_cases ha : p a = true
    · rw [List.dropWhile_cons_of_pos ha] at h ⊢
      exact dw_all l h
    · rw [List.dropWhile_cons_of_neg ha] at h
      exact absurd (h a (by simp)) ha
theorem dw_nil {p : UInt8 → Bool} : ∀ l : List UInt8, l.dropWhile p = [] ↔ ∀ x ∈ l, p x = true
  | [] => by simp
  | a :: l => by
    by_cases ha : p a = true
    · rw [List.dropWhile_cons_of_pos ha, dw_nil l]
      simp [ha]
    · rw [List.dropWhile_cons_of_neg ha]
      simp [ha]
theorem trimS_nil (l : List UInt8) : (Lib.trimS l cutset = []) ↔ l.all nameC = true := by
  have e : (fun c => cutset.contains c) = nameC := funext cutset_nameC
  unfold Lib.trimS Lib.trimRightS Lib.trimLeftS
  rw [e, dw_nil]
  constructor
  · intro h
    have h2 := dw_all (p := nameC) l.reverse fun x hx => h x (List.mem_reverse.2 hx)
    rw [dw_nil] at h2
    exact List.all_eq_true.2 fun x hx => h2 x (List.mem_reverse.2 hx)
  · intro h x hx
    have h2 : l.reverse.dropWhile nameC = [] := (dw_nil _).2 fun y hy => List.all_eq_true.1 h y (List.mem_reverse.1 hy)
    rw [h2] at hx
    cases hx
theorem strim_c (s : ByteArray) (w : World) (hs : s.size ≤ 9223372036854775807) :
    Calls Tryz.prog 75 #[.string s, .string ⟨#[97, 98, 99, 100, 101, 102, 103, 104, 105, 106, 107, 108, 109, 110, 111, 112, 113, 114, 115, 116, 117, 118, 119, 120, 121, 122, 48, 49, 50, 51, 52, 53, 54, 55, 56, 57, 45]⟩] w fun e w' => e = .returned (.string ⟨(Lib.trimS s.data.toList cutset).toArray⟩) ∧ Below w.heap.size w w' := by
  have hcon := Any.strings_Trim_laid Tryz.lays160 (by kernel_rfl) s ⟨#[97, 98, 99, 100, 101, 102, 103, 104, 105, 106, 107, 108, 109, 110, 111, 112, 113, 114, 115, 116, 117, 118, 119, 120, 121, 122, 48, 49, 50, 51, 52, 53, 54, 55, 56, 57, 45]⟩ w hs (by decide) (ascii_of_all (by decide))
  exact hcon
set_option maxHeartbeats 400000 in
theorem named_c (s : ByteArray) (w : World) (hs : s.size ≤ 9223372036854775807) :
    Calls Tryz.prog 38 #[.string s] w fun e w' => e = .returned (.bool (nameB s.data.toList)) ∧ Ext w w' := by
  have T := strim_c s w hs
  have e1 := trimS_nil s.data.toList
  have hsz : s.data.toList.length = s.size := Array.length_toList
  generalize Lib.trimS s.data.toList cutset = r at T e1
  unfold nameB
  rw [hsz]
  by_cases c1 : 0 < s.size
  · have hd : s.data.toList.headD 0 = s[0] := by
      obtain ⟨⟨l⟩⟩ := s
      cases l with
      | nil => simp [ByteArray.size] at c1
      | cons a l => rfl
    rw [hd]
    clear hd hsz
    by_cases c2 : s.size ≤ 32
    · by_cases c3 : 97 ≤ s[0].toNat
      · by_cases c4 : s[0].toNat ≤ 122
        · cases hall : s.data.toList.all nameC
          · have hr : r ≠ [] := fun h => by rw [e1.1 h] at hall; cases hall
            clear e1 hall
            replace T := mkHid T
            go_enter Tryz.func38, Tryz.ntmps38
            go_wp2_with (go_at_call 75; refine T.out.mono ?_; rintro e w2 ⟨rfl, hx⟩; replace hx := mkHid hx)
            go_ret
            exact ⟨by simp [c1, c2, c3, c4, hr], hx.out⟩
          · have hr : r = [] := e1.2 hall
            subst hr
            clear e1 hall
            replace T := mkHid T
            go_enter Tryz.func38, Tryz.ntmps38
            go_wp2_with (go_at_call 75; refine T.out.mono ?_; rintro e w2 ⟨rfl, hx⟩; replace hx := mkHid hx)
            go_ret
            exact ⟨by simp [c1, c2, c3, c4], hx.out⟩
        · clear T e1
          go_enter Tryz.func38, Tryz.ntmps38
          go_wp2_with fail
          go_ret
          exact ⟨by first | simp | simp [c1, c2, c3, c4], Ext.refl _⟩
      · clear T e1
        go_enter Tryz.func38, Tryz.ntmps38
        go_wp2_with fail
        go_ret
        exact ⟨by first | simp | simp [c1, c2, c3], Ext.refl _⟩
    · clear T e1
      go_enter Tryz.func38, Tryz.ntmps38
      go_wp2_with fail
      go_ret
      exact ⟨by first | simp | simp [c1, c2], Ext.refl _⟩
  · clear T e1 hsz
    go_enter Tryz.func38, Tryz.ntmps38
    go_wp2_with fail
    go_ret
    exact ⟨by simp [c1], Ext.refl _⟩
end Go.Proofs.YtjelnmokcpoofaaGreatDoor
namespace Go.Proofs.YtjelnmokcpoofaaGreatDoor
set_option maxRecDepth 100000
open Go Go.RowKit Go.Proofs
theorem Row.near {w w' : World} {a : Option Addr} {xs : List Value} (h : Row w a xs) (e : ∀ g, a.map (·.block) = some g → w'.heap[g]? = w.heap[g]?) : Row w' a xs := by
  obtain ⟨b, off, h1, h2⟩ := h
  by_cases hx : xs = []
  · subst hx
    exact ⟨b, off, h1, fun j hj => by simp at hj⟩
  · have ha := h1 hx
    refine ⟨b, off, h1, fun j hj => ?_⟩
    have hb := e b (by rw [ha]; rfl)
    rw [← h2 j hj]
    exact World.cell?_of_block hb
theorem blks_mk {b : Bool} {a : Option Addr} {n c g : Nat} (h : a.map (·.block) = some g) : g ∈ Aloof.blks (.agg #[.bool b, .slice a n c]) := by
  cases a with
  | none => cases h
  | some a => simpa [Aloof.blks, Aloof.blk1, Value.cells, eq_comm] using h
theorem IntR.near {w w' : World} {v : Value} {x : Int} (h : IntR w v x) (e : ∀ g ∈ Aloof.blks v, w'.heap[g]? = w.heap[g]?) : IntR w' v x := by
  obtain ⟨s, rfl, a, c, rfl, h1, h2⟩ := h
  exact ⟨_, rfl, _, _, rfl, h1, h2.near fun g hg => e g (blks_mk hg)⟩
theorem FracR.near {w w' : World} {v : Value} {q : Rat} (h : FracR w v q) (e : ∀ g ∈ Aloof.blks v, w'.heap[g]? = w.heap[g]?) : FracR w' v q := by
  obtain ⟨b1, a1, n1, c1, b2, a2, n2, c2, rfl, h1, h2⟩ := h
  rw [blks_agg2] at e
  exact ⟨_, _, _, _, _, _, _, _, rfl, h1.near fun g hg => e g (List.mem_append_left _ hg), h2.near fun g hg => e g (List.mem_append_right _ hg)⟩
theorem PartR.near {w w' : World} {v : Value} {d : PD} (h : PartR w v d) (e : ∀ g ∈ Aloof.blks v, w'.heap[g]? = w.heap[g]?) : PartR w' v d := by
  obtain ⟨b1, a1, n1, c1, b2, a2, n2, c2, b3, a3, n3, c3, b4, a4, n4, c4, rfl, h1, h2⟩ := h
  rw [blks_part] at e
  exact ⟨_, _, _, _, _, _, _, _, _, _, _, _, _, _, _, _, rfl, h1.near fun g hg => e g (List.mem_append_left _ hg), h2.near fun g hg => e g (List.mem_append_right _ hg)⟩
theorem MagO.near {w w' : World} {base : Nat} {a : Option Addr} {n c : Nat} {l : List Nat} (h : MagO w base (.slice a n c) l) (e : ∀ g, a.map (·.block) = some g → w'.heap[g]? = w.heap[g]?) : MagO w' base (.slice a n c) l := by
  obtain ⟨h1, h | ⟨g, cap, cur, e1, h2, h3, r⟩⟩ := h
  · exact ⟨h1, .inl h⟩
  · cases e1
    exact ⟨h1, .inr ⟨g, _, cur, rfl, h2, (e g rfl).trans h3, r⟩⟩
theorem IntO.near {w w' : World} {base : Nat} {v : Value} {x : Int} (h : IntO w base v x) (e : ∀ g ∈ Aloof.blks v, w'.heap[g]? = w.heap[g]?) : IntO w' base v x := by
  obtain ⟨b, a, n, c, rfl⟩ := h.r.shape
  obtain ⟨s, e', hm⟩ := h
  cases e'
  exact ⟨_, rfl, hm.near fun g hg => e g (blks_mk hg)⟩
theorem FracO.near {w w' : World} {base : Nat} {v : Value} {q : Rat} (h : FracO w base v q) (e : ∀ g ∈ Aloof.blks v, w'.heap[g]? = w.heap[g]?) : FracO w' base v q := by
  obtain ⟨b1, a1, n1, c1, b2, a2, n2, c2, rfl, h1, h2⟩ := h
  rw [blks_agg2] at e
  exact ⟨_, _, _, _, _, _, _, _, rfl, h1.near fun g hg => e g (List.mem_append_left _ hg), h2.near fun g hg => e g (List.mem_append_right _ hg)⟩
theorem PartK.near {lo : Nat} {w w' : World} {v : Value} {d : PD} (h : PartK lo w v d) (e : ∀ g ∈ Aloof.blks v, w'.heap[g]? = w.heap[g]?) : PartK lo w' v d := by
  obtain ⟨b1, a1, n1, c1, b2, a2, n2, c2, b3, a3, n3, c3, b4, a4, n4, c4, rfl, h1, h2, h3⟩ := h
  rw [blks_part] at e
  exact ⟨_, _, _, _, _, _, _, _, _, _, _, _, _, _, _, _, rfl, h1.near fun g hg => e g (List.mem_append_left _ hg), h2.near fun g hg => e g (List.mem_append_right _ hg), h3⟩
/-- What a part in a catalogue is. -/
def okPD (d : PD) : Prop := nf d.p ≤ 2048 ∧ nf d.q ≤ 2048 ∧ nameB d.nm.data.toList = true ∧ mayP d.kd d.co (some d.p) (some d.q) = true
/-- A catalogue: its struct lies in block g, its map in block M; its parts. -/
structure Cat (w : World) (g M : Nat) (es : List (PD × Value)) : Prop where
  str : w.heap[g]? = some (.cells #[.map (some M)] 61 (0, 0))
  map : MapP w M es
  part : ∀ x ∈ es, PartR w x.2 x.1
  lie : ∀ x ∈ es, ∀ k ∈ Aloof.blks x.2, k < w.heap.size
  out : ∀ x ∈ es, ∀ k ∈ Aloof.blks x.2, k ≠ M
  ok : ∀ x ∈ es, okPD x.1
  few : es.length ≤ 64
/-- Its blocks. -/
def catB (g M : Nat) (es : List (PD × Value)) (k : Nat) : Prop := k = g ∨ k = M ∨ ∃ x ∈ es, k ∈ Aloof.blks x.2
theorem Cat.near {w w' : World} {g M : Nat} {es : List (PD × Value)} (h : Cat w g M es) (hs : w.heap.size ≤ w'.heap.size) (e : ∀ k, catB g M es k → w'.heap[k]? = w.heap[k]?) : Cat w' g M es :=
  ⟨(e g (.inl rfl)).trans h.str, h.map.blk (e M (.inr (.inl rfl))), fun x hx => (h.part x hx).near fun k hk => e k (.inr (.inr ⟨x, hx, hk⟩)), fun x hx k hk => Nat.lt_of_lt_of_le (h.lie x hx k hk) hs, h.out, h.ok, h.few⟩
theorem Cat.lt {w : World} {g M : Nat} {es : List (PD × Value)} (h : Cat w g M es) : ∀ k, catB g M es k → k < w.heap.size := by
  rintro k (rfl | rfl | ⟨x, hx, hk⟩)
  · exact (Array.getElem?_eq_some_iff.1 h.str).1
  · exact h.map.lt
  · exact h.lie x hx k hk
theorem Cat.ext {w w' : World} {g M : Nat} {es : List (PD × Value)} (h : Cat w g M es) (e : Ext w w') : Cat w' g M es :=
  h.near e.size fun k hk => e.block k (h.lt k hk)
theorem Cat.ne {w : World} {g M : Nat} {es : List (PD × Value)} (h : Cat w g M es) : g ≠ M := by
  intro e
  obtain ⟨a, clock, hb, _⟩ := h.map
  have := h.str
  rw [e, hb] at this
  cases this
theorem mem_insP {x y : PD × Value} : ∀ {es : List (PD × Value)}, y ∈ insP x es ↔ y = x ∨ y ∈ es
  | [] => by simp [insP]
  | z :: r => by
    unfold insP
    split
    · simp
    · rw [List.mem_cons, mem_insP (es := r), List.mem_cons]
      constructor
      · rintro (h | h | h)
        · exact .inr (.inl h)
        · exact .inl h
        · exact .inr (.inr h)
      · rintro (h | h | h)
        · exact .inr (.inl h)
        · exact .inl h
        · exact .inr (.inr h)
/-- One part more. -/
theorem Cat.put {w w' : World} {g M : Nat} {es : List (PD × Value)} {d : PD} {v : Value} {lo : Nat} (h : Cat w g M es) (hm : MapP w' M (insP (d, v) es)) (ht : w.mapTurned w' M) (hv : PartK lo w v d) (hlo : M < lo) (hd : okPD d) (hl : es.length < 64) : Cat w' g M (insP (d, v) es) := by
  have hg := ht.grown
  have hb : ∀ k, k < w.heap.size → k ≠ M → w'.heap[k]? = w.heap[k]? := fun k hk hne => hg.block k hk (fun e => hne (Option.some.inj e))
  have hs : w.heap.size ≤ w'.heap.size := hg.size
  refine ⟨(hb g (Array.getElem?_eq_some_iff.1 h.str).1 h.ne).trans h.str, hm, fun x hx => ?_, fun x hx k hk => ?_, fun x hx k hk => ?_, fun x hx => ?_, by rw [insP_length]; omega⟩
  · rcases mem_insP.1 hx with rfl | hx
    · exact hv.r.near fun k hk => hb k (hv.span k hk).2 (by have := (hv.span k hk).1; omega)
    · exact (h.part x hx).near fun k hk => hb k (h.lie x hx k hk) (h.out x hx k hk)
  · rcases mem_insP.1 hx with rfl | hx
    · exact Nat.lt_of_lt_of_le (hv.span k hk).2 hs
    · exact Nat.lt_of_lt_of_le (h.lie x hx k hk) hs
  · rcases mem_insP.1 hx with rfl | hx
    · have := (hv.span k hk).1
      omega
    · exact h.out x hx k hk
  · rcases mem_insP.1 hx with rfl | hx
    · exact hd
    · exact h.ok x hx
theorem Cat.turned {w w' : World} {M : Nat} (ht : w.mapTurned w' M) : Chg w w' (· = M) := (Chg.grown ht.grown).mono fun k _ h => by cases h; rfl
/-- The shape of a fraction's value. -/
structure FV where
  b1 : Bool
  a1 : Option Addr
  n1 : Nat
  c1 : Nat
  b2 : Bool
  a2 : Option Addr
  n2 : Nat
  c2 : Nat
theorem AnyF.fv {w : World} {v : Value} {o : Option Rat} (h : AnyF w v o) : ∃ p : FV, v = .agg #[.bool p.b1, .slice p.a1 p.n1 p.c1, .bool p.b2, .slice p.a2 p.n2 p.c2] := by
  obtain ⟨b1, a1, n1, c1, b2, a2, n2, c2, e⟩ := h.shape
  exact ⟨⟨b1, a1, n1, c1, b2, a2, n2, c2⟩, e⟩
theorem FracR.fv {w : World} {v : Value} {x : Rat} (h : FracR w v x) : ∃ p : FV, v = .agg #[.bool p.b1, .slice p.a1 p.n1 p.c1, .bool p.b2, .slice p.a2 p.n2 p.c2] := by
  obtain ⟨b1, a1, n1, c1, b2, a2, n2, c2, e⟩ := h.shape
  exact ⟨⟨b1, a1, n1, c1, b2, a2, n2, c2⟩, e⟩
theorem PartR.fv {w : World} {v : Value} {d : PD} (h : PartR w v d) : ∃ p q : FV, v = .agg #[.string d.nm, .int .u8 d.kd, .bool p.b1, .slice p.a1 p.n1 p.c1, .bool p.b2, .slice p.a2 p.n2 p.c2, .bool q.b1, .slice q.a1 q.n1 q.c1, .bool q.b2, .slice q.a2 q.n2 q.c2, .int .i64 d.co] ∧ FracR w (.agg #[.bool p.b1, .slice p.a1 p.n1 p.c1, .bool p.b2, .slice p.a2 p.n2 p.c2]) d.p ∧ FracR w (.agg #[.bool q.b1, .slice q.a1 q.n1 q.c1, .bool q.b2, .slice q.a2 q.n2 q.c2]) d.q := by
  obtain ⟨b1, a1, n1, c1, b2, a2, n2, c2, b3, a3, n3, c3, b4, a4, n4, c4, e, h1, h2⟩ := h
  exact ⟨⟨b1, a1, n1, c1, b2, a2, n2, c2⟩, ⟨b3, a3, n3, c3, b4, a4, n4, c4⟩, e, h1, h2⟩
theorem PartR.mk {w : World} {d : PD} {p q : FV} (h1 : FracR w (.agg #[.bool p.b1, .slice p.a1 p.n1 p.c1, .bool p.b2, .slice p.a2 p.n2 p.c2]) d.p) (h2 : FracR w (.agg #[.bool q.b1, .slice q.a1 q.n1 q.c1, .bool q.b2, .slice q.a2 q.n2 q.c2]) d.q) : PartR w (.agg #[.string d.nm, .int .u8 d.kd, .bool p.b1, .slice p.a1 p.n1 p.c1, .bool p.b2, .slice p.a2 p.n2 p.c2, .bool q.b1, .slice q.a1 q.n1 q.c1, .bool q.b2, .slice q.a2 q.n2 q.c2, .int .i64 d.co]) d :=
  ⟨_, _, _, _, _, _, _, _, _, _, _, _, _, _, _, _, rfl, h1, h2⟩
theorem may_v (nm : ByteArray) (kd co : Int) (p q : FV) (op oq : Option Rat) (w : World) (h1 : AnyF w (.agg #[.bool p.b1, .slice p.a1 p.n1 p.c1, .bool p.b2, .slice p.a2 p.n2 p.c2]) op) (h2 : AnyF w (.agg #[.bool q.b1, .slice q.a1 q.n1 q.c1, .bool q.b2, .slice q.a2 q.n2 q.c2]) oq) :
    Calls Tryz.prog 40 #[.agg #[.string nm, .int .u8 kd, .bool p.b1, .slice p.a1 p.n1 p.c1, .bool p.b2, .slice p.a2 p.n2 p.c2, .bool q.b1, .slice q.a1 q.n1 q.c1, .bool q.b2, .slice q.a2 q.n2 q.c2, .int .i64 co]] w fun e w' => e = .returned (.bool (mayP kd co op oq)) ∧ Ext w w' :=
  may_c nm kd co _ _ _ _ _ _ _ _ _ _ _ _ _ _ _ _ op oq w h1 h2
end Go.Proofs.YtjelnmokcpoofaaGreatDoor
namespace Go.Proofs.YtjelnmokcpoofaaGreatDoor.Late
set_option maxRecDepth 100000
open Go Go.RowKit Go.Proofs.YtjelnmokcpoofaaGreatDoor
def okOper (pre : List Nat) (l : List Oper) (n i : Nat) (o : Oper) : Bool :=
  (o.after.toList.all fun e => !Region.binds .any e || decide (e.on < i)) &&
  (if i < n then
    o.dst.isSome && (List.range l.length).all fun j => match l[j]? with
      | some oj => (match oj.dst with
        | some d => (!(o.looksAt l.toArray).contains d || (decide (j < i) && hasEdge o j)) && (j == i || o.dst != some d)
        | none => true)
      | none => true
  else (List.range i).all fun j => pre.contains j || ancB l 16 o j)
def okFree (pre : List Nat) (n size : Nat) (l : List Oper) : Bool :=
  Region.noSelect l.toArray && decide (n ≤ l.length) && (l.all fun o => match o.dst with | some d => decide (d < size) | none => true) &&
    (List.range l.length).all fun i => match l[i]? with | some o => okOper pre l n i o | none => true
section
variable {pre : List Nat} {P : Program} {l0 : List Oper} {R : World → World → Prop} {w0 : World} {Q : Exit → Act → World → Prop}
theorem tail_forced {n : Nat} (htail : ∀ i o, n ≤ i → l0[i]? = some o → ∀ j, j < i → j ∈ pre ∨ ancB l0 16 o j = true) :
    ∀ (k m : Nat) (listed : Array Bool) (a : Act) (W : World) (fuel : Nat), n ≤ m → m + k = l0.length → k ≤ fuel → listed.size = l0.length → (∀ j ∈ pre, listed.getD j false = true) →
      (∀ i o, listed.getD i false = true → l0[i]? = some o → ∀ e ∈ o.after, Region.binds .any e = true → listed.getD e.on false = true) →
      (∀ i, i < l0.length → (listed.getD i false = true ↔ i < m)) →
      (∀ i o, l0[i]? = some o → ∀ e ∈ o.after, Region.binds .any e = true → e.on < i) →
      wpList P l0.toArray Q (l0.drop m) a W → wpAny P .any l0.toArray Q fuel listed a W := by
  intro k
  induction k with
  | zero =>
    intro m listed a W fuel _ hmk _ hsz _ _ hlst _ h
    have hr : Region.ready .any l0.toArray listed = [] := by
      cases hr : Region.ready .any l0.toArray listed with
      | nil => rfl
      | cons i r =>
        have := (mem_ready (md := .any) (ops := l0.toArray) (listed := listed) (j := i)).1 (by rw [hr]; simp)
        have hlt := lt_of_unlisted this.1
        have h2 := (hlst i (by omega)).2 (by omega)
        have h3 := this.1
        simp [hlt] at h2 h3
        rw [h2] at h3
        cases h3
    rw [List.drop_eq_nil_of_le (show l0.length ≤ m by omega)] at h
    exact wpAny_done hr h fuel
  | succ k ih =>
    intro m listed a W fuel hnm hmk hfuel hsz hpre hcl hlst hed h
    obtain ⟨fuel, rfl⟩ : ∃ f, fuel = f + 1 := ⟨fuel - 1, by omega⟩
    have hml : m < l0.length := by omega
    have ho : l0[m]? = some l0[m] := List.getElem?_eq_getElem hml
    have hun : listed.getD m true = false := by
      rcases listed_cases (listed := listed) (i := m) (by omega) with h1 | h1
      · have := (hlst m hml).1 h1; omega
      · exact h1
    have hready : m ∈ Region.ready .any l0.toArray listed := by
      rw [mem_ready]
      exact ⟨hun, _, by simp [hml], fun e he hb => (hlst e.on (by have := hed m _ ho e he hb; omega)).2 (hed m _ ho e he hb)⟩
    refine ⟨fun h0 => absurd (h0 ▸ hready) (by simp), fun i hi => ?_⟩
    have him : i = m := by
      obtain ⟨h1, o, ho', hall⟩ := mem_ready.1 hi
      have hlt := lt_of_unlisted h1
      rcases Nat.lt_trichotomy i m with hlt' | he | hgt
      · have h2 := (hlst i (by omega)).2 hlt'
        simp [hlt] at h1 h2
        rw [h2] at h1; cases h1
      · exact he
      · have ho'' : l0[i]? = some o := by simpa using ho'
        have := (htail i o (by omega) ho'' m hgt).elim (fun hp => hpre m hp) (listed_anc hcl 16 o m hall)
        have := (hlst m hml).1 this
        omega
    subst him
    unfold wpOp
    simp only [List.getElem?_toArray, ho]
    rw [List.drop_eq_getElem_cons hml] at h
    simp only [wpList] at h
    have next : ∀ a' W', wpList P l0.toArray Q (l0.drop (i + 1)) a' W' → wpAny P .any l0.toArray Q fuel (listed.setIfInBounds i true) a' W' := by
      intro a' W' h'
      refine ih (i + 1) _ a' W' fuel (by omega) (by omega) (by omega) (by simpa using hsz) (fun j hj => getD_set_true (hpre j hj)) ?_ ?_ hed h'
      · intro j o hj hoj e he hb
        by_cases hij : i = j
        · subst hij
          rw [ho] at hoj
          cases hoj
          exact getD_set_true ((hlst e.on (by have := hed i _ ho e he hb; omega)).2 (hed i _ ho e he hb))
        · rw [getD_set_ne false hij] at hj
          exact getD_set_true (hcl j o hj hoj e he hb)
      · intro j hj
        by_cases hij : i = j
        · subst hij
          simp [show i < listed.size by omega]
        · rw [getD_set_ne false hij, hlst j hj]
          omega
    split
    · rename_i hw
      rw [if_pos hw] at h
      exact h.imp (Oper.wp_mono next) id
    · rename_i hw
      rw [if_neg hw] at h
      exact next _ _ h
structure OkSpec (pre : List Nat) (l : List Oper) (n size : Nat) : Prop where
  sel : ∀ (j : Nat) (o : Oper) cs b, l[j]? = some o → o.op ≠ .select cs b
  len : n ≤ l.length
  dst : ∀ (j : Nat) (o : Oper) (d : Tmp), l[j]? = some o → o.dst = some d → d < size
  edge : ∀ (i : Nat) (o : Oper), l[i]? = some o → ∀ e ∈ o.after, Region.binds .any e = true → e.on < i
  has : ∀ (i : Nat) (o : Oper), i < n → l[i]? = some o → o.dst.isSome = true
  look : ∀ (i : Nat) (o : Oper) (j : Nat) (oj : Oper) (d : Tmp), i < n → l[i]? = some o → l[j]? = some oj → oj.dst = some d → d ∈ o.looksAt l.toArray → j < i ∧ hasEdge o j = true
  one : ∀ (i : Nat) (o : Oper) (j : Nat) (oj : Oper) (d : Tmp), i < n → l[i]? = some o → l[j]? = some oj → oj.dst = some d → i ≠ j → o.dst ≠ some d
  tail : ∀ (i : Nat) (o : Oper), n ≤ i → l[i]? = some o → ∀ j, j < i → j ∈ pre ∨ ancB l 16 o j = true
theorem okFree_spec {n size : Nat} {l : List Oper} (h : okFree pre n size l = true) : OkSpec pre l n size := by
  simp only [okFree, Bool.and_eq_true, decide_eq_true_eq, List.all_eq_true, List.mem_range] at h
  obtain ⟨⟨⟨h1, h2⟩, h3⟩, h4⟩ := h
  have at_ : ∀ i o, l[i]? = some o → okOper pre l n i o = true := by
    intro i o ho
    have := h4 i (List.getElem?_eq_some_iff.1 ho).1
    rwa [ho] at this
  refine ⟨fun j o cs b hj => Region.noSelect_spec h1 j o cs b (by simpa using hj), h2, ?_, ?_, ?_, ?_, ?_, ?_⟩
  · intro j o d ho hd
    have := h3 o (List.mem_of_getElem? ho)
    simpa [hd] using this
  · intro i o ho e he hb
    have := at_ i o ho
    simp only [okOper, Bool.and_eq_true, List.all_eq_true, Bool.or_eq_true, Bool.not_eq_true', decide_eq_true_eq] at this
    have := this.1 e (Array.mem_toList_iff.2 he)
    rcases this with h | h
    · rw [h] at hb; cases hb
    · exact h
  · intro i o hi ho
    have := at_ i o ho
    simp only [okOper, Bool.and_eq_true, if_pos hi] at this
    exact this.2.1
  · intro i o j oj d hi ho hj hd hm
    have := at_ i o ho
    simp only [okOper, Bool.and_eq_true, if_pos hi, List.all_eq_true, List.mem_range] at this
    have := this.2.2 j (List.getElem?_eq_some_iff.1 hj).1
    simp only [hj, hd, Bool.and_eq_true, Bool.or_eq_true, Bool.not_eq_true', decide_eq_true_eq] at this
    rcases this.1 with h | h
    · have := List.contains_iff_mem.2 hm
      rw [h] at this; cases this
    · exact h
  · intro i o j oj d hi ho hj hd hne
    have := at_ i o ho
    simp only [okOper, Bool.and_eq_true, if_pos hi, List.all_eq_true, List.mem_range] at this
    have := this.2.2 j (List.getElem?_eq_some_iff.1 hj).1
    simp only [hj, hd, Bool.and_eq_true, Bool.or_eq_true, beq_iff_eq, bne_iff_ne, ne_eq] at this
    rcases this.2 with h | h
    · exact absurd h.symm hne
    · exact h
  · intro i o hi ho j hj
    have := at_ i o ho
    simp only [okOper, Bool.and_eq_true, if_neg (Nat.not_lt.2 hi), List.all_eq_true, List.mem_range] at this
    have := this.2 j hj
    rw [Bool.or_eq_true] at this
    exact this.imp (fun h => List.contains_iff_mem.1 h) id
/-- Where a region stands, whatever came first. -/
structure Midway (pre : List Nat) (l : List Oper) (specs : List FSpec) (R : World → World → Prop) (w0 : World) (a0 : Act) (listed : Array Bool) (a : Act) (W : World) : Prop where
  size : listed.size = l.length
  rel : R w0 W
  defers : a.defers = a0.defers
  tsize : a.tmps.size = a0.tmps.size
  closed : ∀ (i : Nat) (o : Oper), listed.getD i false = true → l[i]? = some o → ∀ e ∈ o.after, Region.binds .any e = true → listed.getD e.on false = true
  other : ∀ (t : Tmp), (∀ (j : Nat) (o : Oper), l[j]? = some o → listed.getD j false = true → o.dst ≠ some t) → a.tmps[t]? = a0.tmps[t]?
  fact : ∀ (j : Nat) (o : Oper) (d : Tmp) (s : FSpec), listed.getD j false = true → l[j]? = some o → o.dst = some d → specs[j]? = some s → s.ok W (a.tmps.getD d undef)
  late : ∀ (j : Nat), specs.length ≤ j → listed.getD j false = false
theorem Midway.value {specs : List FSpec} {a0 a : Act} {listed : Array Bool} {W : World} (m : Midway pre l0 specs R w0 a0 listed a W) {j : Nat} {o : Oper} {d : Tmp} (hj : listed.getD j false = true) (ho : l0[j]? = some o) (hd : o.dst = some d) :
    a.tmps.getD d undef = valuesOf l0 specs a j := by
  have hlt : j < specs.length := by
    rcases Nat.lt_or_ge j specs.length with h | h
    · exact h
    · rw [m.late j h] at hj; cases hj
  have hs : specs[j]? = some specs[j] := List.getElem?_eq_getElem hlt
  have := m.fact j o d _ hj ho hd hs
  generalize specs[j] = s at this hs
  cases s with
  | val c => simp only [FSpec.ok] at this; simp [valuesOf, hs, this]
  | pred Φ => simp [valuesOf, hs, ho, hd]
theorem Midway.tmp {specs : List FSpec} {a0 a : Act} {listed : Array Bool} {W : World} (m : Midway pre l0 specs R w0 a0 listed a W) (ok : OkSpec pre l0 specs.length a0.tmps.size) (k t : Nat) (hk : k ≤ specs.length)
    (h : ∀ (j : Nat) (oj : Oper), l0[j]? = some oj → oj.dst = some t → j < k ∧ listed.getD j false = true) : (frameAt a0 l0 (valuesOf l0 specs a) k).tmps[t]? = a.tmps[t]? := by
  by_cases hex : ∃ (j : Nat) (oj : Oper), l0[j]? = some oj ∧ oj.dst = some t
  · obtain ⟨j, oj, hj, hd⟩ := hex
    obtain ⟨hjk, hlj⟩ := h j oj hj hd
    have ht := ok.dst j oj t hj hd
    rw [frameAt_own a0 l0 _ k t j oj hjk hj hd ht fun i o' hne ho' hd' => by
      rcases Nat.lt_or_ge i specs.length with hi | hi
      · exact ok.one i o' j oj t hi ho' hj hd hne hd'
      · exact ok.one j oj i o' t (by omega) hj ho' hd' (Ne.symm hne) hd]
    rw [← m.value hlj hj hd]
    have : t < a.tmps.size := by rw [m.tsize]; exact ht
    simp [this]
  · rw [frameAt_other a0 l0 _ k t fun j o _ ho hd => hex ⟨j, o, ho, hd⟩, m.other t fun j o ho _ hd => hex ⟨j, o, ho, hd⟩]
theorem Midway.next {specs : List FSpec} {a0 a : Act} {listed : Array Bool} {W : World} (m : Midway pre l0 specs R w0 a0 listed a W) (ok : OkSpec pre l0 specs.length a0.tmps.size) (htr : ∀ a b c, R a b → R b c → R a c)
    (hst : ∀ s ∈ specs, ∀ W W' v, R W W' → s.ok W v → s.ok W' v) {i : Nat} {o : Oper} (hi : i < specs.length) (ho : l0[i]? = some o) (hedge : ∀ e ∈ o.after, Region.binds .any e = true → listed.getD e.on false = true) :
    ∀ W' v, R W W' → specs[i].ok W' v → Midway pre l0 specs R w0 a0 (listed.setIfInBounds i true) (a.put o.dst v) W' := by
  have hil : i < l0.length := (List.getElem?_eq_some_iff.1 ho).1
  have hlt : i < listed.size := by rw [m.size]; exact hil
  have hs : specs[i]? = some specs[i] := List.getElem?_eq_getElem hi
  intro W' v hR hv
  refine ⟨by simpa using m.size, htr _ _ _ m.rel hR, ?_, ?_, ?_, ?_, ?_, ?_⟩
  · rw [← m.defers]; cases o.dst <;> rfl
  · rw [← m.tsize]; cases hd : o.dst <;> simp [Act.put]
  · intro j oj hj hoj e he hb
    by_cases hij : i = j
    · subst hij
      rw [ho] at hoj; cases hoj
      exact getD_set_true (hedge e he hb)
    · rw [getD_set_ne false hij] at hj
      exact getD_set_true (m.closed j oj hj hoj e he hb)
  · intro t ht
    have hne : o.dst ≠ some t := ht i o ho (by simp [hlt])
    rw [← m.other t fun j oj hoj hj => ht j oj hoj (by
      by_cases hij : i = j
      · subst hij; simp [hlt]
      · rw [getD_set_ne false hij]; exact hj)]
    cases hd : o.dst with
    | none => rfl
    | some d =>
      have : d ≠ t := fun e => hne (by rw [hd, e])
      simp [Act.put, Array.getElem?_setIfInBounds_ne this]
  · intro j oj d s hj hoj hdj hsj
    by_cases hij : i = j
    · subst hij
      rw [ho] at hoj; cases hoj
      rw [hs] at hsj; cases hsj
      have hsz : d < a.tmps.size := by rw [m.tsize]; exact ok.dst i _ d ho hdj
      simpa [Act.put, hdj, hsz] using hv
    · rw [getD_set_ne false hij] at hj
      have hf := m.fact j oj d s hj hoj hdj hsj
      have hf := hst s (List.mem_of_getElem? hsj) _ _ _ hR hf
      have hnd : o.dst ≠ some d := ok.one i o j oj d hi ho hoj hdj hij
      cases hd : o.dst with
      | none => simpa [Act.put] using hf
      | some e =>
        have : e ≠ d := fun e' => hnd (by rw [hd, e'])
        simpa [Act.put, Array.getElem?_setIfInBounds_ne this] using hf
  · intro j hj
    rw [getD_set_ne false (show i ≠ j by omega)]
    exact m.late j hj
/-- One operation more, none of the tail. -/
theorem Midway.step {specs : List FSpec} {a0 a : Act} {listed : Array Bool} {W : World} (m : Midway pre l0 specs R w0 a0 listed a W) (ok : OkSpec pre l0 specs.length a0.tmps.size) (hrf : ∀ a, R a a) (htr : ∀ a b c, R a b → R b c → R a c)
    (hst : ∀ s ∈ specs, ∀ W W' v, R W W' → s.ok W v → s.ok W' v) (h : freeSteps P l0 R w0 Q 0 specs l0 a0 []) {i : Nat} (hi : i < specs.length) (hr : i ∈ Region.ready .any l0.toArray listed) :
    wpOp P l0.toArray Q i (fun a' W' => Midway pre l0 specs R w0 a0 (listed.setIfInBounds i true) a' W') a W := by
  obtain ⟨hun, o, ho', hedge⟩ := mem_ready.1 hr
  have ho : l0[i]? = some o := by simpa using ho'
  have hil : i < l0.length := (List.getElem?_eq_some_iff.1 ho).1
  have hlt : i < listed.size := by rw [m.size]; exact hil
  have hat := steps_at h (valuesOf l0 specs a) (valuesOf_fits l0 specs a) i (by omega)
  rw [List.drop_eq_getElem_cons hi, List.drop_eq_getElem_cons hil] at hat
  have hs : specs[i]? = some specs[i] := List.getElem?_eq_getElem hi
  have hoi : l0[i] = o := by
    have := List.getElem?_eq_getElem hil
    rw [ho] at this
    exact (Option.some.inj this).symm
  rw [hoi] at hat
  have hfacts : ∀ p ∈ factsAt specs (valuesOf l0 specs a) i, leans l0 o p.1 = true → p.2.1.ok W p.2.2 := by
    intro p hp hl
    obtain ⟨h1, h2, h3⟩ := mem_factsAt hp
    unfold leans at hl
    split at hl
    · rename_i d hd
      obtain ⟨oj, hj, hdj⟩ := Option.bind_eq_some_iff.1 hd
      have hlook := ok.look i o p.1 oj d hi ho hj hdj (List.contains_iff_mem.1 hl)
      have hlj : listed.getD p.1 false = true := listed_anc (l0 := l0) m.closed 0 o p.1 hedge hlook.2
      have := m.fact p.1 oj d p.2.1 hlj hj hdj h2
      rw [h3, ← m.value hlj hj hdj]
      exact this
    · cases hl
  have hsame : ∀ t, t ∈ o.looksAt l0.toArray → (frameAt a0 l0 (valuesOf l0 specs a) i).tmps[t]? = a.tmps[t]? := by
    intro t ht
    refine m.tmp ok i t (by omega) fun j oj hj hdj => ?_
    have hlook := ok.look i o j oj t hi ho hj hdj ht
    exact ⟨hlook.1, listed_anc (l0 := l0) m.closed 0 o j hedge hlook.2⟩
  have hev : execOp (frameAt a0 l0 (valuesOf l0 specs a) i).eval o = execOp a.eval o := eval_of_tmps o (fun cs b => ok.sel i o cs b ho) hsame
  have hwa : Region.wanted o (yielded l0.toArray (frameAt a0 l0 (valuesOf l0 specs a) i).tmps) = Region.wanted o (yielded l0.toArray a.tmps) := wanted_of_tmps o hsame
  -- what is left to show of each value
  have next : ∀ W' v, R W W' → specs[i].ok W' v → Midway pre l0 specs R w0 a0 (listed.setIfInBounds i true) (a.put o.dst v) W' := by
    intro W' v hR hv
    refine ⟨by simpa using m.size, htr _ _ _ m.rel hR, ?_, ?_, ?_, ?_, ?_, ?_⟩
    · rw [← m.defers]; cases o.dst <;> rfl
    · rw [← m.tsize]; cases hd : o.dst <;> simp [Act.put]
    · intro j oj hj hoj e he hb
      by_cases hij : i = j
      · subst hij
        rw [ho] at hoj; cases hoj
        exact getD_set_true (hedge e he hb)
      · rw [getD_set_ne false hij] at hj
        exact getD_set_true (m.closed j oj hj hoj e he hb)
    · intro t ht
      have hne : o.dst ≠ some t := ht i o ho (by simp [hlt])
      rw [← m.other t fun j oj hoj hj => ht j oj hoj (by
        by_cases hij : i = j
        · subst hij; simp [hlt]
        · rw [getD_set_ne false hij]; exact hj)]
      cases hd : o.dst with
      | none => rfl
      | some d =>
        have : d ≠ t := fun e => hne (by rw [hd, e])
        simp [Act.put, Array.getElem?_setIfInBounds_ne this]
    · intro j oj d s hj hoj hdj hsj
      by_cases hij : i = j
      · subst hij
        rw [ho] at hoj; cases hoj
        rw [hs] at hsj; cases hsj
        have hsz : d < a.tmps.size := by rw [m.tsize]; exact ok.dst i _ d ho hdj
        simpa [Act.put, hdj, hsz] using hv
      · rw [getD_set_ne false hij] at hj
        have hf := m.fact j oj d s hj hoj hdj hsj
        have hf := hst s (List.mem_of_getElem? hsj) _ _ _ hR hf
        have hnd : o.dst ≠ some d := ok.one i o j oj d hi ho hoj hdj hij
        cases hd : o.dst with
        | none => simpa [Act.put] using hf
        | some e =>
          have : e ≠ d := fun e' => hnd (by rw [hd, e'])
          simpa [Act.put, Array.getElem?_setIfInBounds_ne this] using hf
    · intro j hj
      rw [getD_set_ne false (show i ≠ j by omega)]
      exact m.late j hj
  unfold wpOp
  simp only [List.getElem?_toArray, ho]
  generalize hsp : specs[i] = s at hat next
  cases s with
  | val c =>
    simp only [freeSteps] at hat
    have hone := hat.1 W m.rel (factsHold_of hfacts)
    rw [hwa, hev] at hone
    split
    · rename_i hw
      rw [if_pos hw] at hone
      refine .inl (upon_of_gives hone fun w' v hv => next _ _ hv.1 hv.2)
    · rename_i hw
      rw [if_neg hw] at hone
      exact next W undef (hrf W) hone
  | pred Φ =>
    simp only [freeSteps] at hat
    have hone := hat.1 W m.rel (factsHold_of hfacts)
    rw [hwa, hev] at hone
    split
    · rename_i hw
      rw [if_pos hw] at hone
      refine .inl (upon_of_gives hone fun w' v hv => next _ _ hv.1 hv.2)
    · rename_i hw
      rw [if_neg hw] at hone
      exact next W undef (hrf W) hone
/-- All of the front is done, and nothing else: the frame is the lexical walk's. -/
theorem Midway.done {specs : List FSpec} {a0 a : Act} {listed : Array Bool} {W : World} (m : Midway pre l0 specs R w0 a0 listed a W) (ok : OkSpec pre l0 specs.length a0.tmps.size) (hall : ∀ j, j < specs.length → listed.getD j false = true) :
    a = frameAt a0 l0 (valuesOf l0 specs a) specs.length ∧ ∀ p ∈ factsAt specs (valuesOf l0 specs a) specs.length, p.2.1.ok W p.2.2 := by
  refine ⟨?_, fun p hp => ?_⟩
  · obtain ⟨tm, df⟩ := a
    have hdf := frameAt_defers a0 l0 (valuesOf l0 specs ⟨tm, df⟩) specs.length
    have htm : tm = (frameAt a0 l0 (valuesOf l0 specs ⟨tm, df⟩) specs.length).tmps := by
      refine Array.ext_getElem? fun t => ?_
      by_cases hex : ∃ (j : Nat) (oj : Oper), l0[j]? = some oj ∧ oj.dst = some t ∧ specs.length ≤ j
      · obtain ⟨j, oj, hj, hd, hge⟩ := hex
        by_cases hin : ∃ (i : Nat) (oi : Oper), l0[i]? = some oi ∧ oi.dst = some t ∧ i < specs.length
        · obtain ⟨i, oi, hi, hdi, hlt⟩ := hin
          exact absurd hdi (ok.one i oi j oj t hlt hi hj hd (by omega))
        · rw [frameAt_other a0 l0 _ _ t fun i o hi ho hd' => hin ⟨i, o, ho, hd', hi⟩]
          refine m.other t fun i o ho hl hd' => ?_
          rcases Nat.lt_or_ge i specs.length with h | h
          · exact hin ⟨i, o, ho, hd', h⟩
          · rw [m.late i h] at hl; cases hl
      · refine (m.tmp ok specs.length t (Nat.le_refl _) fun j oj hj hd => ?_).symm
        have hlt : j < specs.length := by
          rcases Nat.lt_or_ge j specs.length with h | h
          · exact h
          · exact absurd ⟨j, oj, hj, hd, h⟩ hex
        exact ⟨hlt, hall j hlt⟩
    have h1 : (frameAt a0 l0 (valuesOf l0 specs ⟨tm, df⟩) specs.length).defers = df := by rw [hdf, ← m.defers]
    generalize frameAt a0 l0 (valuesOf l0 specs ⟨tm, df⟩) specs.length = f at htm h1
    obtain ⟨ft, fd⟩ := f
    simp only at htm h1
    rw [htm, h1]
  · obtain ⟨h1, h2, h3⟩ := mem_factsAt hp
    have hil : p.1 < l0.length := by have := ok.len; omega
    have ho : l0[p.1]? = some l0[p.1] := List.getElem?_eq_getElem hil
    rw [h3]
    cases hd : l0[p.1].dst with
    | some d =>
      rw [← m.value (hall p.1 h1) ho hd]
      exact m.fact p.1 _ d _ (hall p.1 h1) ho hd h2
    | none =>
      have := ok.has p.1 _ h1 ho
      simp [hd] at this
theorem free_mono {md : Region.Mode} {ops : Array Oper} {listed : Array Bool} {i : Nat} (f : Nat → Bool) (hl : ∀ j, f j = true → listed.getD j true = true) (h : Region.free md ops (((List.range ops.size).map f).toArray) i = true) : Region.free md ops listed i = true := by
  unfold Region.free at *
  split at h
  · cases h
  · rw [List.all_eq_true] at *
    intro j hj
    have := h j hj
    have hjl : j < ops.size := List.mem_range.1 hj
    have e : (((List.range ops.size).map f).toArray).getD j true = f j := by simp [hjl]
    rw [e] at this
    cases h2 : listed.getD j true with
    | true => simp
    | false =>
      have h3 : f j = false := by
        cases h4 : f j with
        | false => rfl
        | true => rw [hl j h4] at h2; cases h2
      rw [h3] at this
      exact this
theorem free_any {specs : List FSpec} {a0 : Act} {k : Nat} {ok' : Oper} {d : Tmp} {v : Value} (hpk : pre = [k]) (hk : l0[k]? = some ok') (_hkd : ok'.dst = some d) (hks : specs[k]? = some (.val v)) (hns : Region.noSelect l0.toArray = true)
    (hf : Region.free .any l0.toArray (((List.range l0.toArray.size).map fun j => hasEdge ok' j).toArray) k = true) (hQ : ∀ c a w, Q (.panic c) (a.put ok'.dst v) w → Q (.panic c) a w)
    (hy : ∀ (a : Act) (W : World), R w0 W → (∀ j s oj dj, specs[j]? = some s → l0[j]? = some oj → oj.dst = some dj → hasEdge ok' j = true → s.ok W (a.tmps.getD dj undef)) → Yields P l0.toArray ok' v a)
    (ok : OkSpec pre l0 specs.length a0.tmps.size) (hrf : ∀ a, R a a) (htr : ∀ a b c, R a b → R b c → R a c)
    (hst : ∀ s ∈ specs, ∀ W W' v, R W W' → s.ok W v → s.ok W' v) (h : freeSteps P l0 R w0 Q 0 specs l0 a0 []) :
    ∀ (fuel : Nat) (listed : Array Bool) (a : Act) (W : World), left l0 listed ≤ fuel → Midway pre l0 specs R w0 a0 listed a W → wpAny P .any l0.toArray Q fuel listed a W := by
  have fin : ∀ (listed : Array Bool) (a : Act) (W : World), Midway pre l0 specs R w0 a0 listed a W → (∀ j, j < specs.length → listed.getD j false = true) → wpList P l0.toArray Q (l0.drop specs.length) a W := by
    intro listed a W m hall
    obtain ⟨he, hf⟩ := m.done ok hall
    have hat := steps_at h (valuesOf l0 specs a) (valuesOf_fits l0 specs a) specs.length (Nat.le_refl _)
    rw [List.drop_length] at hat
    simp only [freeSteps] at hat
    have := hat W m.rel (factsHold_of fun p hp _ => hf p hp)
    rwa [← he] at this
  have hkn : k < specs.length := (List.getElem?_eq_some_iff.1 hks).1
  have hpre : ∀ (listed : Array Bool), (∀ j, j < specs.length → listed.getD j false = true) → ∀ j ∈ pre, listed.getD j false = true := by
    intro listed hall j hj
    rw [hpk] at hj
    obtain rfl := List.mem_singleton.1 hj
    exact hall _ hkn
  have hlst : ∀ (listed : Array Bool) (a : Act) (W : World), Midway pre l0 specs R w0 a0 listed a W → (∀ j, j < specs.length → listed.getD j false = true) → ∀ i, i < l0.length → (listed.getD i false = true ↔ i < specs.length) := by
    intro listed a W m hall i hi
    constructor
    · intro hl
      rcases Nat.lt_or_ge i specs.length with h | h
      · exact h
      · rw [m.late i h] at hl; cases hl
    · exact hall i
  intro fuel
  induction fuel with
  | zero =>
    intro listed a W hl m
    have hnone : ∀ i, i < l0.length → listed.getD i true = true := by
      intro i hi
      have h0 : ((List.range l0.length).filter fun i => !listed.getD i true) = [] := List.eq_nil_of_length_eq_zero (by unfold left at hl; omega)
      have := List.filter_eq_nil_iff.1 h0 i (List.mem_range.2 hi)
      simpa using this
    have hall : ∀ j, j < specs.length → listed.getD j false = true := by
      intro j hj
      have h1 := hnone j (by have := ok.len; omega)
      rcases listed_cases (listed := listed) (i := j) (by rw [m.size]; have := ok.len; omega) with h2 | h2
      · exact h2
      · rw [h2] at h1; cases h1
    have hn : specs.length = l0.length := by
      rcases Nat.lt_or_ge specs.length l0.length with h1 | h1
      · have h2 := hnone specs.length h1
        have h3 := m.late specs.length (Nat.le_refl _)
        rcases listed_cases (listed := listed) (i := specs.length) (by rw [m.size]; exact h1) with h4 | h4
        · rw [h4] at h3; cases h3
        · rw [h4] at h2; cases h2
      · have := ok.len; omega
    exact tail_forced ok.tail 0 specs.length listed a W 0 (Nat.le_refl _) hn (Nat.le_refl _) m.size (hpre _ hall) m.closed (hlst _ _ _ m hall) ok.edge (fin _ _ _ m hall)
  | succ fuel ih =>
    intro listed a W hl m
    by_cases hall : ∀ j, j < specs.length → listed.getD j false = true
    · refine tail_forced ok.tail (l0.length - specs.length) specs.length listed a W (fuel + 1) (Nat.le_refl _) (by have := ok.len; omega) ?_ m.size (hpre _ hall) m.closed (hlst _ _ _ m hall) ok.edge (fin _ _ _ m hall)
      have := left_ge (l := l0) (listed := listed) (n := specs.length) fun i h1 h2 => by
        have := m.late i h1
        have hlt : i < listed.size := by rw [m.size]; exact h2
        simpa [hlt] using this
      omega
    · by_cases hrk : k ∈ Region.ready .any l0.toArray listed
      · obtain ⟨hun, o, ho', hedge⟩ := mem_ready.1 hrk
        have ho : l0[k]? = some o := by simpa using ho'
        rw [hk] at ho; cases ho
        have hed : ∀ j, hasEdge ok' j = true → listed.getD j false = true := fun j he => by
          obtain ⟨e, he1, he2⟩ := List.any_eq_true.1 he
          simp only [Bool.and_eq_true, beq_iff_eq] at he2
          have := hedge e (Array.mem_toList_iff.1 he1) he2.1
          rwa [he2.2] at this
        have hle : ∀ j, hasEdge ok' j = true → listed.getD j true = true := fun j he => by
          have h1 := hed j he
          rcases Nat.lt_or_ge j listed.size with h2 | h2
          · simpa [h2] using h1
          · simp [h2]
        have hyy : Yields P l0.toArray ok' v a := hy a W m.rel fun j s oj dj hs hj hd he => by
          exact m.fact j oj dj s (hed j he) hj hd hs
        refine wpAny_take (i := k) (by simpa using hk) hns (free_mono _ hle hf) (List.contains_iff_mem.2 hrk) hQ hyy ?_
        have hil : k < l0.length := (List.getElem?_eq_some_iff.1 hk).1
        have hsk : specs[k] = .val v := by
          have := List.getElem?_eq_getElem hkn
          rw [hks] at this
          exact (Option.some.inj this).symm
        exact ih _ _ W (by have := left_set hil hun; omega) (m.next ok htr hst hkn hk hedge W v (hrf W) (by rw [hsk]; rfl))
      have hkl : ∀ i o, specs.length ≤ i → l0[i]? = some o → (∀ e ∈ o.after, Region.binds .any e = true → listed.getD e.on false = true) → ∀ j ∈ pre, listed.getD j false = true := by
        intro i o hi ho hedge j hj
        rw [hpk] at hj
        obtain rfl := List.mem_singleton.1 hj
        have hil : j < l0.length := (List.getElem?_eq_some_iff.1 hk).1
        rcases listed_cases (listed := listed) (i := j) (by rw [m.size]; exact hil) with h1 | h1
        · exact h1
        · refine absurd (mem_ready.2 ⟨h1, ok', by simpa using hk, fun e he hb => ?_⟩) hrk
          have hlt := ok.edge j ok' hk e he hb
          have := ok.tail i o hi ho e.on (by omega)
          rcases this with h2 | h2
          · rw [hpk] at h2
            have := List.mem_singleton.1 h2
            omega
          · exact listed_anc m.closed 16 o e.on hedge h2
      refine ⟨fun h0 => ?_, fun i hi => ?_⟩
      · refine absurd (fun j => ?_) hall
        induction j using Nat.strongRecOn with
        | _ j ihj =>
          intro hj
          have hjl : j < l0.length := by have := ok.len; omega
          have hoj : l0[j]? = some l0[j] := List.getElem?_eq_getElem hjl
          rcases listed_cases (listed := listed) (i := j) (by rw [m.size]; exact hjl) with h1 | h1
          · exact h1
          · have hm : j ∈ Region.ready .any l0.toArray listed := mem_ready.2 ⟨h1, l0[j], by simp [hjl], fun e he hb => by
              have := ok.edge j _ hoj e he hb
              exact ihj e.on this (by omega)⟩
            rw [h0] at hm
            cases hm
      · obtain ⟨hun, o, ho', hedge⟩ := mem_ready.1 hi
        have hil : i < l0.length := by have := lt_of_unlisted hun; rw [m.size] at this; exact this
        have hn : i < specs.length := by
          rcases Nat.lt_or_ge i specs.length with h1 | h1
          · exact h1
          · exact absurd (fun j hj => (ok.tail i o h1 (by simpa using ho') j (by omega)).elim (fun hp => hkl i o h1 (by simpa using ho') hedge j hp) (listed_anc m.closed 16 o j hedge)) hall
        exact wpOp_mono (fun a' W' m' => ih _ a' W' (by have := left_set hil hun; omega) m') (m.step ok hrf htr hst h hn hi)
theorem region_late {id : Nat} {l : List Oper} {a : Act} {w : World} (R : World → World → Prop) (specs : List FSpec) (k : Nat) (ok : Oper) (d : Tmp) (v : Value) (hm : P.follows .mixedOrders = true) (hok : okFree [k] specs.length a.tmps.size l = true)
    (hk : l[k]? = some ok) (hd : ok.dst = some d) (hs : specs[k]? = some (.val v)) (hns : Region.noSelect l.toArray = true)
    (hf : Region.free .any l.toArray (((List.range l.toArray.size).map fun j => hasEdge ok j).toArray) k = true) (hQ : ∀ c a w, Q (.panic c) (a.put ok.dst v) w → Q (.panic c) a w)
    (hy : ∀ (a : Act) (W : World), R w W → (∀ j s oj dj, specs[j]? = some s → l[j]? = some oj → oj.dst = some dj → hasEdge ok j = true → s.ok W (a.tmps.getD dj undef)) → Yields P l.toArray ok v a)
    (hrf : ∀ a, R a a) (htr : ∀ a b c, R a b → R b c → R a c) (hdr : ∀ a, R a a.drew) (hst : ∀ s ∈ specs, ∀ W W' v, R W W' → s.ok W v → s.ok W' v)
    (h : freeSteps P l R w Q 0 specs l a []) : (Code.region id l.toArray true).wp P Q a w := by
  refine wp_region_any hm ?_
  have hget : ∀ i : Nat, (Array.replicate l.toArray.size false).getD i false = false := by
    intro i
    rw [Array.getD_eq_getD_getElem?, Array.getElem?_replicate]
    split <;> rfl
  refine free_any rfl hk hd hs hns hf hQ hy (okFree_spec hok) hrf htr hst h _ _ _ _ ?_ ⟨by simp, hdr w, rfl, rfl, ?_, ?_, ?_, ?_⟩
  · unfold left
    refine Nat.le_trans (List.length_filter_le _ _) ?_
    simp
  · intro i o hi
    rw [hget] at hi; cases hi
  · intro t _; rfl
  · intro j o d s hj
    rw [hget] at hj; cases hj
  · intro j _
    exact hget j
end
end Go.Proofs.YtjelnmokcpoofaaGreatDoor.Late
namespace Go.Proofs.YtjelnmokcpoofaaGreatDoor
set_option maxRecDepth 100000
open Go Go.RowKit Go.Proofs
theorem gone_l (g M : Nat) (w : World) (h : w.heap[g]? = some (.cells #[.map (some M)] 61 (0, 0))) :
    Calls Tryz.prog 18 #[.pointer (some ⟨g, 0, none⟩)] w fun e w' => e = .returned (.bool false) ∧ w = w' := by
  have k0 := cell0 h
  clear h
  have hm : ∀ W, Sem.run Tryz.prog (binOp BinOp.eql 59 (Value.map (some M)) (Value.map none)) W = Result.ok (.bool false) W := fun W => by kernel_rfl
  go_enter Tryz.func18, Tryz.ntmps18
  go_wp2_with fail
  go_ret
  exact ⟨rfl, rfl⟩
theorem new_c (w : World) : Calls Tryz.prog 14 #[] w fun e w' => ∃ g M, e = .returned (.pointer (some ⟨g, 0, none⟩)) ∧ Cat w' g M [] ∧ Ext w w' ∧ w.heap.size ≤ g ∧ w.heap.size ≤ M := by
  have hmm := @run_makeMap Tryz.prog
  go_enter Tryz.func14, Tryz.ntmps14
  go_wp2_with fail
  go_ret
  refine ⟨_, _, rfl, ⟨heap_at _ _ _ (by simp), (mapP_made w).blk (heap_alloc_old _ _ (by simp)), by simp, by simp, by simp, by simp, by simp⟩, ((Ext.refl w).al _).al _, by omega, Nat.le_refl _⟩
end Go.Proofs.YtjelnmokcpoofaaGreatDoor
namespace Go.Proofs.YtjelnmokcpoofaaGreatDoor
set_option maxRecDepth 100000
open Go Go.RowKit Go.Proofs
theorem st_varM {ss : List FSpec} (b : Nat) (cs : Array Value) (T : TypeId) (h : StableAll Ext ss) : StableAll Ext (.pred (VarAt b cs T) :: ss) := ⟨fun _ _ _ e h => VarAt.ext h e, h⟩
theorem st_partK {ss : List FSpec} (lo : Nat) (d : PD) (h : StableAll Ext ss) : StableAll Ext (.pred (fun W v => PartK lo W v d) :: ss) := ⟨fun _ _ _ e h => PartK.ext h e, h⟩
set_option maxHeartbeats 1600000 in
theorem put_ok (p q : FV) (d : PD) (w : World) (g M : Nat) (es : List (PD × Value)) (h : Cat w g M es) (h1 : FracR w (.agg #[.bool p.b1, .slice p.a1 p.n1 p.c1, .bool p.b2, .slice p.a2 p.n2 p.c2]) d.p) (h2 : FracR w (.agg #[.bool q.b1, .slice q.a1 q.n1 q.c1, .bool q.b2, .slice q.a2 q.n2 q.c2]) d.q) (hd : okPD d) (hs : d.nm.size ≤ 9223372036854775807) (hf : findP d.nm es = none) (hl : es.length < 64) :
    Calls Tryz.prog 29 #[.pointer (some ⟨g, 0, none⟩), .agg #[.string d.nm, .int .u8 d.kd, .bool p.b1, .slice p.a1 p.n1 p.c1, .bool p.b2, .slice p.a2 p.n2 p.c2, .bool q.b1, .slice q.a1 q.n1 q.c1, .bool q.b2, .slice q.a2 q.n2 q.c2, .int .i64 d.co]] w fun e w' => e = .returned (.int .i64 0) ∧ ∃ v, PartK w.heap.size w' v d ∧ Cat w' g M (insP (d, v) es) ∧ Chg w w' (· = M) := by
  obtain ⟨wb, hwb⟩ : ∃ wb, wb = w.alloc (.cells #[.string d.nm, .int .u8 d.kd, .bool p.b1, .slice p.a1 p.n1 p.c1, .bool p.b2, .slice p.a2 p.n2 p.c2, .bool q.b1, .slice q.a1 q.n1 q.c1, .bool q.b2, .slice q.a2 q.n2 q.c2, .int .i64 d.co] 56) := ⟨_, rfl⟩
  have hE : Ext w wb := by rw [hwb]; exact (Ext.refl w).al _
  have z0 : wb.heap[w.heap.size]? = some (.cells #[.string d.nm, .int .u8 d.kd, .bool p.b1, .slice p.a1 p.n1 p.c1, .bool p.b2, .slice p.a2 p.n2 p.c2, .bool q.b1, .slice q.a1 q.n1 q.c1, .bool q.b2, .slice q.a2 q.n2 q.c2, .int .i64 d.co] 56 (0, 0)) := by rw [hwb]; exact heap_alloc_new _ _
  have hsz : wb.heap.size = w.heap.size + 1 := by rw [hwb]; simp
  have hC := mkHid (fun W (e : Ext wb W) => h.ext (hE.trans e))
  have hM : M < w.heap.size := h.map.lt
  have hG := mkHid (fun W (e : Ext wb W) => gone_l g M W (h.ext (hE.trans e)).str)
  have hN := fun W => named_c d.nm W hs
  rw [hd.2.2.1] at hN
  have hY := fun W (e : Ext wb W) => may_v d.nm d.kd d.co p q (some d.p) (some d.q) W (by have := (h1.ext (hE.trans e)).any (Nat.le_trans hd.1 (by decide)); rwa [if_pos hd.1] at this) (by have := (h2.ext (hE.trans e)).any (Nat.le_trans hd.2.1 (by decide)); rwa [if_pos hd.2.1] at this)
  rw [hd.2.2.2] at hY
  replace hN := mkHid hN
  replace hY := mkHid hY
  have hK := mkHid (fun W (e : Ext wb W) => copied_k (.agg #[.string d.nm, .int .u8 d.kd, .bool p.b1, .slice p.a1 p.n1 p.c1, .bool p.b2, .slice p.a2 p.n2 p.c2, .bool q.b1, .slice q.a1 q.n1 q.c1, .bool q.b2, .slice q.a2 q.n2 q.c2, .int .i64 d.co]) d W (Nat.le_trans hd.1 (by decide)) (Nat.le_trans hd.2.1 (by decide)) (PartR.mk (h1.ext (hE.trans e)) (h2.ext (hE.trans e))))
  have c0 : ∀ W, Ext wb W → W.cell? ⟨w.heap.size, 0, none⟩ = some (.string d.nm) := fun W e => row16_cells (e.blk z0) 0
  have cg : ∀ W, Ext wb W → W.cell? ⟨g, 0, none⟩ = some (.map (some M)) := fun W e => cell0 (hC.out W e).str
  have hL : ∀ W, Ext wb W → (Instr.lookup 59 (.map (some M)) (.string d.nm) true).run Tryz.prog W = .ok (.tuple #[zeroPart, .bool false]) W := fun W e => by
    have := (hC.out W e).map.look d.nm hs
    rw [hf] at this
    exact this
  replace hd := mkHid hd
  replace hf := mkHid hf
  replace hs := mkHid hs
  replace hE := mkHid hE
  replace z0 := mkHid z0
  replace hwb := mkHid hwb
  replace hsz := mkHid hsz
  replace hL := mkHid hL
  replace c0 := mkHid c0
  replace cg := mkHid cg
  clear h h1 h2
  go_enter Tryz.func29, Tryz.ntmps29
  have tok : Tok 0 := .mk _
  go_wp2_with (first
    | ((have _t : Tok 0 := tok); clear _t; clear tok; (have tok : Tok 1 := .mk _); go_at_call 18; rw [← hwb.out]; refine (hG.out _ (Ext.refl _)).mono ?_; rintro e w1 ⟨rfl, rfl⟩; (have y0 := c0.out _ (Ext.refl _)))
    | ((have _t : Tok 1 := tok); clear _t; clear tok; (have tok : Tok 2 := .mk _); go_at_call 38; refine (hN.out _).mono ?_; rintro e w2 ⟨rfl, hE2⟩; clear y0; replace hE2 := mkHid hE2)
    | ((have _t : Tok 2 := tok); clear _t; clear tok; (have tok : Tok 3 := .mk _); refine wpList_load_row (by rfl) 56 (.tmp 3) rfl w.heap.size rfl 56 #[.string d.nm, .int .u8 d.kd, .bool p.b1, .slice p.a1 p.n1 p.c1, .bool p.b2, .slice p.a2 p.n2 p.c2, .bool q.b1, .slice q.a1 q.n1 q.c1, .bool q.b2, .slice q.a2 q.n2 q.c2, .int .i64 d.co] (0, 0) _ (hE2.out.blk z0.out) Tryz.underlying56 rfl (by kernel_rfl) ?_)
    | ((have _t : Tok 3 := tok); clear _t; clear tok; (have tok : Tok 4 := .mk _); go_at_call 40; refine (hY.out _ hE2.out).mono ?_; rintro e w3 ⟨rfl, hx⟩; replace hE2 := mkHid (hE2.out.trans hx); clear hx))
  clear tok
  apply Late.region_late Ext [.val (.pointer (some ⟨g, 0, none⟩)), .val (.pointer (some ⟨g, 0, none⟩)), .val (.pointer (some ⟨g, 0, none⟩)), .val (.map (some M)), .val (.pointer (some ⟨w.heap.size, 0, none⟩)), .val (.string d.nm), .val (.tuple #[zeroPart, .bool false]), .val (.tuple #[zeroPart, .bool false]), .val zeroPart, .val (.bool false), .pred (VarAt wb.heap.size #[.string ⟨#[]⟩, .int .u8 0, .bool false, .slice none 0 0, .bool false, .slice none 0 0, .bool false, .slice none 0 0, .bool false, .slice none 0 0, .int .i64 0] 56)] 9 _ 28 (.bool false) mixed (by kernel_rfl) rfl rfl rfl (by kernel_rfl) (by kernel_rfl) (fun _ _ _ h => h)
    (fun a W _ hf => by
      have h7 : a.tmps.getD 19 undef = .tuple #[zeroPart, .bool false] := hf 7 _ _ _ rfl rfl rfl (by kernel_rfl)
      refine .inl ⟨rfl, fun w => ?_⟩
      simp only [execOp, Act.eval, h7]
      rfl)
    Ext.refl (fun _ _ _ => Ext.trans) (fun w => (Ext.refl w).dr) (stableAll_mem (stable_vals _ (stable_vals _ (stable_vals _ (stable_vals _ (stable_vals _ (stable_vals _ (stable_vals _ (stable_vals _ (stable_vals _ (stable_vals _ (st_varM _ _ _ trivial))))))))))))
  iterate 3 (refine ⟨fun W hW _ => by go_simp; first | exact ⟨Ext.refl _, rfl⟩ | exact Ext.refl _, ?_⟩)
  refine ⟨fun W hW _ => by have := cg.out W (hE2.out.trans hW); go_simp; first | exact ⟨Ext.refl _, rfl⟩ | exact Ext.refl _, ?_⟩
  refine ⟨fun W hW _ => by go_simp; first | exact ⟨Ext.refl _, rfl⟩ | exact Ext.refl _, ?_⟩
  refine ⟨fun W hW _ => by have := c0.out W (hE2.out.trans hW); go_simp; first | exact ⟨Ext.refl _, rfl⟩ | exact Ext.refl _, ?_⟩
  refine ⟨fun W hW _ => by have := hL.out W (hE2.out.trans hW); go_simp; first | exact ⟨Ext.refl _, rfl⟩ | exact Ext.refl _, ?_⟩
  iterate 3 (refine ⟨fun W hW _ => by go_simp; first | exact ⟨Ext.refl _, rfl⟩ | exact Ext.refl _, ?_⟩)
  refine ⟨fun W hW hF => ?al, fun v10 => fun W hW hF => ?fin⟩
  case al =>
    have hnv := new_var (b := wb.heap.size) (cs := #[.string ⟨#[]⟩, .int .u8 0, .bool false, .slice none 0 0, .bool false, .slice none 0 0, .bool false, .slice none 0 0, .bool false, .slice none 0 0, .int .i64 0]) (T := 56) W (hE2.out.trans hW).size
    replace hnv := mkHid hnv
    go_simp
    exact ⟨hnv.out.1, hnv.out.2.1⟩
  case fin =>
    obtain ⟨gd, rfl, hgb, hgd⟩ := hF.1 rfl
    have hE3 : Ext wb (W.setRow gd #[.string ⟨#[]⟩, .int .u8 0, .bool false, .slice none 0 0, .bool false, .slice none 0 0, .bool false, .slice none 0 0, .bool false, .slice none 0 0, .int .i64 0]) := (hE2.out.trans hW).row hgb _
    obtain ⟨w4, hw4⟩ : ∃ w4, w4 = W.setRow gd #[.string ⟨#[]⟩, .int .u8 0, .bool false, .slice none 0 0, .bool false, .slice none 0 0, .bool false, .slice none 0 0, .bool false, .slice none 0 0, .int .i64 0] := ⟨_, rfl⟩
    rw [← hw4] at hE3
    replace hE3 := mkHid hE3
    replace hw4 := mkHid hw4
    replace hgd := mkHid hgd
    have y1 := cg.out w4 hE3.out
    have y2 := fun ty => (hC.out w4 hE3.out).map.len ty
    have y3 : ((es.length : Int) < 64) := by omega
    clear hF hW hE2
    go_simp
    go_wp2_with (refine wpList_store_row rfl 56 (.tmp 5) (.tmp 27) rfl gd #[.string ⟨#[]⟩, .int .u8 0, .bool false, .slice none 0 0, .bool false, .slice none 0 0, .bool false, .slice none 0 0, .bool false, .slice none 0 0, .int .i64 0] rfl rfl 56 _ hgd.out (by kernel_rfl) rfl (by kernel_rfl) ?_; rw [← hw4.out])
    clear y1 y2
    apply region_ext [.val (.pointer (some ⟨g, 0, none⟩)), .val (.pointer (some ⟨g, 0, none⟩)), .val (.pointer (some ⟨g, 0, none⟩)), .val (.map (some M)), .val (.pointer (some ⟨w.heap.size, 0, none⟩)), .val (.string d.nm), .val (.agg #[.string d.nm, .int .u8 d.kd, .bool p.b1, .slice p.a1 p.n1 p.c1, .bool p.b2, .slice p.a2 p.n2 p.c2, .bool q.b1, .slice q.a1 q.n1 q.c1, .bool q.b2, .slice q.a2 q.n2 q.c2, .int .i64 d.co]), .pred (fun W v => PartK wb.heap.size W v d)] (by kernel_rfl) (stable_vals _ (stable_vals _ (stable_vals _ (stable_vals _ (stable_vals _ (stable_vals _ (stable_vals _ (st_partK _ _ trivial))))))))
    iterate 3 (refine ⟨fun W hW _ => by go_simp; first | exact ⟨Ext.refl _, rfl⟩ | exact Ext.refl _, ?_⟩)
    refine ⟨fun W hW _ => by have := cg.out W (hE3.out.trans hW); go_simp; first | exact ⟨Ext.refl _, rfl⟩ | exact Ext.refl _, ?_⟩
    refine ⟨fun W hW _ => by go_simp; first | exact ⟨Ext.refl _, rfl⟩ | exact Ext.refl _, ?_⟩
    refine ⟨fun W hW _ => by have := c0.out W (hE3.out.trans hW); go_simp; first | exact ⟨Ext.refl _, rfl⟩ | exact Ext.refl _, ?_⟩
    refine ⟨?ld, ?_⟩
    case ld =>
      intro W hW hF
      have hr := hW.blk (hE3.out.blk z0.out)
      with_reducible refine fr_load ?zhw 56 (.tmp 3) ?zho w.heap.size ?zhx 56 #[.string d.nm, .int .u8 d.kd, .bool p.b1, .slice p.a1 p.n1 p.c1, .bool p.b2, .slice p.a2 p.n2 p.c2, .bool q.b1, .slice q.a1 q.n1 q.c1, .bool q.b2, .slice q.a2 q.n2 q.c2, .int .i64 d.co] (0, 0) _ hr Tryz.underlying56 ?zhd ?zhi ?zh
      case zhw => kernel_rfl
      case zho => rfl
      case zhx => kernel_rfl
      case zhd => rfl
      case zhi => kernel_rfl
      case zh => exact ⟨Ext.refl _, rfl⟩
    refine ⟨fun W hW hF => ?cp, fun v7 => fun W hW hF => ?fin2⟩
    case cp =>
      clear hF
      go_simp
      refine (hK.out W (hE3.out.trans hW)).mono ?_
      rintro e w' ⟨v, rfl, h1, h2⟩
      exact ⟨v, rfl, h1, h2.mono (hE3.out.trans hW).size⟩
    case fin2 =>
      have hv : PartK wb.heap.size W v7 d := hF.1 rfl
      have hE5 := hE3.out.trans hW
      obtain ⟨w6, r1, r2, r3⟩ := (hC.out W hE5).map.store (d, v7) hs.out (by unfold maxLen; omega) hf.out
      have hcat := (hC.out W hE5).put r2 r3 (hv.mono (show w.heap.size ≤ wb.heap.size from hE.out.size)) hM hd.out hl
      have hk : PartK w.heap.size w6 v7 d := by
        have hg := r3.grown
        have hb : ∀ k, k < W.heap.size → k ≠ M → w6.heap[k]? = W.heap[k]? := fun k hk hne => hg.block k hk (fun e => hne (Option.some.inj e))
        have hs' := hE.out.size
        refine (hv.mono hE.out.size).near fun k hk => hb k (hv.span k hk).2 (by have := (hv.span k hk).1; omega)
      have hch : Chg w w6 (· = M) := (Chg.of_ext (hE.out.trans hE5) _).trans (Cat.turned r3)
      clear hF hv hW r2 r3 hE5
      replace hcat := mkHid hcat
      replace hk := mkHid hk
      replace hch := mkHid hch
      go_simp
      go_wp2_with fail
      go_ret
      exact ⟨rfl, _, hk.out, hcat.out, hch.out⟩
end Go.Proofs.YtjelnmokcpoofaaGreatDoor
namespace Go.Proofs.YtjelnmokcpoofaaGreatDoor
set_option maxRecDepth 100000
open Go Go.RowKit Go.Proofs
theorem PartK.row {lo g : Nat} {w : World} {v : Value} {d : PD} (h : PartK lo w v d) (hg : g < lo) (cs : Array Value) : PartK lo (w.setRow g cs) v d :=
  h.near fun k hk => setRow_other _ _ _ _ (by have := (h.span k hk).1; omega)
end Go.Proofs.YtjelnmokcpoofaaGreatDoor
namespace Go.Proofs.YtjelnmokcpoofaaGreatDoor
set_option maxRecDepth 100000
open Go Go.RowKit Go.Proofs
theorem trim_lit (s : ByteArray) (w : World) (hs : s.size ≤ 9223372036854775807) :
    Calls Tryz.prog 75 #[.string s, .string ⟨#[48, 49, 50, 51, 52, 53, 54, 55, 56, 57]⟩] w fun e w' => e = .returned (.string ⟨(Lib.trimS s.data.toList digs).toArray⟩) ∧ Ext w w' :=
  Any.strings_Trim_laid Tryz.lays160 (by kernel_rfl) s ⟨#[48, 49, 50, 51, 52, 53, 54, 55, 56, 57]⟩ w hs (by decide) (ascii_of_all (by decide))
/-- What Read answers. -/
def ReadQ (w : World) (o : Option Int) (e : Ending) (w' : World) : Prop :=
  ∃ v b x, e = .returned (.tuple #[v, .bool b]) ∧ (o = some x ∧ b = true ∨ o = none ∧ b = false ∧ x = 0) ∧ IntO w' w.heap.size v x ∧ Ext w w'
theorem zeroO (w : World) (b : Nat) : IntO w b (.agg #[.bool false, .slice none 0 0]) 0 := ⟨.slice none 0 0, rfl, by show MagO _ _ _ (lim 0); rw [lim_zero]; exact magO_nil _ _⟩
theorem str_facts {D : ByteArray} {l : List UInt8} (h : D.data.toList = l) : D.toList = l ∧ D.size = l.length := by
  refine ⟨by rw [ByteArray.toList_eq, h], ?_⟩
  rw [← h]
  exact (Array.length_toList).symm
theorem empty_facts {l : List UInt8} {b : Bool} (h : decide (l = []) = b) : l.isEmpty = b ∧ (l == []) = b ∧ (l != []) = !b := by
  subst h
  cases l with
  | nil => exact ⟨rfl, rfl, rfl⟩
  | cons a r => exact ⟨rfl, rfl, rfl⟩
theorem first_byte {D : ByteArray} {l : List UInt8} (h : D.data.toList = l) (hs : 0 < D.size) : l.head? = some D[0] := by
  subst h
  obtain ⟨⟨l⟩⟩ := D
  cases l with
  | nil => simp [ByteArray.size] at hs
  | cons a r => rfl
theorem atoi_digits {l : List UInt8} {p : Nat} (h : Lib.decFrom 0 l = some p) (hl : l ≠ []) : Lib.atoi l = some (p : Int) := by
  cases l with
  | nil => exact absurd rfl hl
  | cons b r =>
    obtain ⟨d, hd⟩ := Lib.digit_of_decFrom (b :: r) 0 p h 0 b rfl
    have h45 : (b == 45) = false := by
      cases hb : b == 45 with
      | false => rfl
      | true => rw [eq_of_beq hb] at hd; cases hd
    have h43 : (b == 43) = false := by
      cases hb : b == 43 with
      | false => rfl
      | true => rw [eq_of_beq hb] at hd; cases hd
    unfold Lib.atoi Lib.decNat
    simp [h45, h43, h]
theorem ext_tail (C : ByteArray) (n : Nat) : (C.extract n C.size).data.toList = C.data.toList.drop n := by
  have h : (C.extract n C.size).data.toList = (C.data.toList.drop n).take (C.size - n) := by simp [List.extract]
  rw [h]
  exact List.take_of_length_le (by rw [List.length_drop, Array.length_toList]; exact Nat.le_refl _)
def szS : Value → Nat
  | .string D => D.size
  | _ => 0
/-- The loop over the text: the first j digits are read. -/
def RdI (ds : List UInt8) (w1 : World) (v4 v6 : Value) (wr : World) : Prop :=
  ∃ (j m : Nat) (C : ByteArray), j ≤ ds.length ∧ v4 = .string C ∧ C.data.toList = ds.drop j ∧ Lib.decFrom 0 (ds.take j) = some m ∧ (j = 0 ∨ (ds.length - j) % 9 = 0) ∧ (lim m).length ≤ j ∧ MagO wr w1.heap.size v6 (lim m) ∧ Ext w1 wr
/-- The loop over the limbs. -/
def MuI (w1 : World) (q : List Nat) (p : Nat) (a : Option Addr) (c : Nat) (v62 v10 : Value) (wr : World) : Prop :=
  ∃ (k cc : Nat) (cur : List Nat), k ≤ q.length ∧ v62 = .int .i64 k ∧ v10 = .int .u64 cc ∧ MuQ q p cur k cc ∧ wr.ownsRow w1.heap.size 140 1 (.slice a q.length c) q.length (limV cur) ∧ Ext w1 wr
theorem read_zero (s : ByteArray) (w w1 : World) (hE1 : Hid (Ext w w1)) (z1 : Hid (w1.heap[w.heap.size]? = some (.cells #[.bool false, .slice none 0 0] 50 (0, 0)))) (hsz1 : w1.heap.size = w.heap.size + 1)
    (hw1 : Hid (w1 = w.alloc (.cells #[.bool false, .slice none 0 0] 50))) (T : ByteArray)
    (KP : Hid (∀ W, Calls Tryz.prog 181 #[.string s, .string ⟨#[45]⟩] W fun e w' => e = .returned (.tuple #[.string ⟨#[48]⟩, .bool false]) ∧ w' = W))
    (KT : Hid (∀ W, Calls Tryz.prog 75 #[.string ⟨#[48]⟩, .string ⟨#[48, 49, 50, 51, 52, 53, 54, 55, 56, 57]⟩] W fun e w' => e = .returned (.string T) ∧ Ext W w'))
    (_t1 : T.toList.isEmpty = true) (_t2 : (T.toList == []) = true) (_t3 : (T.toList != []) = !true) :
    Calls Tryz.prog 125 #[.string s] w (ReadQ w (some 0)) := by
  have KA := mkHid (fun W => Tryz.strconv_Atoi ((⟨#[48]⟩ : ByteArray).extract 0 1) 0 (by decide) (by decide) W)
  obtain ⟨i0, hi, hz0, hz1, hz2⟩ := info_parts u32_info
  have x1 : ((⟨#[48]⟩ : ByteArray).extract 1 1) = ⟨#[]⟩ := by decide
  have x2 : ((⟨#[48]⟩ : ByteArray).toList != []) = true := by rw [ByteArray.toList_eq]; decide
  have x3 : ((⟨#[48]⟩ : ByteArray).size : Int) = 1 := rfl
  have y1 : ((⟨#[48]⟩ : ByteArray).toList == []) = false := by rw [ByteArray.toList_eq]; decide
  have y2 : ((⟨#[48]⟩ : ByteArray).toList.isEmpty) = false := by rw [ByteArray.toList_eq]; decide
  have hno := World.ownsRow_nil (w := w) w1.heap.size 140 1
  go_enter Tryz.func125, Tryz.ntmps125
  have tok : Tok 0 := .mk _
  go_wp2_with (first
    | ((have _t : Tok 0 := tok); clear _t; clear tok; (have tok : Tok 1 := .mk _); go_at_call 181; rw [← hw1.out]; refine (KP.out _).mono ?_; rintro e w2 ⟨rfl, hw2⟩; rw [hw2]; clear hw2)
    | ((have _t : Tok 1 := tok); clear _t; clear tok; (have tok : Tok 2 := .mk _); go_at_call 75; refine (KT.out w1).mono ?_; rintro e w3 ⟨rfl, hx⟩; replace hx := mkHid hx; (have z3 := mkHid (hx.out.blk z1.out)))
    | ((have _t : Tok 2 := tok); clear _t; clear tok; (have tok : Tok 3 := .mk _); refine wpList_store_row rfl 50 (.tmp 2) (.tmp 37) rfl w.heap.size #[.bool false, .slice none 0 0] rfl rfl 50 _ z3.out (by kernel_rfl) rfl (by kernel_rfl) ?_))
  clear KP KT tok
  refine wp_loop_rounds 2 ?_
  rw [rounds_succ]
  have tok : Tok 20 := .mk _
  go_wp2_with (first
    | ((have _t : Tok 20 := tok); clear _t; clear tok; (have tok : Tok 21 := .mk _); go_at_call 74; refine (KA.out _).mono ?_; rintro e w5 ⟨rfl, t, hw⟩; (have hE5 : Ext w3 w5 := by rw [hw]; exact Joins.below_bytesWorld _ _ _ _ (Nat.le_refl _)); replace hE5 := mkHid (hx.out.trans hE5); clear hw))
  refine wp_loop_rounds 1 ?_
  rw [rounds_succ]
  have z5 := mkHid (hE5.out.blk z1.out)
  have hno5 := mkHid (World.ownsRow_nil (w := w5) w1.heap.size 140 1)
  have c0 : (IntKind.u32.wrap 0) = 0 := by decide
  clear tok
  have tok : Tok 30 := .mk _
  go_wp2_with (first
    | ((have _t : Tok 30 := tok); clear _t; clear tok; (have tok : Tok 31 := .mk _); at_builtin; refine wpList_append_own_at _ ?ya ?yb ?yc 48 ?yd w1.heap.size 140 i0 (.int .u32 0) 1 4 Tryz.underlying48 hi hz0 hz1 hz2 ?ye ?yf (.slice none 0 0) 0 [] ?yh (hno5.out.alloc (.cells #[.int .u32 0] 140)) ⟨w5.heap.size, 0, none⟩ 1 1 [.int .u32 0] ?yi ?yj ?zc1 ?zc2 ?zc3 ?zc4 ?zc5 ?_; (case ya => rfl); (case yd => rfl); (case ye => rfl); (case yf => decide); (case yh => rfl); (case yi => rfl); (case yj => rfl); (case zc1 => intro j u hj; rcases j with _ | j; (simp at hj; subst hj; simp [Addr.add]); (simp at hj)); (case zc2 => intro u hu; simp at hu; subst hu; rfl); (case zc3 => unfold maxLen; omega); (case zc4 => omega); (case zc5 => have := hE5.out.size; rw [World.size_alloc]; omega); intro v7 w7 hown7 hgrow7 _ _; (have hE7 := mkHid ((hE5.out.al (.cells #[.int .u32 0] 140)).gr hgrow7 (fun k e => by cases e))); (have hown : w7.ownsRow w1.heap.size 140 1 v7 ([0] : List Nat).length (limV [0]) := hown7); (obtain ⟨a7, c7, rfl, hc7, hr7⟩ := row_of_owns hown); (have TR := trim_c a7 [0] c7 w7 (fun x hx => by rw [List.mem_singleton.1 hx]; decide) (by decide) hc7 hr7); (have hv0 : lim (val [0]) = [] := by rw [show val [0] = 0 from rfl, lim_zero]); rw [hv0] at TR; (have hM := MagO.lim hown (fun x hx => by rw [List.mem_singleton.1 hx]; decide)); rw [hv0] at hM; (have KS := signed_c false w1.heap.size (.slice a7 ([] : List Nat).length c7) [] w7 (fun x hx => by cases hx) (by decide) hM); replace KS := mkHid KS; replace TR := mkHid TR; clear hgrow7 hown7 hr7 hown hM hv0)
    | ((have _t : Tok 31 := tok); clear _t; clear tok; (have tok : Tok 32 := .mk _); go_at_call 91; refine TR.out.mono ?_; rintro e w8 ⟨rfl, hw8⟩; rw [← hw8]; clear hw8))
  rw [rounds_succ]
  go_wp2_with (first
    | ((have _t : Tok 32 := tok); clear _t; clear tok; (have tok : Tok 33 := .mk _); go_at_call 89; refine KS.out.mono ?_; rintro e w9 ⟨v, rfl, hv, hx9⟩; (obtain ⟨vb, va, vn, vc, rfl⟩ := hv.r.shape); (have hE9 := mkHid (hE7.out.trans hx9)); (have z9 := mkHid (hE9.out.blk z1.out)); replace hv := mkHid hv; clear hx9)
    | ((have _t : Tok 33 := tok); clear _t; clear tok; (have tok : Tok 34 := .mk _); refine wpList_store_row rfl 50 (.tmp 2) (.tmp 90) rfl w.heap.size #[.bool vb, .slice va vn vc] rfl rfl 50 _ z9.out (by kernel_rfl) rfl (by kernel_rfl) ?_))
  refine bodyPost_ret (results_row_tmp rfl _ _ w.heap.size 50 #[.bool vb, .slice va vn vc] _ _ rfl rfl (setRow_heap _ _ _ _ _ _ z9.out) Tryz.underlying50 rfl (by kernel_rfl)) rfl ?_
  exact ⟨_, _, 0, rfl, .inl ⟨rfl, rfl⟩, (hv.out.row (by omega) _).mono (by omega), (hE1.out.trans hE9.out).row (Nat.le_refl _) _⟩
set_option maxRecDepth 100000 in
set_option maxHeartbeats 6400000 in
theorem read_c (s : ByteArray) (w : World) (hs : s.size ≤ 65536) : Calls Tryz.prog 125 #[.string s] w (ReadQ w (readI s.data.toList)) := by
  obtain ⟨w1, hw1⟩ : ∃ w1, w1 = w.alloc (.cells #[.bool false, .slice none 0 0] 50) := ⟨_, rfl⟩
  have hE1 := mkHid (show Ext w w1 by rw [hw1]; exact (Ext.refl w).al _)
  have z1 := mkHid (show w1.heap[w.heap.size]? = some (.cells #[.bool false, .slice none 0 0] 50 (0, 0)) by rw [hw1]; exact heap_alloc_new _ _)
  have hsz1 : w1.heap.size = w.heap.size + 1 := by rw [hw1]; simp
  obtain ⟨ds, hds⟩ : ∃ ds, ds = bodyI s.data.toList := ⟨_, rfl⟩
  obtain ⟨NG, hNG⟩ : ∃ b, b = negI s.data.toList := ⟨_, rfl⟩
  obtain ⟨D, hD⟩ : ∃ D : ByteArray, D = ⟨ds.toArray⟩ := ⟨_, rfl⟩
  have hDl : D.data.toList = ds := by rw [hD]
  have hlen : ds.length ≤ 65536 := by
    have e : s.size = s.data.toList.length := (Array.length_toList).symm
    rw [hds]
    unfold bodyI
    split
    · rw [List.length_tail]; omega
    · omega
  obtain ⟨dl, dsz⟩ := str_facts hDl
  have KP := fun W => Tryz.strings_CutPrefix s ⟨#[45]⟩ W
  have e1 : Lib.trimPrefix s.data.toList (⟨#[45]⟩ : ByteArray).data.toList = ds := (trimPrefix_body _).1.trans hds.symm
  have e2 : Lib.hasPrefix s.data.toList (⟨#[45]⟩ : ByteArray).data.toList = NG := (trimPrefix_body _).2.trans hNG.symm
  simp only [e1, e2, ← hD] at KP
  obtain ⟨T, hT⟩ : ∃ T : ByteArray, T = ⟨(Lib.trimS ds digs).toArray⟩ := ⟨_, rfl⟩
  have KT := fun W => trim_lit D W (by omega)
  simp only [hDl, ← hT] at KT
  have hTl : T.toList = Lib.trimS ds digs := by rw [ByteArray.toList_eq, hT]
  have hR : readI s.data.toList = if (decide (ds = []) || (decide (ds.head? = some 48) && (decide (1 < ds.length) || NG))) = true then none else (Lib.decFrom 0 ds).map fun m => sg NG m := by
    rw [hds, hNG]
    rfl
  rw [hR]
  clear e1 e2 hD hT hR hds hNG
  replace KP := mkHid KP
  replace KT := mkHid KT
  replace hw1 := mkHid hw1
  by_cases h0 : ds = []
  · obtain ⟨f1, f2, f3⟩ := empty_facts (l := D.toList) (b := true) (by rw [dl, h0]; rfl)
    rw [if_pos (by simp [h0])]
    clear dl dsz KT hTl
    go_enter Tryz.func125, Tryz.ntmps125
    have tok : Tok 0 := .mk _
    go_wp2_with (first
      | ((have _t : Tok 0 := tok); clear _t; clear tok; (have tok : Tok 1 := .mk _); go_at_call 181; rw [← hw1.out]; refine (KP.out _).mono ?_; rintro e w2 ⟨rfl, hw2⟩; rw [hw2]; clear hw2)
      | ((have _t : Tok 1 := tok); clear _t; clear tok; (have tok : Tok 2 := .mk _); refine wpList_store_row rfl 50 (.tmp 2) (.tmp 37) rfl w.heap.size #[.bool false, .slice none 0 0] rfl rfl 50 _ z1.out (by kernel_rfl) rfl (by kernel_rfl) ?_))
    refine bodyPost_ret (results_row_tmp rfl _ _ w.heap.size 50 #[.bool false, .slice none 0 0] _ _ rfl rfl (setRow_heap _ _ _ _ _ _ z1.out) Tryz.underlying50 rfl (by kernel_rfl)) rfl ?_
    exact ⟨_, _, 0, rfl, .inr ⟨rfl, rfl, rfl⟩, zeroO _ _, hE1.out.row (Nat.le_refl _) _⟩
  · obtain ⟨f1, f2, f3⟩ := empty_facts (l := D.toList) (b := false) (by rw [dl]; exact decide_eq_false h0)
    have k1 : 0 < D.size := by rw [dsz]; exact List.length_pos_iff.2 h0
    have hh := first_byte hDl k1
    rw [hh]
    replace hDl := mkHid hDl
    by_cases h48 : D[0] = 48
    · have g1 : (D[0].toNat == 48) = true := by rw [h48]; rfl
      have g2 : ((D[0].toNat : Int) == 48) = true := by rw [h48]; rfl
      by_cases h1 : 1 < ds.length
      · have k3 : (1 : Int) < D.size := by omega
        rw [if_pos (by simp [h48, h1])]
        clear dl KT hTl hh
        go_enter Tryz.func125, Tryz.ntmps125
        have tok : Tok 0 := .mk _
        go_wp2_with (first
          | ((have _t : Tok 0 := tok); clear _t; clear tok; (have tok : Tok 1 := .mk _); go_at_call 181; rw [← hw1.out]; refine (KP.out _).mono ?_; rintro e w2 ⟨rfl, hw2⟩; rw [hw2]; clear hw2)
          | ((have _t : Tok 1 := tok); clear _t; clear tok; (have tok : Tok 2 := .mk _); refine wpList_store_row rfl 50 (.tmp 2) (.tmp 37) rfl w.heap.size #[.bool false, .slice none 0 0] rfl rfl 50 _ z1.out (by kernel_rfl) rfl (by kernel_rfl) ?_))
        refine bodyPost_ret (results_row_tmp rfl _ _ w.heap.size 50 #[.bool false, .slice none 0 0] _ _ rfl rfl (setRow_heap _ _ _ _ _ _ z1.out) Tryz.underlying50 rfl (by kernel_rfl)) rfl ?_
        exact ⟨_, _, 0, rfl, .inr ⟨rfl, rfl, rfl⟩, zeroO _ _, hE1.out.row (Nat.le_refl _) _⟩
      · have k3 : ¬ (1 : Int) < D.size := by omega
        cases NG with
        | true =>
          rw [if_pos (by simp [h48])]
          clear dl KT hTl hh
          go_enter Tryz.func125, Tryz.ntmps125
          have tok : Tok 0 := .mk _
          go_wp2_with (first
            | ((have _t : Tok 0 := tok); clear _t; clear tok; (have tok : Tok 1 := .mk _); go_at_call 181; rw [← hw1.out]; refine (KP.out _).mono ?_; rintro e w2 ⟨rfl, hw2⟩; rw [hw2]; clear hw2)
            | ((have _t : Tok 1 := tok); clear _t; clear tok; (have tok : Tok 2 := .mk _); refine wpList_store_row rfl 50 (.tmp 2) (.tmp 37) rfl w.heap.size #[.bool false, .slice none 0 0] rfl rfl 50 _ z1.out (by kernel_rfl) rfl (by kernel_rfl) ?_))
          refine bodyPost_ret (results_row_tmp rfl _ _ w.heap.size 50 #[.bool false, .slice none 0 0] _ _ rfl rfl (setRow_heap _ _ _ _ _ _ z1.out) Tryz.underlying50 rfl (by kernel_rfl)) rfl ?_
          exact ⟨_, _, 0, rfl, .inr ⟨rfl, rfl, rfl⟩, zeroO _ _, hE1.out.row (Nat.le_refl _) _⟩
        | false =>
          rw [if_neg (by simp [h0, h1])]
          cases hN : Lib.decFrom 0 ds with
          | none =>
            obtain ⟨t1, t2, t3⟩ := empty_facts (l := T.toList) (b := false) (by
              rw [hTl]
              refine decide_eq_false fun e => ?_
              have := (trim_digs ds).1 e
              rw [hN] at this
              cases this)
            clear dl hTl hh
            go_enter Tryz.func125, Tryz.ntmps125
            have tok : Tok 0 := .mk _
            go_wp2_with (first
              | ((have _t : Tok 0 := tok); clear _t; clear tok; (have tok : Tok 1 := .mk _); go_at_call 181; rw [← hw1.out]; refine (KP.out _).mono ?_; rintro e w2 ⟨rfl, hw2⟩; rw [hw2]; clear hw2)
              | ((have _t : Tok 1 := tok); clear _t; clear tok; (have tok : Tok 2 := .mk _); go_at_call 75; refine (KT.out w1).mono ?_; rintro e w3 ⟨rfl, hx⟩; replace hx := mkHid hx; (have z3 := mkHid (hx.out.blk z1.out)))
              | ((have _t : Tok 2 := tok); clear _t; clear tok; (have tok : Tok 3 := .mk _); refine wpList_store_row rfl 50 (.tmp 2) (.tmp 37) rfl w.heap.size #[.bool false, .slice none 0 0] rfl rfl 50 _ z3.out (by kernel_rfl) rfl (by kernel_rfl) ?_))
            refine bodyPost_ret (results_row_tmp rfl _ _ w.heap.size 50 #[.bool false, .slice none 0 0] _ _ rfl rfl (setRow_heap _ _ _ _ _ _ z3.out) Tryz.underlying50 rfl (by kernel_rfl)) rfl ?_
            exact ⟨_, _, 0, rfl, .inr ⟨rfl, rfl, rfl⟩, zeroO _ _, (hE1.out.trans hx.out).row (Nat.le_refl _) _⟩
          | some N =>
            obtain ⟨t1, t2, t3⟩ := empty_facts (l := T.toList) (b := true) (by
              rw [hTl]
              exact decide_eq_true ((trim_digs ds).2 (by rw [hN]; rfl)))
            have hl1 : ds.length = 1 := by have := List.length_pos_iff.2 h0; omega
            obtain rfl : ds = [48] := by
              cases hds : ds with
              | nil => exact absurd hds h0
              | cons a r =>
                rw [hds] at hh hl1
                have : r = [] := List.eq_nil_of_length_eq_zero (by simpa using hl1)
                simp only [List.head?_cons, Option.some.injEq] at hh
                rw [this, hh, h48]
            obtain rfl : D = ⟨#[48]⟩ := by
              apply ByteArray.ext
              apply Array.ext'
              exact hDl.out
            obtain rfl : N = 0 := by
              have : Lib.decFrom 0 [48] = some 0 := by decide
              rw [this] at hN
              exact (Option.some.inj hN).symm
            clear dl hTl hh hN g1 g2 h48 k1 f1 f2 f3 h1 k3 hl1 hlen dsz h0 hDl
            exact read_zero s w w1 hE1 z1 hsz1 hw1 T KP KT t1 t2 t3
    · have g1 : (D[0].toNat == 48) = false := by
        cases hb : D[0].toNat == 48 with
        | false => rfl
        | true => exact absurd (UInt8.toNat_inj.1 (show D[0].toNat = (48 : UInt8).toNat from eq_of_beq hb)) h48
      have g2 : ((D[0].toNat : Int) == 48) = false := by
        cases hb : (D[0].toNat : Int) == 48 with
        | false => rfl
        | true => have := eq_of_beq hb; exact absurd (UInt8.toNat_inj.1 (show D[0].toNat = (48 : UInt8).toNat from by rw [show (48 : UInt8).toNat = 48 from rfl]; omega)) h48
      rw [if_neg (by simp [h0, h48])]
      cases hN : Lib.decFrom 0 ds with
      | none =>
        obtain ⟨t1, t2, t3⟩ := empty_facts (l := T.toList) (b := false) (by
          rw [hTl]
          refine decide_eq_false fun e => ?_
          have := (trim_digs ds).1 e
          rw [hN] at this
          cases this)
        clear dl hTl hh
        go_enter Tryz.func125, Tryz.ntmps125
        have tok : Tok 0 := .mk _
        go_wp2_with (first
          | ((have _t : Tok 0 := tok); clear _t; clear tok; (have tok : Tok 1 := .mk _); go_at_call 181; rw [← hw1.out]; refine (KP.out _).mono ?_; rintro e w2 ⟨rfl, hw2⟩; rw [hw2]; clear hw2)
          | ((have _t : Tok 1 := tok); clear _t; clear tok; (have tok : Tok 2 := .mk _); go_at_call 75; refine (KT.out w1).mono ?_; rintro e w3 ⟨rfl, hx⟩; replace hx := mkHid hx; (have z3 := mkHid (hx.out.blk z1.out)))
          | ((have _t : Tok 2 := tok); clear _t; clear tok; (have tok : Tok 3 := .mk _); refine wpList_store_row rfl 50 (.tmp 2) (.tmp 37) rfl w.heap.size #[.bool false, .slice none 0 0] rfl rfl 50 _ z3.out (by kernel_rfl) rfl (by kernel_rfl) ?_))
        refine bodyPost_ret (results_row_tmp rfl _ _ w.heap.size 50 #[.bool false, .slice none 0 0] _ _ rfl rfl (setRow_heap _ _ _ _ _ _ z3.out) Tryz.underlying50 rfl (by kernel_rfl)) rfl ?_
        exact ⟨_, _, 0, rfl, .inr ⟨rfl, rfl, rfl⟩, zeroO _ _, (hE1.out.trans hx.out).row (Nat.le_refl _) _⟩
      | some N =>
        obtain ⟨t1, t2, t3⟩ := empty_facts (l := T.toList) (b := true) (by
          rw [hTl]
          exact decide_eq_true ((trim_digs ds).2 (by rw [hN]; rfl)))
        clear dl hTl hh
        replace hN := mkHid hN
        go_enter Tryz.func125, Tryz.ntmps125
        have tok : Tok 0 := .mk _
        go_wp2_with (first
          | ((have _t : Tok 0 := tok); clear _t; clear tok; (have tok : Tok 1 := .mk _); go_at_call 181; rw [← hw1.out]; refine (KP.out _).mono ?_; rintro e w2 ⟨rfl, hw2⟩; rw [hw2]; clear hw2)
          | ((have _t : Tok 1 := tok); clear _t; clear tok; (have tok : Tok 2 := .mk _); go_at_call 75; refine (KT.out w1).mono ?_; rintro e w3 ⟨rfl, hx⟩; replace hx := mkHid hx; (have z3 := mkHid (hx.out.blk z1.out)))
          | ((have _t : Tok 2 := tok); clear _t; clear tok; (have tok : Tok 3 := .mk _); refine wpList_store_row rfl 50 (.tmp 2) (.tmp 37) rfl w.heap.size #[.bool false, .slice none 0 0] rfl rfl 50 _ z3.out (by kernel_rfl) rfl (by kernel_rfl) ?_))
        have st : RdI ds w1 (.string D) (.slice none 0 0) w3 := ⟨0, 0, D, Nat.zero_le _, rfl, hDl.out, rfl, .inl rfl, by rw [lim_zero]; exact Nat.le_refl _, by rw [lim_zero]; exact magO_nil _ _, hx.out⟩
        replace st := mkHid st
        clear tok KP KT hx z3
        go_loopw [4, 6] (fun v4 v6 wr => RdI ds w1 v4 v6 wr) (fun v4 _ _ => szS v4)
        case atStart => exact st.out
        case round =>
          clear st
          obtain ⟨j, m, C, hj, rfl, hC, hm, h9, hll, hM, hEr⟩ := hrel
          obtain ⟨w4, rfl⟩ : ∃ w4 : World, w4 = wr := ⟨_, rfl⟩
          obtain ⟨cl, cs⟩ := str_facts hC
          rw [List.length_drop] at cs
          by_cases hd : j = ds.length
          · obtain ⟨f1, f2, f3⟩ := empty_facts (l := C.toList) (b := true) (by rw [cl, hd, List.drop_length]; rfl)
            have hmN : m = N := by
              rw [hd, List.take_length, hN.out] at hm
              exact (Option.some.inj hm).symm
            have KS := signed_c NG w1.heap.size u6 (lim m) w4 (lim_ok m) (by omega) hM
            rw [val_lim, hmN] at KS
            replace KS := mkHid KS
            replace hEr := mkHid hEr
            clear hM hC cl cs hm h9 hll hd hj
            have tok : Tok 10 := .mk _
            go_wp2_with (first
              | ((have _t : Tok 10 := tok); clear _t; clear tok; (have tok : Tok 11 := .mk _); go_at_call 89; refine KS.out.mono ?_; rintro e w5 ⟨v, rfl, hv, hx⟩; (obtain ⟨vb, va, vn, vc, rfl⟩ := hv.r.shape); (have hE5 := mkHid (hEr.out.trans hx)); (have z5 := mkHid (hE5.out.blk z1.out)); replace hv := mkHid hv; clear hx)
              | ((have _t : Tok 11 := tok); clear _t; clear tok; (have tok : Tok 12 := .mk _); refine wpList_store_row rfl 50 (.tmp 2) (.tmp 90) rfl w.heap.size #[.bool vb, .slice va vn vc] rfl rfl 50 _ z5.out (by kernel_rfl) rfl (by kernel_rfl) ?_))
            refine bodyPost_ret (results_row_tmp rfl _ _ w.heap.size 50 #[.bool vb, .slice va vn vc] _ _ rfl rfl (setRow_heap _ _ _ _ _ _ z5.out) Tryz.underlying50 rfl (by kernel_rfl)) rfl ?_
            exact ⟨_, _, sg NG N, rfl, .inl ⟨rfl, rfl⟩, (hv.out.row (by omega) _).mono (by omega), (hE1.out.trans hE5.out).row (Nat.le_refl _) _⟩
          · obtain ⟨f1, f2, f3⟩ := empty_facts (l := C.toList) (b := false) (by
              rw [cl]
              refine decide_eq_false fun e => ?_
              have := congrArg List.length e
              rw [List.length_drop, List.length_nil] at this
              omega)
            obtain ⟨a, c, rfl, hcap, -⟩ := hM.r
            obtain ⟨i0, hi, hz0, hz1, hz2⟩ := info_parts u32_info
            obtain ⟨n, hn⟩ : ∃ n, n = (ds.length - j - 1) % 9 + 1 := ⟨_, rfl⟩
            have hn9 : n ≤ 9 := by omega
            have hn0 : 0 < n := by omega
            have hnj : j + n ≤ ds.length := by omega
            obtain ⟨m', p, hm', hp, hplt, hm2⟩ := decFrom_split ds N j n hN.out hnj
            obtain rfl : m' = m := by rw [hm'] at hm; exact Option.some.inj hm
            have hp9 : p < 1000000000 := Nat.lt_of_lt_of_le hplt (Nat.pow_le_pow_right (by omega) hn9 : 10 ^ n ≤ 10 ^ 9)
            have hmm : m' * 10 ^ n = m' * 1000000000 := by
              rcases h9 with h9 | h9
              · subst h9
                rw [List.take_zero] at hm
                simp only [Lib.decFrom, Option.some.injEq] at hm
                rw [← hm, Nat.zero_mul, Nat.zero_mul]
              · rw [show n = 9 by omega]
            have h9' : (ds.length - (j + n)) % 9 = 0 := by omega
            rw [hmm] at hm2
            have hPl : (C.extract 0 n).data.toList = (ds.drop j).take n := by
              rw [← hC]
              simp
            have hQl : (C.extract n C.size).data.toList = ds.drop (j + n) := by
              rw [← List.drop_drop, ← hC, ext_tail]
            have KA := mkHid (fun W => Tryz.strconv_Atoi (C.extract 0 n) p (by rw [ByteArray.size_extract]; omega) (atoi_digits (by rw [hPl]; exact hp) (by rw [hPl]; intro e; have := congrArg List.length e; rw [List.length_take, List.length_drop, List.length_nil] at this; omega)) W)
            have hcs : (C.size : Int) = (ds.length : Int) - j := by omega
            have hrem : Int.tmod ((C.size : Int) - 1) 9 + 1 = (n : Int) := by rw [Int.tmod_eq_emod_of_nonneg (by omega)]; omega
            have hrem' : Int.tmod ((C.size : Int) - 1) 9 = (n : Int) - 1 := by omega
            have hnC : n ≤ C.size := by omega
            have hX : wrap64 ((wrap64 ((C.size : Int) - 1)).tmod 9 + 1) = (n : Int) := by
              have w1' : wrap64 ((C.size : Int) - 1) = (C.size : Int) - 1 := by unfold wrap64; omega
              rw [w1', hrem]
              unfold wrap64; omega
            have hnC' : (n : Int) ≤ (C.size : Int) := by omega
            replace hM := mkHid hM
            replace hEr := mkHid hEr
            replace hPl := mkHid hPl
            replace hQl := mkHid hQl
            replace hm2 := mkHid hm2
            clear hC cl cs hm hm' hp hplt hmm h9
            replace hcap := mkHid hcap
            replace hcs := mkHid hcs
            replace hn := mkHid hn
            have tok : Tok 20 := .mk _
            go_wp2_with (first
              | ((have _t : Tok 20 := tok); clear _t; clear tok; (have tok : Tok 21 := .mk _); go_at_call 74; refine (KA.out _).mono ?_; rintro e w5 ⟨rfl, t, hw⟩; (have hx : Ext w4 w5 := by rw [hw]; exact Joins.below_bytesWorld _ _ _ _ (Nat.le_refl _)); (have hE5 := mkHid (hEr.out.trans hx)); (have hM5 := mkHid (hM.out.ext hx)); clear hx hw))
            obtain ⟨q, hq⟩ : ∃ q, q = lim m' := ⟨_, rfl⟩
            have okq : OkL q := by rw [hq]; exact lim_ok _
            have hvq : val q = m' := by rw [hq, val_lim]
            rw [← hq] at hM5 hll ⊢
            have st : MuI w1 q p a c (.int .i64 0) (.int .u64 p) w5 := ⟨0, p, q, Nat.zero_le _, rfl, rfl, muQ_start okq (by omega), hM5.out, hE5.out⟩
            replace st := mkHid st
            replace hq := mkHid hq
            replace hvq := mkHid hvq
            clear tok KA hM hM5 hE5 hEr
            go_loopw [62, 10] (fun v62 v10 wr => MuI w1 q p a c v62 v10 wr) (fun v62 _ _ => q.length - (intOf v62).toNat)
            case atStart => exact st.out
            case round =>
              clear st
              obtain ⟨k, cc, cur, hk, rfl, rfl, hmu, ho, hEq⟩ := hrel
              obtain ⟨w6, rfl⟩ : ∃ w6 : World, w6 = wr := ⟨_, rfl⟩
              by_cases hlt : k < q.length
              · have hlt' : (k : Int) < (q.length : Int) := by omega
                obtain ⟨g, rfl⟩ : ∃ g, a = some ⟨g, 0, none⟩ := by
                  rcases ho.2 with ⟨e, h0⟩ | ⟨g, cap, cur', e, _⟩
                  · simp only [Value.slice.injEq] at e
                    omega
                  · simp only [Value.slice.injEq] at e
                    exact ⟨g, e.1⟩
                have hcl : cur.length = q.length := hmu.1
                have hx : cur.getD k 0 = q.getD k 0 := by
                  have := congrArg (fun l => l.getD 0 0) hmu.2.2.2.1
                  simpa [List.getD_eq_getElem?_getD, List.getElem?_drop] using this
                have hxl := okL_get okq k
                have hcc := hmu.2.2.1
                have hcell : w6.cell? ⟨g, k, none⟩ = some (.int .u32 (q.getD k 0 : Nat)) := by
                  rw [ho.cellAt k (by omega), ← hx]
                  have : k < cur.length := by omega
                  simp [limV, this]
                have hfz := ho.frozenAt k
                have hnext := mkHid (muQ_step hmu hlt okq)
                generalize q.getD k 0 = x at *
                obtain ⟨Y, hY⟩ : ∃ Y, Y = (cc + x * 1000000000) % 4294967296 := ⟨_, rfl⟩
                obtain ⟨Z, hZ⟩ : ∃ Z, Z = (cc + x * 1000000000) / 4294967296 := ⟨_, rfl⟩
                rw [← hY, ← hZ] at hnext
                obtain ⟨hs1, hs2⟩ := ho.stored k (.int .u32 (Y : Nat))
                rw [limV_set] at hs1
                have hgl := (ho.lt g rfl).1
                have hS : (cc : Int) + (x : Int) * 1000000000 < 18446744073709551616 := by omega
                replace hs1 := mkHid hs1
                replace hs2 := mkHid hs2
                replace ho := mkHid ho
                replace hEq := mkHid hEq
                replace hmu := mkHid hmu
                replace hY := mkHid hY
                replace hZ := mkHid hZ
                go_wp2_with fail
                have e1 : ((cc : Int) + (x : Int) * 1000000000) / 4294967296 = ((Z : Nat) : Int) := by have := hZ.out; omega
                have e2 : ((cc : Int) + (x : Int) * 1000000000) % 4294967296 = ((Y : Nat) : Int) := by have := hY.out; omega
                rw [e1, e2]
                refine ⟨⟨k + 1, Z, cur.set k Y, by omega, by go_num, rfl, hnext.out, hs1.out, hEq.out.st hgl _⟩, by simp [intOf]; omega⟩
              · have hke : k = q.length := by omega
                subst hke
                obtain ⟨hok2, hval2⟩ := muQ_end hmu
                have hcc := hmu.2.2.1
                have hcl : cur.length = q.length := hmu.1
                have hcm : (cc : Int) % 4294967296 = cc := by omega
                replace hok2 := mkHid hok2
                replace hval2 := mkHid hval2
                replace hEq := mkHid hEq
                replace ho := mkHid ho
                clear hmu hlt hk
                have tok : Tok 30 := .mk _
                go_wp2_with (first
                  | ((have _t : Tok 30 := tok); clear _t; clear tok; (have tok : Tok 31 := .mk _); at_builtin; refine wpList_append_own_at _ ?ya ?yb ?yc 48 ?yd w1.heap.size 140 i0 (.int .u32 0) 1 4 Tryz.underlying48 hi hz0 hz1 hz2 ?ye ?yf (.slice a q.length c) q.length _ ?yh (ho.out.alloc (.cells #[.int .u32 (cc : Int)] 140)) ⟨w6.heap.size, 0, none⟩ 1 1 [.int .u32 (cc : Int)] ?yi ?yj ?zc1 ?zc2 ?zc3 ?zc4 ?zc5 ?_; (case ya => rfl); (case yd => rfl); (case ye => rfl); (case yf => decide); (case yh => rfl); (case yi => rfl); (case yj => rfl); (case zc1 => intro j u hj; rcases j with _ | j; (simp at hj; subst hj; simp [Addr.add]); (simp at hj)); (case zc2 => intro u hu; simp at hu; subst hu; rfl); (case zc3 => unfold maxLen; omega); (case zc4 => omega); (case zc5 => have := hEq.out.size; rw [World.size_alloc]; omega); intro v7 w7 hown7 hgrow7 _ _; (have hE7 := mkHid ((hEq.out.al _).gr hgrow7 (fun k e => (ho.out.lt k e).1))); (have hown := (show w7.ownsRow w1.heap.size 140 1 v7 (cur ++ [cc]).length (limV (cur ++ [cc])) by rw [List.length_append, hcl, show limV (cur ++ [cc]) = limV cur ++ [.int .u32 (cc : Int)] by simp [limV]]; exact hown7)); (obtain ⟨a7, c7, rfl, hc7, hr7⟩ := row_of_owns hown); (have TR := trim_c a7 (cur ++ [cc]) c7 w7 hok2.out (by rw [List.length_append, List.length_singleton]; omega) hc7 hr7); rw [show (cur ++ [cc]).length = q.length + 1 by rw [List.length_append, hcl]; rfl] at TR; replace TR := mkHid TR; replace hown := mkHid hown; clear hgrow7 hown7 hr7)
                  | ((have _t : Tok 31 := tok); clear _t; clear tok; (have tok : Tok 32 := .mk _); go_at_call 91; refine TR.out.mono ?_; rintro e w8 ⟨rfl, hw8⟩; rw [← hw8]; clear hw8))
                have hfin : RdI ds w1 (.string (C.extract n C.size)) (.slice a7 (lim (val (cur ++ [cc]))).length c7) w7 := by
                  refine ⟨j + n, m' * 1000000000 + p, _, hnj, rfl, hQl.out, hm2.out, .inr h9', ?_, ?_, hE7.out⟩
                  · rw [← hvq.out, ← hval2.out]
                    refine Nat.le_trans (lim_length_val hok2.out) ?_
                    rw [List.length_append, List.length_singleton]
                    omega
                  · have := MagO.lim hown.out hok2.out
                    rw [hval2.out, hvq.out] at this
                    rw [hval2.out, hvq.out]
                    exact this
                refine ⟨hfin, ?_⟩
                show (C.extract n C.size).size < C.size
                rw [ByteArray.size_extract]
                omega
end Go.Proofs.YtjelnmokcpoofaaGreatDoor
namespace Go.Proofs.YtjelnmokcpoofaaGreatDoor
set_option maxRecDepth 100000
open Go Go.RowKit Go.Proofs Go.Lib
theorem dg_low {q r j k : Nat} (h : j < k) : dg (q * 10 ^ k + r) j = dg r j := by
  have e : q * 10 ^ k = 10 ^ j * (q * 10 ^ (k - j - 1) * 10) := by
    have : 10 ^ k = 10 ^ j * (10 ^ (k - j - 1) * 10) := by
      rw [← Nat.pow_succ, ← Nat.pow_add]
      congr 1
      omega
    rw [this]
    grind
  have hd : (q * 10 ^ k + r) / 10 ^ j % 10 = r / 10 ^ j % 10 := by
    rw [e, Nat.mul_add_div (Nat.pow_pos (by omega)), Nat.mul_add_mod']
  unfold dg
  rw [hd]
theorem dg_high {q r i k : Nat} (h : r < 10 ^ k) : dg (q * 10 ^ k + r) (k + i) = dg q i := by
  have hd : (q * 10 ^ k + r) / 10 ^ k = q := by
    rw [Nat.mul_comm, Nat.mul_add_div (Nat.pow_pos (by omega)), Nat.div_eq_of_lt h, Nat.add_zero]
  unfold dg
  rw [Nat.pow_add, ← Nat.div_div_eq_div_mul, hd]
theorem pow_le_nDigits (q : Nat) (h : 0 < q) : 10 ^ (nDigits q - 1) ≤ q := by
  induction q using Nat.strongRecOn with
  | _ q ih =>
    by_cases h1 : q < 10
    · rw [nDigits_small h1]
      exact h
    · have := ih (q / 10) (by omega) (by omega)
      have hp := nDigits_pos (q / 10)
      rw [nDigits_big h1, show nDigits (q / 10) + 1 - 1 = (nDigits (q / 10) - 1) + 1 by omega, Nat.pow_succ]
      omega
theorem nDigits_shift {q r : Nat} (hq : 0 < q) : ∀ k, r < 10 ^ k → nDigits (q * 10 ^ k + r) = nDigits q + k := by
  intro k hr
  have h1 := lt_pow_nDigits q
  have hp := nDigits_pos q
  have h2 := pow_le_nDigits q hq
  have e : nDigits q + k = (nDigits q + k - 1) + 1 := by omega
  rw [e]
  refine nDigits_unique _ _ ?_ ?_
  · rw [show nDigits q + k - 1 = nDigits q - 1 + k by omega, Nat.pow_add]
    exact Nat.le_trans (Nat.mul_le_mul_right _ h2) (Nat.le_add_right _ _)
  · rw [show nDigits q + k - 1 + 1 = nDigits q + k by omega, Nat.pow_add]
    calc q * 10 ^ k + r < q * 10 ^ k + 10 ^ k := by omega
      _ = (q + 1) * 10 ^ k := by rw [Nat.add_mul, Nat.one_mul]
      _ ≤ 10 ^ nDigits q * 10 ^ k := Nat.mul_le_mul_right _ h1
/-- The nine digits of a part. -/
def nine (r : Nat) : List UInt8 := (List.range 9).map fun t => dg r (8 - t)
theorem dec_nine {q r : Nat} (hq : 0 < q) (hr : r < 1000000000) : decDigits (q * 1000000000 + r) = decDigits q ++ nine r := by
  have hr' : r < 10 ^ 9 := hr
  rw [decDigits_eq, show q * 1000000000 + r = q * 10 ^ 9 + r from rfl, nDigits_shift hq 9 hr', List.range_add, List.map_append, decDigits_eq q]
  congr 1
  · refine List.map_congr_left fun t ht => ?_
    have := List.mem_range.1 ht
    rw [show nDigits q + 9 - 1 - t = 9 + (nDigits q - 1 - t) by omega, dg_high hr']
  · unfold nine
    rw [List.map_map]
    refine List.map_congr_left fun t ht => ?_
    have := List.mem_range.1 ht
    show dg _ (nDigits q + 9 - 1 - (nDigits q + t)) = _
    rw [show nDigits q + 9 - 1 - (nDigits q + t) = 8 - t by omega, dg_low (by omega)]
end Go.Proofs.YtjelnmokcpoofaaGreatDoor
namespace Go.Proofs.YtjelnmokcpoofaaGreatDoor
set_option maxRecDepth 100000
open Go Go.RowKit Go.Proofs Go.Lib
/-- What parts of nine digits come to, the least one ahead. -/
def val9 : List Nat → Nat
  | [] => 0
  | p :: r => p + 1000000000 * val9 r
/-- Their text, the greatest one ahead. -/
def txt9 : List Nat → List UInt8
  | [] => []
  | [p] => decDigits p
  | p :: q :: r => txt9 (q :: r) ++ nine p
theorem val9_snoc (r : Nat) : ∀ ps : List Nat, val9 (ps ++ [r]) = val9 ps + 1000000000 ^ ps.length * r
  | [] => by simp [val9]
  | p :: ps => by
    have ih := val9_snoc r ps
    simp only [List.cons_append, val9, ih, List.length_cons, Nat.pow_succ]
    grind
theorem val9_pos : ∀ ps : List Nat, 0 < ps.getLastD 0 → 0 < val9 ps
  | [], h => by simp at h
  | [p], h => by simpa [val9] using h
  | p :: q :: r, h => by
    have := val9_pos (q :: r) (by simpa using h)
    unfold val9
    omega
theorem txt9_val : ∀ ps : List Nat, ps ≠ [] → (∀ p ∈ ps, p < 1000000000) → (ps.length = 1 ∨ 0 < ps.getLastD 0) → txt9 ps = decDigits (val9 ps)
  | [], h, _, _ => absurd rfl h
  | [p], _, _, _ => by simp [txt9, val9]
  | p :: q :: r, _, hp, hl => by
    have hl' : 0 < (q :: r).getLastD 0 := by
      rcases hl with h | h
      · simp at h
      · simpa using h
    have ih := txt9_val (q :: r) (by simp) (fun x hx => hp x (by simp [hx])) (.inr hl')
    have hv := val9_pos (q :: r) hl'
    rw [txt9, ih, show val9 (p :: q :: r) = val9 (q :: r) * 1000000000 + p by rw [val9, Nat.mul_comm, Nat.add_comm], dec_nine hv (hp p (by simp))]
theorem txt9_cons (p : Nat) {ps : List Nat} (h : ps ≠ []) : txt9 (p :: ps) = txt9 ps ++ nine p := by
  cases ps with
  | nil => exact absurd rfl h
  | cons q r => rfl
theorem nine_eq {p : Nat} (hp : p < 1000000000) : nine p = List.replicate (9 - nDigits p) 48 ++ decDigits p := by
  have h9 : nDigits p ≤ 9 := by
    rcases Nat.lt_or_ge 9 (nDigits p) with h | h
    · rcases Nat.eq_zero_or_pos p with h0 | h0
      · subst h0
        rw [nDigits_small (by omega)] at h
        omega
      · have h1 := pow_le_nDigits p h0
        have h2 : 10 ^ 9 ≤ 10 ^ (nDigits p - 1) := Nat.pow_le_pow_right (by omega) (by omega)
        omega
    · exact h
  unfold nine
  rw [decDigits_eq, show (9 : Nat) = (9 - nDigits p) + nDigits p by omega, List.range_add, List.map_append, List.map_map]
  congr 1
  · rw [show (9 - nDigits p) + nDigits p - nDigits p = 9 - nDigits p by omega]
    refine List.ext_getElem (by simp) fun i h1 h2 => ?_
    simp only [List.getElem_map, List.getElem_range, List.getElem_replicate]
    have hi : i < 9 - nDigits p := by simpa using h1
    unfold dg
    rw [Nat.div_eq_of_lt (Nat.lt_of_lt_of_le (lt_pow_nDigits p) (Nat.pow_le_pow_right (by omega) (by omega)))]
    rfl
  · refine List.map_congr_left fun t ht => ?_
    have := List.mem_range.1 ht
    show dg p (8 - (9 - nDigits p + t)) = _
    rw [show 8 - (9 - nDigits p + t) = nDigits p - 1 - t by omega]
end Go.Proofs.YtjelnmokcpoofaaGreatDoor
namespace Go.Proofs.YtjelnmokcpoofaaGreatDoor
set_option maxRecDepth 100000
open Go Go.RowKit Go.Proofs Go.Lib
theorem dec_head (n : Nat) (h : 0 < n) : ∃ x r, decDigits n = x :: r ∧ x ≠ 48 := by
  induction n using Nat.strongRecOn with
  | _ n ih =>
    by_cases h10 : n < 10
    · refine ⟨UInt8.ofNat (48 + n), [], by rw [decDigits, dif_pos h10], fun e => ?_⟩
      have := congrArg UInt8.toNat e
      simp at this
      omega
    · obtain ⟨x, r, e, hx⟩ := ih (n / 10) (by omega) (by omega)
      rw [decDigits, dif_neg h10, e]
      exact ⟨x, _, rfl, hx⟩
end Go.Proofs.YtjelnmokcpoofaaGreatDoor
