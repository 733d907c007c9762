/-
  Parts that are handed back: a list of one's own, each part in rows of its own. Names in their order. DERIVED: THE SHELF's CONTRACTS AT THIS DUMP, IN PLAIN WORDS (tools/lay-plain.mjs out of 'YtjelnmokcpoofaaGreatDoorIterT.lean', which tools/lay-shelf.mjs wrote): THE SAME DECLARATIONS UNDER THE SAME NAMES: 'import', 'namespace', 'open', 'def', 'theorem' AND NOTHING ELSE: no command of the shelf's: FOR A HAND-IN. Each laying: the table of numbers ('.._ren') and one theorem, a field a fact of the dump's own or the kernel's comparison; each contract: ONE APPLICATION. The catalogue's All: its parts by their names, rising, each in rows of its own. The lens whose power is nearest, as a plain matter: the program's way (the first least of those that are lenses) and the reference's (one look along the list) are one. A list of parts in one row: loads, stores, what is cleared; the closure that tells what is no lens; slices.IndexFunc. slices.DeleteFunc at parts: what is no lens goes. strings.Builder at this dump: copyCheck, WriteString, WriteByte (after the shelf's own proofs, whose texts do not fit this dump's copyCheck: its panic bears another word). exact.Digits: the text of a whole number.
-/
import Derived.Test.YtjelnmokcpoofaaGreatDoorKAH
import Derived.Test.YtjelnmokcpoofaaGreatDoorKAG
import Derived.Maps.AppendAt
import Derived.Sort.KeysCollected
import Derived.Shelf.SlIter.Nil
import Derived.Shelf.SortM.Plain
import Derived.Shelf.SortM.SortNone
import Derived.Ground.GgzProg
import Derived.Ground.SlgmProg
import Derived.Test.YtjelnmokcpoofaaGreatDoorProg
import Derived.Shelf.SlGeneric
import Derived.Lib.Bytealg
import Derived.Test.YtjelnmokcpoofaaGreatDoorKAF
import Derived.Test.YtjelnmokcpoofaaGreatDoorKAA
import Derived.Shelf.Strings.Builder1
import Derived.Test.YtjelnmokcpoofaaGreatDoorKAC
import Derived.Test.YtjelnmokcpoofaaGreatDoorKAB
import Derived.Test.YtjelnmokcpoofaaGreatDoorKAD
import Derived.LoopN
namespace Go.Proofs.YtjelnmokcpoofaaGreatDoor
set_option maxRecDepth 100000
open Go Go.RowKit Go.Proofs
theorem infoPart : (Tryz.prog.info? 56).map (fun i => (i.zero, i.size, i.bytes)) = some (some zeroPart, 11, 160) := by kernel_rfl
def cellsP (os : List (PD × Value)) : List Value := os.flatMap fun x => x.2.cells.toList
def blksP (os : List (PD × Value)) : List Nat := os.flatMap fun x => Aloof.blks x.2
/-- A list of parts of one's own, from block lo on. -/
structure OutP (lo : Nat) (w : World) (s : Value) (os : List (PD × Value)) : Prop where
  row : w.ownsRow lo 56 11 s os.length (cellsP os)
  part : ∀ x ∈ os, PartK lo w x.2 x.1
  nod : (blksP os).Nodup
  own : ∀ g, s.ownBlock = some g → g ∉ blksP os
theorem outP_nil (lo : Nat) (w : World) : OutP lo w (.slice none 0 0) [] :=
  ⟨World.ownsRow_nil _ _ _ _, by simp, List.nodup_nil, by intro g h; cases h⟩
theorem OutP.ext {lo : Nat} {w w' : World} {s : Value} {os : List (PD × Value)} (h : OutP lo w s os) (e : Ext w w') : OutP lo w' s os :=
  ⟨ownsRow_ext h.row e, fun x hx => (h.part x hx).ext e, h.nod, h.own⟩
theorem OutP.mono {lo lo' : Nat} {w : World} {s : Value} {os : List (PD × Value)} (h : OutP lo w s os) (e : lo' ≤ lo) : OutP lo' w s os :=
  ⟨ownsRow_mono h.row e, fun x hx => (h.part x hx).mono e, h.nod, h.own⟩
theorem OutP.span {lo : Nat} {w : World} {s : Value} {os : List (PD × Value)} (h : OutP lo w s os) : ∀ g ∈ blksP os, lo ≤ g ∧ g < w.heap.size := by
  intro g hg
  obtain ⟨x, hx, hk⟩ := List.mem_flatMap.1 hg
  exact (h.part x hx).span g hk
theorem OutP.ownLt {lo : Nat} {w : World} {s : Value} {os : List (PD × Value)} (h : OutP lo w s os) : ∀ g, s.ownBlock = some g → lo ≤ g ∧ g < w.heap.size := by
  intro g hg
  rcases h.row.2 with ⟨e, _⟩ | ⟨k, cap, cur, e, h1, h2, _⟩
  · rw [e] at hg
    cases hg
  · rw [e] at hg
    cases hg
    exact ⟨h1, (Array.getElem?_eq_some_iff.1 h2).1⟩
/-- One part more: w the world before the part was made, w1 behind that, w2 behind the append. -/
theorem OutP.snoc {lo : Nat} {w w1 w2 : World} {s s' : Value} {os : List (PD × Value)} {d : PD} {v : Value} (h : OutP lo w s os) (hlo : lo ≤ w.heap.size) (hx : Ext w w1) (hv : PartK w.heap.size w1 v d)
    (hr : w2.ownsRow lo 56 11 s' (os.length + 1) (cellsP os ++ v.cells.toList)) (hg : w1.grownBy w2 s.ownBlock) (ha : s'.ownBlock = s.ownBlock ∨ s'.ownBlock = some w1.heap.size) : OutP lo w2 s' (os ++ [(d, v)]) := by
  have hb : ∀ k, k < w1.heap.size → s.ownBlock ≠ some k → w2.heap[k]? = w1.heap[k]? := fun k hk hne => hg.block k hk (fun e => hne e.symm)
  have hsp := (h.ext hx).span
  have hol := h.ownLt
  refine ⟨by simpa [cellsP] using hr, fun x hxm => ?_, ?_, fun g hgo hm => ?_⟩
  · rcases List.mem_append.1 hxm with hm | hm
    · refine ((h.part x hm).ext hx).near fun k hk => hb k (hsp k (List.mem_flatMap.2 ⟨x, hm, hk⟩)).2 fun e => h.own k e (List.mem_flatMap.2 ⟨x, hm, hk⟩)
    · rw [List.mem_singleton] at hm
      subst hm
      refine (hv.mono hlo).near fun k hk => hb k (hv.span k hk).2 fun e => ?_
      have := (hol k e).2
      have := (hv.span k hk).1
      omega
  · rw [show blksP (os ++ [(d, v)]) = blksP os ++ Aloof.blks v by simp [blksP]]
    refine List.nodup_append.2 ⟨h.nod, ?_, fun a ha' b hb' e => ?_⟩
    · obtain ⟨b1, a1, n1, c1, b2, a2, n2, c2, b3, a3, n3, c3, b4, a4, n4, c4, e, h1, h2, h3⟩ := hv
      exact h3
    · have := (h.span a ha').2
      have := (hv.span b hb').1
      omega
  · rw [show blksP (os ++ [(d, v)]) = blksP os ++ Aloof.blks v by simp [blksP]] at hm
    rcases ha with ha | ha
    · rw [ha] at hgo
      rcases List.mem_append.1 hm with hm | hm
      · exact h.own g hgo hm
      · have := (hol g hgo).2
        have := (hv.span g hm).1
        omega
    · rw [ha] at hgo
      cases hgo
      rcases List.mem_append.1 hm with hm | hm
      · have := (hsp _ hm).2
        omega
      · have := (hv.span _ hm).2
        omega
theorem before_lt : ∀ (a b : List UInt8), bytesBefore a b = true → a < b
  | [], [], h => by simp [bytesBefore] at h
  | [], _ :: _, _ => List.nil_lt_cons ..
  | _ :: _, [], h => by simp [bytesBefore] at h
  | a :: r, b :: s, h => by
    simp only [bytesBefore, Bool.or_eq_true, decide_eq_true_eq, Bool.and_eq_true, beq_iff_eq] at h
    rw [List.cons_lt_cons_iff]
    rcases h with h | ⟨rfl, h⟩
    · exact .inl h
    · exact .inr ⟨rfl, before_lt r s h⟩
/-- The names, sorted, are the names as the list has them. -/
theorem names_sorted {es : List (PD × Value)} (hr : Rising es) {ss : List (List UInt8)} (hp : ss.Perm (strKeys (.map (es.map entM)))) : ss.mergeSort (fun x y => decide (x ≤ y)) = es.map fun x => x.1.nm.data.toList := by
  have e : strKeys (.map (es.map entM)) = es.map fun x => x.1.nm.data.toList := by
    show (es.map entM).map (fun p => strOf p.1) = _
    rw [List.map_map]
    rfl
  rw [e] at hp
  have h1 := mergeSort_of_perm hp
  show ss.mergeSort leB = _
  rw [h1]
  refine List.mergeSort_of_pairwise ?_
  rw [List.pairwise_map]
  exact hr.imp fun {a b} hab => by
    simp only [decide_eq_true_eq]
    exact List.le_of_lt (before_lt _ _ hab)
theorem findP_mem {es : List (PD × Value)} (hr : Rising es) : ∀ {x}, x ∈ es → findP x.1.nm es = some x := by
  induction es with
  | nil => intro x hx; cases hx
  | cons y r ih =>
    intro x hx
    obtain ⟨h1, h2⟩ := List.pairwise_cons.1 hr
    unfold findP
    rw [List.find?_cons]
    by_cases hn : nameIs x.1.nm y = true
    · rw [hn]
      rcases List.mem_cons.1 hx with rfl | hx
      · rfl
      · have := h1 x hx
        unfold nameIs at hn
        rw [beq_iff_eq] at hn
        rw [hn, WideAt.bytes_irrefl] at this
        cases this
    · rw [Bool.not_eq_true] at hn
      rw [hn]
      rcases List.mem_cons.1 hx with rfl | hx
      · unfold nameIs at hn
        simp at hn
      · exact ih h2 hx
theorem news_cells (w : World) (cs : List Value) (T : TypeId) : ∀ j u, cs[j]? = some u → (w.alloc (.cells cs.toArray T)).cell? (Addr.add ⟨w.heap.size, 0, none⟩ j) = some u := by
  intro j u hj
  have h : (w.alloc (.cells cs.toArray T)).heap[w.heap.size]? = some (.cells cs.toArray T (0, 0)) := heap_alloc_new _ _
  have e : (Addr.add ⟨w.heap.size, 0, none⟩ j) = ⟨w.heap.size, j, none⟩ := by
    unfold Addr.add
    by_cases h0 : j = 0
    · subst h0; rfl
    · simp [h0]
  rw [e]
  have := row16_cells h j
  rw [this]
  simpa using hj
theorem part_one (d : PD) (p q : FV) : ∀ u ∈ ([.string d.nm, .int .u8 d.kd, .bool p.b1, .slice p.a1 p.n1 p.c1, .bool p.b2, .slice p.a2 p.n2 p.c2, .bool q.b1, .slice q.a1 q.n1 q.c1, .bool q.b2, .slice q.a2 q.n2 q.c2, .int .i64 d.co] : List Value), u.oneCell' = true := by
  intro u hu
  simp only [List.mem_cons, List.not_mem_nil, or_false] at hu
  rcases hu with rfl | rfl | rfl | rfl | rfl | rfl | rfl | rfl | rfl | rfl | rfl <;> rfl
end Go.Proofs.YtjelnmokcpoofaaGreatDoor
namespace Go.Proofs
open Go.Shelf Go.RowKit Go.Maps Go.Sort
def Tryz.keys27_ren : Go.Shelf.Ren := ⟨fun | 7 => 27 | 10 => 57 | n => n, fun | 23 => 59 | 26 => 9 | 3 => 56 | 28 => 81 | 0 => 0 | 27 => 80 | 33 => 36 | 4 => 4 | n => n, fun | n => n⟩
theorem Tryz.keys27 : Go.Proofs.SlLaysZ.n7 Tryz.prog Tryz.keys27_ren := {
  mixed := by kernel_rfl
  f7 := ⟨Tryz.f27.name, by decide, Tryz.func27.trans (congrArg some (by kernel_rfl))⟩
  f10 := ⟨Tryz.f57.name, by decide, Tryz.func57.trans (congrArg some (by kernel_rfl))⟩
  t0 := Tryz.underlying0
  a0 := Tryz.isAgg0
  z0 := Tryz.sizeOf0
  v0 := Tryz.zeroValue0
  t4 := Tryz.underlying4
  a4 := Tryz.isAgg4
  z4 := Tryz.sizeOf4
  v4 := Tryz.zeroValue4
  t23 := Tryz.underlying59
  a23 := Tryz.isAgg59
  z23 := Tryz.sizeOf59
  v23 := Tryz.zeroValue59
  t26 := Tryz.underlying9
  a26 := Tryz.isAgg9
  z26 := Tryz.sizeOf9
  v26 := Tryz.zeroValue9
  t27 := Tryz.underlying80
  a27 := Tryz.isAgg80
  z27 := Tryz.sizeOf80
  v27 := Tryz.zeroValue80
  t28 := Tryz.underlying81
  a28 := Tryz.isAgg81
  z28 := Tryz.sizeOf81
  v28 := Tryz.zeroValue81
  t33 := Tryz.underlying36
  a33 := Tryz.isAgg36
  z33 := Tryz.sizeOf36
  v33 := Tryz.zeroValue36 }
def Tryz.sorted26_ren : Go.Shelf.Ren := ⟨fun | 6 => 26 | 8 => 55 | 9 => 56 | 11 => 95 | 13 => 97 | 12 => 96 | 23 => 158 | 24 => 159 | 14 => 149 | 15 => 150 | 16 => 151 | 17 => 152 | 18 => 153 | 19 => 154 | 20 => 155 | 21 => 156 | 22 => 157 | 25 => 197 | 26 => 198 | 27 => 199 | 28 => 200 | 29 => 201 | 30 => 202 | 31 => 223 | n => n, fun | 26 => 9 | 28 => 81 | 24 => 78 | 0 => 0 | 3 => 3 | 37 => 141 | 48 => 140 | 50 => 138 | 4 => 4 | 40 => 183 | 39 => 182 | 45 => 91 | 5 => 5 | 9 => 9 | 51 => 211 | 55 => 215 | 57 => 229 | 58 => 230 | 33 => 36 | n => n, fun | n => n⟩
theorem Tryz.sorted26 : Go.Proofs.SlLaysZ.n6 Tryz.prog Tryz.sorted26_ren := {
  mixed := by kernel_rfl
  f6 := ⟨Tryz.f26.name, by decide, Tryz.func26.trans (congrArg some (by kernel_rfl))⟩
  f8 := ⟨Tryz.f55.name, by decide, Tryz.func55.trans (congrArg some (by kernel_rfl))⟩
  f11 := ⟨Tryz.f95.name, by decide, Tryz.func95.trans (congrArg some (by kernel_rfl))⟩
  t0 := Tryz.underlying0
  a0 := Tryz.isAgg0
  z0 := Tryz.sizeOf0
  v0 := Tryz.zeroValue0
  t24 := Tryz.underlying78
  a24 := Tryz.isAgg78
  z24 := Tryz.sizeOf78
  v24 := Tryz.zeroValue78
  t26 := Tryz.underlying9
  a26 := Tryz.isAgg9
  z26 := Tryz.sizeOf9
  v26 := Tryz.zeroValue9
  t28 := Tryz.underlying81
  a28 := Tryz.isAgg81
  z28 := Tryz.sizeOf81
  v28 := Tryz.zeroValue81
  i26 := by kernel_rfl }
def Tryz.sort56_ren : Go.Shelf.Ren := ⟨fun | 6 => 56 | 8 => 97 | 9 => 96 | 19 => 158 | 20 => 159 | 21 => 149 | 22 => 150 | 23 => 151 | 24 => 152 | 25 => 153 | 26 => 154 | 27 => 155 | 28 => 156 | 29 => 157 | 36 => 197 | 31 => 198 | 32 => 199 | 37 => 200 | 38 => 201 | 39 => 202 | 41 => 223 | n => n, fun | 27 => 78 | 29 => 9 | 3 => 3 | 32 => 141 | 26 => 78 | 0 => 0 | 44 => 140 | 46 => 138 | 4 => 4 | 36 => 183 | 35 => 182 | 41 => 91 | 5 => 5 | 9 => 9 | 53 => 211 | 57 => 215 | 63 => 229 | 64 => 230 | n => n, fun | n => n⟩
theorem Tryz.sort56 : Go.Proofs.SlLaysM.n6 Tryz.prog Tryz.sort56_ren := {
  mixed := by kernel_rfl
  f6 := ⟨Tryz.f56.name, by decide, Tryz.func56.trans (congrArg some (by kernel_rfl))⟩
  f8 := Tryz.func97.trans (congrArg some (by kernel_rfl))
  f9 := ⟨Tryz.f96.name, by decide, Tryz.func96.trans (congrArg some (by kernel_rfl))⟩
  f19 := Tryz.func158.trans (congrArg some (by kernel_rfl))
  f20 := Tryz.func159.trans (congrArg some (by kernel_rfl))
  f21 := ⟨Tryz.f149.name, by decide, Tryz.func149.trans (congrArg some (by kernel_rfl))⟩
  f22 := ⟨Tryz.f150.name, by decide, Tryz.func150.trans (congrArg some (by kernel_rfl))⟩
  f23 := ⟨Tryz.f151.name, by decide, Tryz.func151.trans (congrArg some (by kernel_rfl))⟩
  f24 := ⟨Tryz.f152.name, by decide, Tryz.func152.trans (congrArg some (by kernel_rfl))⟩
  f25 := ⟨Tryz.f153.name, by decide, Tryz.func153.trans (congrArg some (by kernel_rfl))⟩
  f26 := ⟨Tryz.f154.name, by decide, Tryz.func154.trans (congrArg some (by kernel_rfl))⟩
  f27 := ⟨Tryz.f155.name, by decide, Tryz.func155.trans (congrArg some (by kernel_rfl))⟩
  f28 := ⟨Tryz.f156.name, by decide, Tryz.func156.trans (congrArg some (by kernel_rfl))⟩
  f29 := ⟨Tryz.f157.name, by decide, Tryz.func157.trans (congrArg some (by kernel_rfl))⟩
  f31 := Tryz.func198.trans (congrArg some (by kernel_rfl))
  f32 := Tryz.func199.trans (congrArg some (by kernel_rfl))
  f36 := ⟨Tryz.f197.name, by decide, Tryz.func197.trans (congrArg some (by kernel_rfl))⟩
  f37 := ⟨Tryz.f200.name, by decide, Tryz.func200.trans (congrArg some (by kernel_rfl))⟩
  f38 := ⟨Tryz.f201.name, by decide, Tryz.func201.trans (congrArg some (by kernel_rfl))⟩
  f39 := ⟨Tryz.f202.name, by decide, Tryz.func202.trans (congrArg some (by kernel_rfl))⟩
  f41 := ⟨Tryz.f223.name, by decide, Tryz.func223.trans (congrArg some (by kernel_rfl))⟩
  t0 := Tryz.underlying0
  a0 := Tryz.isAgg0
  z0 := Tryz.sizeOf0
  v0 := Tryz.zeroValue0
  t3 := Tryz.underlying3
  a3 := Tryz.isAgg3
  z3 := Tryz.sizeOf3
  v3 := Tryz.zeroValue3
  t4 := Tryz.underlying4
  a4 := Tryz.isAgg4
  z4 := Tryz.sizeOf4
  v4 := Tryz.zeroValue4
  t5 := Tryz.underlying5
  a5 := Tryz.isAgg5
  z5 := Tryz.sizeOf5
  v5 := Tryz.zeroValue5
  t9 := Tryz.underlying9
  a9 := Tryz.isAgg9
  z9 := Tryz.sizeOf9
  v9 := Tryz.zeroValue9
  t26 := Tryz.underlying78
  a26 := Tryz.isAgg78
  z26 := Tryz.sizeOf78
  v26 := Tryz.zeroValue78
  t27 := Tryz.underlying78
  a27 := Tryz.isAgg78
  z27 := Tryz.sizeOf78
  v27 := Tryz.zeroValue78
  t29 := Tryz.underlying9
  a29 := Tryz.isAgg9
  z29 := Tryz.sizeOf9
  v29 := Tryz.zeroValue9
  t32 := Tryz.underlying141
  a32 := Tryz.isAgg141
  z32 := Tryz.sizeOf141
  v32 := Tryz.zeroValue141
  t35 := Tryz.underlying182
  a35 := Tryz.isAgg182
  z35 := Tryz.sizeOf182
  v35 := Tryz.zeroValue182
  t36 := Tryz.underlying183
  a36 := Tryz.isAgg183
  z36 := Tryz.sizeOf183
  v36 := Tryz.zeroValue183
  t41 := Tryz.underlying91
  a41 := Tryz.isAgg91
  z41 := Tryz.sizeOf91
  v41 := Tryz.zeroValue91
  t44 := Tryz.underlying140
  a44 := Tryz.isAgg140
  z44 := Tryz.sizeOf140
  v44 := Tryz.zeroValue140
  t46 := Tryz.underlying138
  a46 := Tryz.isAgg138
  z46 := Tryz.sizeOf138
  v46 := Tryz.zeroValue138
  t53 := Tryz.underlying211
  a53 := Tryz.isAgg211
  z53 := Tryz.sizeOf211
  v53 := Tryz.zeroValue211
  t57 := Tryz.underlying215
  a57 := Tryz.isAgg215
  z57 := Tryz.sizeOf215
  v57 := Tryz.zeroValue215
  t63 := Tryz.underlying229
  a63 := Tryz.isAgg229
  z63 := Tryz.sizeOf229
  v63 := Tryz.zeroValue229
  t64 := Tryz.underlying230
  a64 := Tryz.isAgg230
  z64 := Tryz.sizeOf230
  v64 := Tryz.zeroValue230 }
theorem Tryz.sorts26 (m : Nat) : AnyZ.SortsIn Tryz.prog Tryz.sorted26_ren Fence.wide m :=
  ⟨fun blk off cap ss W hH hblk hsz => callsIn_wide.2 (AnyM.slices_Sort_string Tryz.sort56 blk off cap ss W hH hblk hsz),
   fun p cap W => callsIn_wide.2 (AnyM.slices_Sort_string_none Tryz.sort56 p cap W)⟩

theorem Tryz.maps_Keys_27 (mb : Option Nat) (W : World) : CallsIn Fence.wide 5 Tryz.prog 27 #[.map mb] W fun e w' => e = .returned (.func (.func 57) #[] #[.pointer (some ⟨W.heap.size, 0, none⟩)]) ∧ w' = W.alloc (.cells #[.map mb] 59) :=
  AnyZ.keys_in Tryz.keys27 Fence.wide 5 trivial rfl mb W

set_option maxHeartbeats 1000000 in
theorem Tryz.slices_Sorted_keys_26_27 {H : Type} (b nn : Nat) (D0 : DataW H) (R : Value → Option (DataW H × List MemPlace)) (w : World) (hown : w.ownsMap Tryz.prog 9 R b nn D0) (hmax : Maps.size D0 ≤ maxLen) (hbytes : Maps.size D0 * 16 ≤ 140737488355328) :
    CallsIn Fence.wide 5 Tryz.prog 26 #[.func (.func 57) #[] #[.pointer (some ⟨w.heap.size, 0, none⟩)]] (w.alloc (.cells #[.map (some b)] 59)) fun e w' => ∃ (v : Value) (ss : List (List UInt8)), e = .returned v ∧ ss.Perm (strKeys D0) ∧
      w'.ownsRow (w.alloc (.cells #[.map (some b)] 59)).heap.size 9 1 v ss.length ((ss.mergeSort (fun x y => decide (x ≤ y))).map encStr) ∧ (v = .slice none 0 0 ↔ ss = []) ∧ Below (w.alloc (.cells #[.map (some b)] 59)).heap.size (w.alloc (.cells #[.map (some b)] 59)) w' := by
  have hbl := hown.lt
  have hseq : SeqGives Fence.wide 2 Tryz.prog 57 #[.pointer (some ⟨w.heap.size, 0, none⟩)] encStr (fun ss => ss.Perm (strKeys D0)) (Maps.size D0) (w.alloc (.cells #[.map (some b)] 59)) :=
    AnyZ.keys_gives (ρ := Tryz.keys27_ren) { Tryz.keys27 with } Fence.wide _ trivial rfl (by omega) w.heap.size b nn D0 _ (by simp) (by simp) (by
      obtain ⟨es, clock, hb, Ft, hs, hD⟩ := hown
      exact ⟨es, clock, (Below.heap_alloc _ _ b hbl).trans hb, Ft, hs, hD⟩)
  exact AnyZ.sorted_in Tryz.sorted26 Fence.wide 5 trivial trivial trivial trivial rfl (by omega) (Tryz.sorts26 _) (enters_of Tryz.func56 (by kernel_rfl) rfl) 57 #[.pointer (some ⟨w.heap.size, 0, none⟩)] trivial (enters_of Tryz.func57 (by kernel_rfl) rfl) _ _ hmax hbytes _ hseq

end Go.Proofs
namespace Go.Proofs.YtjelnmokcpoofaaGreatDoor
set_option maxRecDepth 100000
open Go Go.RowKit Go.Proofs
/-- A loop over the names: so many parts are out. -/
def AllR (w1 : World) (es : List (PD × Value)) (t3 t15 : Value) (wr : World) : Prop :=
  ∃ (os : List (PD × Value)) (k : Nat), k ≤ es.length ∧ t15 = .int .i64 k ∧ os.length = k ∧ os.map (·.1) = (es.take k).map (·.1) ∧ OutP w1.heap.size wr t3 os ∧ Ext w1 wr
def AllQ (w : World) (es : List (PD × Value)) (e : Ending) (w' : World) : Prop := ∃ v os, e = .returned v ∧ OutP w.heap.size w' v os ∧ os.map (·.1) = es.map (·.1) ∧ Ext w w'
theorem row_name {w : World} {b o : Nat} {es : List (PD × Value)} (h : Row w (some ⟨b, o, none⟩) ((es.map fun x => x.1.nm.data.toList).map encStr)) (j : Nat) (hj : j < es.length) :
    w.cell? ⟨b, o + j, none⟩ = some (.string es[j].1.nm) := by
  obtain ⟨b', o', e, hc⟩ := h
  have e := e (by intro e; simp at e; simp [e] at hj)
  cases e
  rw [hc j (by simpa using hj)]
  simp [List.getD_eq_getElem?_getD, hj]
set_option maxHeartbeats 1600000 in
theorem all_l (w : World) (g M : Nat) (es : List (PD × Value)) (h : Cat w g M es) :
    Calls Tryz.prog 10 #[.pointer (some ⟨g, 0, none⟩)] w (AllQ w es) := by
  obtain ⟨i0, hi, hz0, hz1, hz2⟩ := info_parts infoPart
  have hG := mkHid (gone_l g M w h.str)
  have cg := cell0 h.str
  have hKS := mkHid (callsIn_wide.1 (Tryz.maps_Keys_27 (some M) w))
  have hSS := mkHid (callsIn_wide.1 (Tryz.slices_Sorted_keys_26_27 M es.length (.map (es.map entM)) heldR w h.map (by rw [Maps.size_eq, List.length_map]; have := h.few; unfold maxLen; omega) (by rw [Maps.size_eq, List.length_map]; have := h.few; omega)))
  have hri := mkHid h.map.rising
  have hC := mkHid (fun W (e : Ext w W) => h.ext e)
  have hfew := h.few
  clear h
  go_enter Tryz.func10, Tryz.ntmps10
  have tok : Tok 0 := .mk _
  go_wp2_with (first
    | ((have _t : Tok 0 := tok); clear _t; clear tok; (have tok : Tok 1 := .mk _); go_at_call 18; refine hG.out.mono ?_; rintro e w' ⟨rfl, rfl⟩)
    | ((have _t : Tok 1 := tok); clear _t; clear tok; (have tok : Tok 2 := .mk _); go_at_call 27; refine hKS.out.mono ?_; rintro e w' ⟨rfl, rfl⟩)
    | ((have _t : Tok 2 := tok); clear _t; clear tok; (have tok : Tok 3 := .mk _); go_at_call 26; refine hSS.out.mono ?_; rintro e w1 ⟨v, ss, rfl, hp, hrow, hnil, hB⟩; (obtain ⟨a, c, rfl, hca, hrw⟩ := row_of_owns hrow); rw [names_sorted hri.out hp] at hrw; (have hlen : ss.length = es.length := by (have := hp.length_eq; simpa [strKeys] using this)); rw [hlen] at hca ⊢; (have hE1 := mkHid (((Ext.refl w).al (.cells #[.map (some M)] 59)).trans hB)); replace hrw := mkHid hrw; replace hca := mkHid hca; clear hp hrow hnil hB hlen))
  clear tok hKS hSS hG cg hri
  have st : AllR w1 es (.slice none 0 0) (.int .i64 0) w1 := ⟨[], 0, Nat.zero_le _, rfl, rfl, by simp, outP_nil _ _, Ext.refl _⟩
  replace st := mkHid st
  go_loopw [3, 15] (fun t3 t15 wr => AllR w1 es t3 t15 wr) (fun _ i _ => es.length - (intOf i).toNat)
  case atStart => exact st.out
  case round =>
    clear st
    obtain ⟨os, k, hk, rfl, hol, hmap, hO, hEr⟩ := hrel
    obtain ⟨w2, rfl⟩ : ∃ w2 : World, w2 = wr := ⟨_, rfl⟩
    by_cases hlt : k < es.length
    · have hxm : es[k] ∈ es := List.getElem_mem hlt
      obtain ⟨d, v, hdv⟩ : ∃ d v, es[k] = (d, v) := ⟨_, _, rfl⟩
      have hCw := hC.out w2 (hE1.out.trans hEr)
      rw [hdv] at hxm
      obtain ⟨p, q, e0, -, -⟩ := (hCw.part _ hxm).fv
      have e0' : v = .agg #[.string d.nm, .int .u8 d.kd, .bool p.b1, .slice p.a1 p.n1 p.c1, .bool p.b2, .slice p.a2 p.n2 p.c2, .bool q.b1, .slice q.a1 q.n1 q.c1, .bool q.b2, .slice q.a2 q.n2 q.c2, .int .i64 d.co] := e0
      subst e0'
      obtain ⟨b, o, rfl⟩ : ∃ b o, a = some ⟨b, o, none⟩ := by
        obtain ⟨b, o, e, _⟩ := hrw.out
        exact ⟨b, o, e (by intro e; simp at e; rw [e] at hlt; simp at hlt)⟩
      have hcell := row_name (hrw.out.ext hEr) k hlt
      rw [hdv] at hcell
      replace hcell : w2.cell? ⟨b, o + k, none⟩ = some (.string d.nm) := hcell
      have hnm : d.nm.size ≤ 9223372036854775807 := by
        have := (hCw.ok _ hxm).2.2.1
        unfold nameB at this
        simp only [Bool.and_eq_true, decide_eq_true_eq] at this
        have := this.2.1
        rw [Array.length_toList] at this
        show d.nm.data.size ≤ _
        omega
      have hlk := hCw.map.look1 d.nm hnm
      rw [findP_mem hCw.map.rising hxm] at hlk
      replace hlk : (Instr.lookup 59 (.map (some M)) (.string d.nm) false).run Tryz.prog w2 = .ok (.agg #[.string d.nm, .int .u8 d.kd, .bool p.b1, .slice p.a1 p.n1 p.c1, .bool p.b2, .slice p.a2 p.n2 p.c2, .bool q.b1, .slice q.a1 q.n1 q.c1, .bool q.b2, .slice q.a2 q.n2 q.c2, .int .i64 d.co]) w2 := hlk
      have cg2 := cell0 hCw.str
      have hK := mkHid (copied_k (.agg #[.string d.nm, .int .u8 d.kd, .bool p.b1, .slice p.a1 p.n1 p.c1, .bool p.b2, .slice p.a2 p.n2 p.c2, .bool q.b1, .slice q.a1 q.n1 q.c1, .bool q.b2, .slice q.a2 q.n2 q.c2, .int .i64 d.co]) d w2 (Nat.le_trans (hCw.ok _ hxm).1 (by decide)) (Nat.le_trans (hCw.ok _ hxm).2.1 (by decide)) (hCw.part _ hxm))
      have hlt' : (k : Int) < (es.length : Int) := by omega
      replace hO := mkHid hO
      replace hEr := mkHid hEr
      replace hdv := mkHid hdv
      replace hmap := mkHid hmap
      replace hol := mkHid hol
      clear hCw hxm e0 hnm
      have tok : Tok 10 := .mk _
      go_wp2_with (first
        | ((have _t : Tok 10 := tok); clear _t; clear tok; (have tok : Tok 11 := .mk _); go_at_call 28; refine hK.out.mono ?_; rintro e w3 ⟨v3, rfl, hE3, hv3⟩; (obtain ⟨p', q', rfl, -, -⟩ := hv3.r.fv); replace hE3 := mkHid hE3; replace hv3 := mkHid hv3)
        | ((have _t : Tok 11 := tok); clear _t; clear tok; (have tok : Tok 12 := .mk _); at_builtin; (have X := hO.out.ext hE3.out); (have Z := X.row.alloc (.cells #[.string d.nm, .int .u8 d.kd, .bool p'.b1, .slice p'.a1 p'.n1 p'.c1, .bool p'.b2, .slice p'.a2 p'.n2 p'.c2, .bool q'.b1, .slice q'.a1 q'.n1 q'.c1, .bool q'.b2, .slice q'.a2 q'.n2 q'.c2, .int .i64 d.co] 56)); (have U := Tryz.underlying27); refine wpList_append_own_at _ ?ya ?yb ?yc 27 ?yd w1.heap.size 56 i0 zeroPart 11 160 U hi hz0 hz1 hz2 ?ye ?yf u3 os.length (cellsP os) ?yh Z ⟨w3.heap.size, 0, none⟩ 1 1 [.string d.nm, .int .u8 d.kd, .bool p'.b1, .slice p'.a1 p'.n1 p'.c1, .bool p'.b2, .slice p'.a2 p'.n2 p'.c2, .bool q'.b1, .slice q'.a1 q'.n1 q'.c1, .bool q'.b2, .slice q'.a2 q'.n2 q'.c2, .int .i64 d.co] ?yi ?yj ?zc1 ?zc2 ?zc3 ?zc4 ?zc5 ?_; (case ya => rfl); (case yd => rfl); (case ye => rfl); (case yf => decide); (case yh => rfl); (case yi => rfl); (case yj => rfl); (case zc1 => exact news_cells w3 _ _); (case zc2 => exact part_one d p' q'); (case zc3 => have := hol.out; unfold maxLen; omega); (case zc4 => have := hol.out; omega); (case zc5 => have := hEr.out.size; have := hE3.out.size; rw [World.size_alloc]; omega); intro v4 w4 hown4 hgrow4 _ hloc4; clear X Z U; replace hown4 := mkHid hown4; replace hgrow4 := mkHid hgrow4; replace hloc4 := mkHid hloc4))
      have hx := (hE3.out.al (.cells #[.string d.nm, .int .u8 d.kd, .bool p'.b1, .slice p'.a1 p'.n1 p'.c1, .bool p'.b2, .slice p'.a2 p'.n2 p'.c2, .bool q'.b1, .slice q'.a1 q'.n1 q'.c1, .bool q'.b2, .slice q'.a2 q'.n2 q'.c2, .int .i64 d.co] 56))
      have hO4 := hO.out.snoc hEr.out.size hx (hv3.out.ext ((Ext.refl w3).al _)) hown4.out hgrow4.out hloc4.out
      have hE4 : Ext w1 w4 := (hEr.out.trans hx).gr hgrow4.out fun k e => (hO.out.ownLt k e).1
      have hm4 : (os ++ [(d, Value.agg #[.string d.nm, .int .u8 d.kd, .bool p'.b1, .slice p'.a1 p'.n1 p'.c1, .bool p'.b2, .slice p'.a2 p'.n2 p'.c2, .bool q'.b1, .slice q'.a1 q'.n1 q'.c1, .bool q'.b2, .slice q'.a2 q'.n2 q'.c2, .int .i64 d.co])]).map (·.1) = (es.take (k + 1)).map (·.1) := by
        rw [List.map_append, hmap.out, List.take_succ_eq_append_getElem hlt, List.map_append, hdv.out]
        rfl
      refine ⟨⟨_, k + 1, by omega, by go_num, by simp [hol.out], hm4, hO4, hE4⟩, by simp [intOf]; omega⟩
    · have hk2 : k = es.length := by omega
      subst hk2
      rw [List.take_length] at hmap
      replace hO := mkHid hO
      replace hEr := mkHid hEr
      replace hmap := mkHid hmap
      clear hol
      go_wp2_with fail
      go_ret
      exact ⟨_, os, rfl, hO.out.mono hE1.out.size, hmap.out, hE1.out.trans hEr.out⟩
end Go.Proofs.YtjelnmokcpoofaaGreatDoor
namespace Go.Proofs.YtjelnmokcpoofaaGreatDoor
set_option maxRecDepth 100000
open Go Go.RowKit Go.Proofs
def rabs (q : Rat) : Rat := if q.num < 0 then -q else q
/-- As Cmp tells it. -/
def cS (a b : Rat) : Int := (a.num * b.den - b.num * a.den).sign
def offP (x : Rat) (d : PD) : Rat := rabs (d.p - x)
def bef (a b : PD) : Bool := bytesBefore a.nm.data.toList b.nm.data.toList
/-- The reference's test. -/
def lessP (x : Rat) (d b : PD) : Bool := decide (cS (offP x d) (offP x b) < 0) || (decide (cS (offP x d) (offP x b) = 0) && decide (d.co < b.co))
def orI (a b c : Int) : Int := if a ≠ 0 then a else if b ≠ 0 then b else c
def cmpI (a b : Int) : Int := if a < b then -1 else if a > b then 1 else 0
/-- The program's. -/
def cmp3 (x : Rat) (d b : PD) : Int := orI (cS (offP x d) (offP x b)) (cmpI d.co b.co) (Lib.compareBytes d.nm.data.toList b.nm.data.toList)
theorem compare_after : ∀ (a b : List UInt8), bytesBefore a b = true → Lib.compareBytes b a = 1
  | [], [], h => by simp [bytesBefore] at h
  | [], _ :: _, _ => rfl
  | _ :: _, [], h => by simp [bytesBefore] at h
  | a :: r, b :: s, h => by
    simp only [bytesBefore, Bool.or_eq_true, decide_eq_true_eq, Bool.and_eq_true, beq_iff_eq] at h
    show (if b < a then (-1 : Int) else if a < b then 1 else Lib.compareBytes s r) = 1
    rcases h with h | ⟨rfl, h⟩
    · have h' : ¬ b < a := by rw [UInt8.lt_iff_toNat_lt] at h ⊢; omega
      rw [if_neg h', if_pos h]
    · have h' : ¬ a < a := by rw [UInt8.lt_iff_toNat_lt]; omega
      rw [if_neg h', if_neg h', compare_after r s h]
theorem cS_val (a b : Rat) : cS a b = -1 ∨ cS a b = 0 ∨ cS a b = 1 := by
  unfold cS
  rcases Int.lt_trichotomy (a.num * b.den - b.num * a.den) 0 with h | h | h
  · exact .inl (Int.sign_eq_neg_one_of_neg h)
  · exact .inr (.inl (by rw [h]; rfl))
  · exact .inr (.inr (Int.sign_eq_one_of_pos h))
theorem cmp3_less (x : Rat) (d b : PD) (h : bef b d = true) : decide (cmp3 x d b < 0) = lessP x d b := by
  have hc := compare_after _ _ h
  unfold cmp3 lessP orI
  rw [hc]
  rcases cS_val (offP x d) (offP x b) with e | e | e
  · rw [e]; rfl
  · rw [e]
    unfold cmpI
    by_cases h1 : d.co < b.co
    · simp [h1]
    · by_cases h2 : d.co > b.co
      · simp [h1, h2]
      · simp [h1, h2]
  · rw [e]; rfl
def lensB (d : PD) : Bool := d.kd == 2
/-- The program's look: the first least one. -/
def minF (x : Rat) (m : PD) (l : List PD) : PD := l.foldl (fun m d => if cmp3 x d m < 0 then d else m) m
/-- The reference's, from what is best so far. -/
def nearG (x : Rat) : Option PD → List PD → Option PD
  | o, [] => o
  | o, d :: r => if lensB d then (match o with | none => nearG x (some d) r | some b => nearG x (some (if lessP x d b then d else b)) r) else nearG x o r
theorem minF_near (x : Rat) : ∀ (l : List PD) (m : PD), (∀ d ∈ l, bef m d = true) → l.Pairwise (fun a b => bef a b = true) → nearG x (some m) l = some (minF x m (l.filter lensB))
  | [], m, _, _ => rfl
  | d :: r, m, h1, h2 => by
    obtain ⟨h3, h4⟩ := List.pairwise_cons.1 h2
    unfold nearG
    by_cases hl : lensB d = true
    · rw [if_pos hl, List.filter_cons_of_pos hl]
      have hc := cmp3_less x d m (h1 d (List.mem_cons_self ..))
      show nearG x (some (if lessP x d m then d else m)) r = some (minF x (if cmp3 x d m < 0 then d else m) (r.filter lensB))
      by_cases h5 : cmp3 x d m < 0
      · rw [decide_eq_true h5] at hc
        rw [← hc, if_pos rfl, if_pos h5]
        exact minF_near x r d h3 h4
      · rw [decide_eq_false h5] at hc
        rw [← hc, if_neg (by simp), if_neg h5]
        exact minF_near x r m (fun e he => h1 e (List.mem_cons_of_mem _ he)) h4
    · rw [if_neg hl, List.filter_cons_of_neg hl]
      exact minF_near x r m (fun e he => h1 e (List.mem_cons_of_mem _ he)) h4
theorem near_both (x : Rat) : ∀ (l : List PD), l.Pairwise (fun a b => bef a b = true) → nearG x none l = match l.filter lensB with | [] => none | m :: r => some (minF x m r)
  | [], _ => rfl
  | d :: r, h => by
    obtain ⟨h3, h4⟩ := List.pairwise_cons.1 h
    unfold nearG
    by_cases hl : lensB d = true
    · rw [if_pos hl, List.filter_cons_of_pos hl]
      exact minF_near x r d h3 h4
    · rw [if_neg hl, List.filter_cons_of_neg hl]
      exact near_both x r h4
end Go.Proofs.YtjelnmokcpoofaaGreatDoor
namespace Go.Proofs.YtjelnmokcpoofaaGreatDoor
set_option maxRecDepth 100000
open Go Go.RowKit Go.Proofs
def AllV (os : List (PD × Value)) : Prop := ∀ x ∈ os, ∃ p q : FV, x.2 = .agg #[.string x.1.nm, .int .u8 x.1.kd, .bool p.b1, .slice p.a1 p.n1 p.c1, .bool p.b2, .slice p.a2 p.n2 p.c2, .bool q.b1, .slice q.a1 q.n1 q.c1, .bool q.b2, .slice q.a2 q.n2 q.c2, .int .i64 x.1.co]
theorem OutP.allV {lo : Nat} {w : World} {s : Value} {os : List (PD × Value)} (h : OutP lo w s os) : AllV os := fun x hx => by
  obtain ⟨p, q, e, -, -⟩ := (h.part x hx).r.fv
  exact ⟨p, q, e⟩
theorem cellsP_append (a b : List (PD × Value)) : cellsP (a ++ b) = cellsP a ++ cellsP b := by simp [cellsP]
theorem cellsP_len : ∀ {os : List (PD × Value)}, AllV os → (cellsP os).length = os.length * 11
  | [], _ => rfl
  | x :: r, h => by
    obtain ⟨p, q, e⟩ := h x (List.mem_cons_self ..)
    have ih := cellsP_len (os := r) fun y hy => h y (List.mem_cons_of_mem _ hy)
    have : cellsP (x :: r) = x.2.cells.toList ++ cellsP r := rfl
    rw [this, List.length_append, ih, e, List.length_cons]
    show 11 + _ = _
    omega
theorem AllV.take {os : List (PD × Value)} (h : AllV os) (i : Nat) : AllV (os.take i) := fun x hx => h x (List.mem_of_mem_take hx)
theorem cellsP_split {os : List (PD × Value)} (h : AllV os) {i : Nat} (hi : i < os.length) : cellsP os = cellsP (os.take i) ++ (os[i].2.cells.toList ++ cellsP (os.drop (i + 1))) ∧ (cellsP (os.take i)).length = i * 11 := by
  refine ⟨?_, ?_⟩
  · rw [show os[i].2.cells.toList ++ cellsP (os.drop (i + 1)) = cellsP (os.drop i) by rw [List.drop_eq_getElem_cons hi]; rfl, ← cellsP_append, List.take_append_drop]
  · rw [cellsP_len (h.take i), List.length_take, Nat.min_eq_left (Nat.le_of_lt hi)]
theorem row_extract {os : List (PD × Value)} (h : AllV os) {i : Nat} (hi : i < os.length) (rest : List Value) {sub : Array Value} (e : os[i].2 = .agg sub) :
    (cellsP os ++ rest).toArray.extract (i * 11) (i * 11 + sub.size) = sub := by
  obtain ⟨h1, h2⟩ := cellsP_split h hi
  rw [e] at h1
  have h1' : cellsP os = cellsP (os.take i) ++ (sub.toList ++ cellsP (os.drop (i + 1))) := h1
  apply Array.toList_inj.1
  rw [Array.toList_extract, List.extract_eq_take_drop, h1', List.append_assoc, List.drop_append_of_le_length (by omega), List.drop_of_length_le (by omega), List.nil_append, List.append_assoc]
  rw [show i * 11 + sub.size - i * 11 = sub.toList.length by simp, List.take_left]
theorem splice3 {α : Type} (A B C R S : List α) (k : Nat) (hA : A.length = k) (hB : B.length = 11) : (A ++ (B ++ C) ++ R).take k ++ S ++ (A ++ (B ++ C) ++ R).drop (k + 11) = A ++ (S ++ C) ++ R := by
  have e1 : A ++ (B ++ C) ++ R = A ++ (B ++ C ++ R) := by simp
  have e2 : A ++ (B ++ C) ++ R = (A ++ B) ++ (C ++ R) := by simp
  have h1 : (A ++ (B ++ C) ++ R).take k = A := by rw [e1, ← hA, List.take_left]
  have h2 : (A ++ (B ++ C) ++ R).drop (k + 11) = C ++ R := by rw [e2, show k + 11 = (A ++ B).length by rw [List.length_append]; omega, List.drop_left]
  rw [h1, h2]
  simp
theorem row_set {os : List (PD × Value)} (h : AllV os) {i : Nat} (hi : i < os.length) (rest : List Value) {x : PD × Value} {sub : Array Value} (e : x.2 = .agg sub) (hs : sub.size = 11) :
    (cellsP (os.set i x) ++ rest).toArray = ((cellsP os ++ rest).toArray.toList.take (i * 11) ++ sub.toList ++ (cellsP os ++ rest).toArray.toList.drop (i * 11 + sub.size)).toArray := by
  obtain ⟨h1, h2⟩ := cellsP_split h hi
  obtain ⟨p, q, e0⟩ := h os[i] (List.getElem_mem hi)
  have h3 : os[i].2.cells.toList.length = 11 := by rw [e0]; rfl
  have h4 : cellsP (os.set i x) = cellsP (os.take i) ++ (sub.toList ++ cellsP (os.drop (i + 1))) := by
    rw [List.set_eq_take_append_cons_drop, if_pos hi, cellsP_append]
    show _ ++ (x.2.cells.toList ++ _) = _
    rw [e]
    rfl
  rw [h4, hs]
  congr 1
  show _ = (cellsP os ++ rest).take (i * 11) ++ sub.toList ++ (cellsP os ++ rest).drop (i * 11 + 11)
  rw [h1]
  exact (splice3 _ _ _ _ _ _ h2 h3).symm
/-- The row of a list of one's own, written out. -/
theorem OutP.rowC {lo : Nat} {w : World} {g n c : Nat} {os : List (PD × Value)} (h : OutP lo w (.slice (some ⟨g, 0, none⟩) n c) os) : n = os.length ∧ os.length ≤ c ∧ c ≤ maxLen ∧ lo ≤ g ∧ ∃ rest : List Value, rest.length = (c - os.length) * 11 ∧ w.heap[g]? = some (.cells (cellsP os ++ rest).toArray 56 (0, 0)) := by
  obtain ⟨h1, h2 | ⟨k, cap, cur, e, h3, h4, h5, h6, h7, h8⟩⟩ := h.row
  · cases h2.1
  · simp only [Value.slice.injEq, Option.some.injEq, Addr.mk.injEq] at e
    obtain ⟨⟨rfl, _⟩, rfl, rfl⟩ := e
    refine ⟨rfl, h5, h6, h3, cur.toList.drop (os.length * 11), ?_, ?_⟩
    · rw [List.length_drop, Array.length_toList, h7, ← Nat.sub_mul]
    · rw [← h8, List.take_append_drop, Array.toArray_toList]
      exact h4
set_option maxHeartbeats 400000 in
/-- What is no lens. -/
theorem near2_c (nm : ByteArray) (kd co : Int) (p q : FV) (w : World) :
    Calls Tryz.prog 64 #[.agg #[.string nm, .int .u8 kd, .bool p.b1, .slice p.a1 p.n1 p.c1, .bool p.b2, .slice p.a2 p.n2 p.c2, .bool q.b1, .slice q.a1 q.n1 q.c1, .bool q.b2, .slice q.a2 q.n2 q.c2, .int .i64 co]] w fun e w' => e = .returned (.bool (kd != 2)) ∧ Ext w w' := by
  obtain ⟨wb, hwb⟩ : ∃ wb, wb = w.alloc (.cells #[.string nm, .int .u8 kd, .bool p.b1, .slice p.a1 p.n1 p.c1, .bool p.b2, .slice p.a2 p.n2 p.c2, .bool q.b1, .slice q.a1 q.n1 q.c1, .bool q.b2, .slice q.a2 q.n2 q.c2, .int .i64 co] 56) := ⟨_, rfl⟩
  have hE : Ext w wb := by rw [hwb]; exact (Ext.refl w).al _
  have c1 : wb.cell? ⟨w.heap.size, 1, none⟩ = some (.int .u8 kd) := by rw [hwb]; exact row16_cells (heap_alloc_new _ _) 1
  replace hE := mkHid hE
  replace hwb := mkHid hwb
  rw [hwb.out] at c1
  go_enter Tryz.func64, Tryz.ntmps64
  go_wp2_with fail
  go_ret
  exact ⟨rfl, by rw [← hwb.out]; exact hE.out⟩
/-- Where the first is that is no lens. -/
def firstNo (os : List (PD × Value)) : Option Nat := os.findIdx? fun x => x.1.kd != 2
def IdxR (w0 : World) (os : List (PD × Value)) (t8 : Value) (wr : World) : Prop := ∃ k : Nat, k ≤ os.length ∧ t8 = .int .i64 k ∧ (∀ x ∈ os.take k, x.1.kd = 2) ∧ Ext w0 wr
def idxV (os : List (PD × Value)) : Value := match firstNo os with | some i => .int .i64 i | none => .int .i64 (-1)
set_option maxHeartbeats 1600000 in
theorem index_c (os : List (PD × Value)) (rest : List Value) (g c : Nat) (w : World) (hv : AllV os) (hl : os.length ≤ 64) (hr : w.heap[g]? = some (.cells (cellsP os ++ rest).toArray 56 (0, 0))) :
    Calls Tryz.prog 105 #[.slice (some ⟨g, 0, none⟩) os.length c, .func (.func 64) #[] #[]] w fun e w' => e = .returned (idxV os) ∧ Ext w w' := by
  replace hv := mkHid hv
  replace hr := mkHid hr
  go_enter Tryz.func105, Tryz.ntmps105
  go_wp2_with fail
  have st : IdxR w os (.int .i64 0) w := ⟨0, Nat.zero_le _, rfl, by simp, Ext.refl _⟩
  replace st := mkHid st
  go_loopw [8] (fun t8 wr => IdxR w os t8 wr) (fun i _ => os.length - (intOf i).toNat)
  case atStart => exact st.out
  case round =>
    clear st
    obtain ⟨k, hk, rfl, hall, hE⟩ := hrel
    obtain ⟨w2, rfl⟩ : ∃ w2 : World, w2 = wr := ⟨_, rfl⟩
    by_cases hlt : k < os.length
    · obtain ⟨d, v, hdv⟩ : ∃ d v, os[k] = (d, v) := ⟨_, _, rfl⟩
      obtain ⟨p, q, e0⟩ := hv.out _ (List.getElem_mem hlt)
      rw [hdv] at e0
      have e0' : v = .agg #[.string d.nm, .int .u8 d.kd, .bool p.b1, .slice p.a1 p.n1 p.c1, .bool p.b2, .slice p.a2 p.n2 p.c2, .bool q.b1, .slice q.a1 q.n1 q.c1, .bool q.b2, .slice q.a2 q.n2 q.c2, .int .i64 d.co] := e0
      subst e0'
      have hx := mkHid (row_extract hv.out hlt rest (sub := #[.string d.nm, .int .u8 d.kd, .bool p.b1, .slice p.a1 p.n1 p.c1, .bool p.b2, .slice p.a2 p.n2 p.c2, .bool q.b1, .slice q.a1 q.n1 q.c1, .bool q.b2, .slice q.a2 q.n2 q.c2, .int .i64 d.co]) (by rw [hdv]))
      have hr2 := mkHid (hE.blk hr.out)
      have hlt' : (k : Int) < (os.length : Int) := by omega
      have hN := mkHid (near2_c d.nm d.kd d.co p q w2)
      generalize hB : (d.kd != 2) = B at hN
      replace hB := mkHid hB
      replace hdv := mkHid hdv
      replace hall := mkHid hall
      replace hE := mkHid hE
      clear e0
      have tok : Tok 0 := .mk _
      cases B
      all_goals go_wp2_with (first
        | ((have _t : Tok 0 := tok); clear _t; clear tok; (have tok : Tok 1 := .mk _); refine wpList_load_sub (by rfl) 56 (.tmp 14) rfl g (k * 11) ?zz 56 _ #[.string d.nm, .int .u8 d.kd, .bool p.b1, .slice p.a1 p.n1 p.c1, .bool p.b2, .slice p.a2 p.n2 p.c2, .bool q.b1, .slice q.a1 q.n1 q.c1, .bool q.b2, .slice q.a2 q.n2 q.c2, .int .i64 d.co] (0, 0) _ hr2.out hx.out Tryz.underlying56 rfl (by kernel_rfl) ?_; (case zz => rfl))
        | ((have _t : Tok 1 := tok); clear _t; clear tok; go_at_call 64; refine hN.out.mono ?_; rintro e w3 ⟨rfl, hx3⟩; replace hE := mkHid (hE.out.trans hx3); clear hx3))
      · refine ⟨⟨k + 1, by omega, by go_num, fun x hx => ?_, hE.out⟩, by simp [intOf]; omega⟩
        rw [List.take_succ_eq_append_getElem hlt] at hx
        rcases List.mem_append.1 hx with hx | hx
        · exact hall.out x hx
        · rw [List.mem_singleton] at hx
          rw [hx, hdv.out]
          have := hB.out
          simpa using this
      · go_ret
        have e : firstNo os = some k := by
          unfold firstNo
          rw [List.findIdx?_eq_some_iff_getElem]
          refine ⟨hlt, by rw [hdv.out]; exact hB.out, fun j hj => ?_⟩
          have := hall.out os[j] (by rw [List.mem_take_iff_getElem]; exact ⟨j, by omega, rfl⟩)
          simp [this]
        unfold idxV
        rw [e]
        exact ⟨rfl, hE.out⟩
    · have hk2 : k = os.length := by omega
      subst hk2
      rw [List.take_length] at hall
      replace hall := mkHid hall
      replace hE := mkHid hE
      go_wp2_with fail
      go_ret
      have e : firstNo os = none := by
        unfold firstNo
        rw [List.findIdx?_eq_none_iff]
        intro x hx
        simp [hall.out x hx]
      unfold idxV
      rw [e]
      exact ⟨rfl, hE.out⟩
end Go.Proofs.YtjelnmokcpoofaaGreatDoor
namespace Go.Proofs.YtjelnmokcpoofaaGreatDoor
set_option maxRecDepth 100000
open Go Go.RowKit Go.Proofs
theorem zero_len (n : Nat) : (Builtin.zeroCells zeroPart.cells n).toList.length = n * 11 := by
  simp [Builtin.zeroCells, Value.cells]
theorem zero_one (n : Nat) : ∀ v ∈ (Builtin.zeroCells zeroPart.cells n).toList, v.oneCell' = true := by
  intro v hv
  unfold Builtin.zeroCells at hv
  simp only [Array.toList_map, List.mem_map] at hv
  obtain ⟨i, -, rfl⟩ := hv
  have h : ∀ k, k < 11 → (zeroPart.cells[k]!).oneCell' = true := by
    intro k hk
    have : k = 0 ∨ k = 1 ∨ k = 2 ∨ k = 3 ∨ k = 4 ∨ k = 5 ∨ k = 6 ∨ k = 7 ∨ k = 8 ∨ k = 9 ∨ k = 10 := by omega
    rcases this with rfl | rfl | rfl | rfl | rfl | rfl | rfl | rfl | rfl | rfl | rfl <;> rfl
  exact h _ (Nat.mod_lt _ (by decide))
theorem run_clear_gen {P : Program} (w : World) (ty t e : TypeId) (z : Value) (ht : P.underlying t = some (.slice e)) (hz : (zeroValue e).run P w = .ok z w) (g k n c L : Nat) (cur : Array Value) (hg : w.heap[g]? = some (.cells cur e (0, 0))) (hn : 0 < n) (hL : (Builtin.zeroCells z.cells n).toList.length = L)
    (h1 : ∀ v ∈ (Builtin.zeroCells z.cells n).toList, v.oneCell' = true) (hk : k + L ≤ cur.size) :
    (Builtin.clear_ #[t] ty #[.slice (some ⟨g, k, none⟩) n c]).run P w = .ok (.tuple #[]) (w.setRow g (cur.toList.take k ++ (Builtin.zeroCells z.cells n).toList ++ cur.toList.drop (k + L)).toArray) := by
  have hst := run_storeCells_at (P := P) g k e (Builtin.zeroCells z.cells n).toList 0 cur w hg (by rw [hL]; omega) h1
  rw [hL] at hst
  simp only [Nat.add_zero] at hst
  obtain ⟨m, rfl⟩ : ∃ m, n = m + 1 := ⟨n - 1, by omega⟩
  simp [Builtin.clear_, run_underlying ht, hz, hst]
theorem run_clear_row (w : World) (ty : TypeId) (g k n c : Nat) (cur : Array Value) (hg : w.heap[g]? = some (.cells cur 56 (0, 0))) (hn : 0 < n) (hk : k + n * 11 ≤ cur.size) :
    (Builtin.clear_ #[27] ty #[.slice (some ⟨g, k, none⟩) n c]).run Tryz.prog w = .ok (.tuple #[]) (w.setRow g (cur.toList.take k ++ (Builtin.zeroCells zeroPart.cells n).toList ++ cur.toList.drop (k + n * 11)).toArray) :=
  run_clear_gen w ty _ _ zeroPart Tryz.underlying27 (zero_part w) g k n c _ cur hg hn (zero_len n) (zero_one n) hk
def lensX (x : PD × Value) : Bool := x.1.kd == 2
def DelR (W0 : World) (g : Nat) (rest : List Value) (os : List (PD × Value)) (t5 t6 : Value) (wr : World) : Prop :=
  ∃ (i j : Nat) (os' : List (PD × Value)), i < j ∧ j ≤ os.length ∧ t5 = .int .i64 i ∧ t6 = .int .i64 j ∧ os'.length = os.length ∧ os'.take i = (os.take j).filter lensX ∧ os'.drop j = os.drop j ∧ (∀ x ∈ os', x ∈ os) ∧
    wr.heap[g]? = some (.cells (cellsP os' ++ rest).toArray 56 (0, 0)) ∧ Chg W0 wr (· = g)
def DelQ (lo : Nat) (w : World) (s : Value) (os : List (PD × Value)) (e : Ending) (w' : World) : Prop := ∃ s', e = .returned s' ∧ OutP lo w' s' (os.filter lensX) ∧ Chg w w' (fun k => s.ownBlock = some k)
theorem first_take {os : List (PD × Value)} {i : Nat} (h : firstNo os = some i) : i < os.length ∧ os.take i = (os.take (i + 1)).filter lensX := by
  unfold firstNo at h
  rw [List.findIdx?_eq_some_iff_getElem] at h
  obtain ⟨hi, h1, h2⟩ := h
  refine ⟨hi, ?_⟩
  have h0 : lensX os[i] = false := by
    unfold lensX
    simpa [bne] using h1
  rw [List.take_succ_eq_append_getElem hi, List.filter_append, List.filter_eq_self.2 ?_, List.filter_cons_of_neg (by rw [h0]; simp), List.filter_nil, List.append_nil]
  · intro x hx
    rw [List.mem_take_iff_getElem] at hx
    obtain ⟨j, hj, rfl⟩ := hx
    have := h2 j (by omega)
    unfold lensX
    simpa [bne] using this
theorem first_none {os : List (PD × Value)} (h : firstNo os = none) : os.filter lensX = os := by
  unfold firstNo at h
  rw [List.findIdx?_eq_none_iff] at h
  rw [List.filter_eq_self]
  intro x hx
  have := h x hx
  unfold lensX
  simpa [bne] using this
set_option maxHeartbeats 1600000 in
theorem delete_none (lo : Nat) (w : World) (s : Value) (os : List (PD × Value)) (h : OutP lo w s os) (hl : os.length ≤ 64) (hf : firstNo os = none) :
    Calls Tryz.prog 63 #[s, .func (.func 64) #[] #[]] w (DelQ lo w s os) := by
  have hI : Calls Tryz.prog 105 #[s, .func (.func 64) #[] #[]] w fun e w' => e = .returned (.int .i64 (-1)) ∧ Ext w w' := by
    rcases h.row.2 with ⟨rfl, he⟩ | ⟨g, cap, cur, e, -⟩
    · go_enter Tryz.func105, Tryz.ntmps105
      go_wp2_with fail
      refine wp_loop_rounds 1 ?_
      rw [rounds_succ]
      go_wp2_with fail
      go_ret
      exact ⟨rfl, Ext.refl _⟩
    · subst e
      obtain ⟨-, -, -, -, rest, -, hr⟩ := h.rowC
      have := index_c os rest g cap w h.allV hl hr
      unfold idxV at this
      rw [hf] at this
      exact this
  replace hI := mkHid hI
  replace h := mkHid h
  have hf := mkHid (first_none hf)
  go_enter Tryz.func63, Tryz.ntmps63
  go_wp2_with (go_at_call 105; refine hI.out.mono ?_; rintro e w' ⟨rfl, hE⟩; replace hE := mkHid hE)
  go_ret
  exact ⟨s, rfl, by rw [hf.out]; exact h.out.ext hE.out, Chg.of_ext hE.out _⟩
theorem blksP_filter (f : PD × Value → Bool) : ∀ os : List (PD × Value), (blksP (os.filter f)).Sublist (blksP os)
  | [] => List.Sublist.refl _
  | x :: r => by
    have e : blksP (x :: r) = Aloof.blks x.2 ++ blksP r := rfl
    by_cases h : f x = true
    · rw [List.filter_cons_of_pos h, e]
      exact (List.Sublist.refl (Aloof.blks x.2)).append (blksP_filter f r)
    · rw [List.filter_cons_of_neg h, e]
      exact (blksP_filter f r).trans (List.sublist_append_right _ _)
theorem Chg.set (w : World) (g : Nat) (cs : Array Value) : Chg w (w.setRow g cs) (· = g) :=
  ⟨rfl, rfl, rfl, by simp, fun k _ hk => setRow_other _ _ _ _ hk⟩
theorem FV.store_one (d : PD) (p q : FV) : (#[.string d.nm, .int .u8 d.kd, .bool p.b1, .slice p.a1 p.n1 p.c1, .bool p.b2, .slice p.a2 p.n2 p.c2, .bool q.b1, .slice q.a1 q.n1 q.c1, .bool q.b2, .slice q.a2 q.n2 q.c2, .int .i64 d.co] : Array Value).all (·.oneCell') = true :=
  Array.all_eq_true_iff_forall_mem.2 fun v hv => part_one d p q v (by simpa using hv)
set_option maxHeartbeats 3200000 in
theorem delete_some (lo : Nat) (w : World) (g n c : Nat) (os : List (PD × Value)) (h : OutP lo w (.slice (some ⟨g, 0, none⟩) n c) os) (hl : os.length ≤ 64) (i : Nat) (hf : firstNo os = some i) :
    Calls Tryz.prog 63 #[.slice (some ⟨g, 0, none⟩) n c, .func (.func 64) #[] #[]] w (DelQ lo w (.slice (some ⟨g, 0, none⟩) n c) os) := by
  obtain ⟨hn, hnc, hcm, hlg, rest, hrl, hr⟩ := h.rowC
  subst hn
  have hI := index_c os rest g c w h.allV hl hr
  unfold idxV at hI
  rw [hf] at hI
  replace hI : Calls Tryz.prog 105 #[.slice (some ⟨g, 0, none⟩) os.length c, .func (.func 64) #[] #[]] w fun e w' => e = .returned (.int .i64 i) ∧ Ext w w' := hI
  obtain ⟨hi, hft⟩ := first_take hf
  have hgl : g < w.heap.size := (Array.getElem?_eq_some_iff.1 hr).1
  replace hI := mkHid hI
  replace hr := mkHid hr
  replace hft := mkHid hft
  replace hrl := mkHid hrl
  replace hcm := mkHid hcm
  have hv := mkHid h.allV
  replace h := mkHid h
  have h1 : (i : Int) + 1 ≤ 64 := by omega
  clear hf
  go_enter Tryz.func63, Tryz.ntmps63
  go_wp2_with (go_at_call 105; refine hI.out.mono ?_; rintro e w1 ⟨rfl, hE⟩; replace hE := mkHid hE)
  have st : DelR w g rest os (.int .i64 i) (.int .i64 ((i : Int) + 1)) w1 := ⟨i, i + 1, os, by omega, by omega, rfl, by go_num, rfl, hft.out, rfl, fun _ h => h, hE.out.blk hr.out, Chg.of_ext hE.out _⟩
  replace st := mkHid st
  clear h1 hft hE hI
  go_loopw [5, 6] (fun t5 t6 wr => DelR w g rest os t5 t6 wr) (fun _ j _ => os.length - (intOf j).toNat)
  case atStart => exact st.out
  case round =>
    clear st
    obtain ⟨y, j, os', hij, hj, rfl, rfl, hlen, htk, hdr, hsub, hrow, hch⟩ := hrel
    obtain ⟨w2, rfl⟩ : ∃ w2 : World, w2 = wr := ⟨_, rfl⟩
    have hv' : AllV os' := fun x hx => hv.out x (hsub x hx)
    by_cases hlt : j < os.length
    · have hlt' : j < os'.length := by omega
      obtain ⟨d, v, hdv⟩ : ∃ d v, os'[j] = (d, v) := ⟨_, _, rfl⟩
      have hmem : (d, v) ∈ os' := by rw [← hdv]; exact List.getElem_mem hlt'
      obtain ⟨p, q, e0⟩ := hv' _ hmem
      have e0' : v = .agg #[.string d.nm, .int .u8 d.kd, .bool p.b1, .slice p.a1 p.n1 p.c1, .bool p.b2, .slice p.a2 p.n2 p.c2, .bool q.b1, .slice q.a1 q.n1 q.c1, .bool q.b2, .slice q.a2 q.n2 q.c2, .int .i64 d.co] := e0
      subst e0'
      have hdo : os[j] = (d, .agg #[.string d.nm, .int .u8 d.kd, .bool p.b1, .slice p.a1 p.n1 p.c1, .bool p.b2, .slice p.a2 p.n2 p.c2, .bool q.b1, .slice q.a1 q.n1 q.c1, .bool q.b2, .slice q.a2 q.n2 q.c2, .int .i64 d.co]) := by
        rw [← hdv]
        have a := List.drop_eq_getElem_cons hlt
        have b := List.drop_eq_getElem_cons hlt'
        rw [a, b] at hdr
        exact (List.cons.inj hdr).1.symm
      have hx := mkHid (row_extract hv' hlt' rest (sub := #[.string d.nm, .int .u8 d.kd, .bool p.b1, .slice p.a1 p.n1 p.c1, .bool p.b2, .slice p.a2 p.n2 p.c2, .bool q.b1, .slice q.a1 q.n1 q.c1, .bool q.b2, .slice q.a2 q.n2 q.c2, .int .i64 d.co]) (by rw [hdv]))
      have hN := fun W => near2_c d.nm d.kd d.co p q W
      generalize hB : (d.kd != 2) = B at hN
      have hst := mkHid (row_set hv' (show y < os'.length by omega) rest (x := (d, .agg #[.string d.nm, .int .u8 d.kd, .bool p.b1, .slice p.a1 p.n1 p.c1, .bool p.b2, .slice p.a2 p.n2 p.c2, .bool q.b1, .slice q.a1 q.n1 q.c1, .bool q.b2, .slice q.a2 q.n2 q.c2, .int .i64 d.co])) (sub := #[.string d.nm, .int .u8 d.kd, .bool p.b1, .slice p.a1 p.n1 p.c1, .bool p.b2, .slice p.a2 p.n2 p.c2, .bool q.b1, .slice q.a1 q.n1 q.c1, .bool q.b2, .slice q.a2 q.n2 q.c2, .int .i64 d.co]) rfl rfl)
      have hsz := mkHid (show (cellsP os' ++ rest).toArray.size = c * 11 by rw [List.size_toArray, List.length_append, cellsP_len hv', hrl.out, hlen, ← Nat.add_mul]; congr 1; omega)
      have hjl : (j : Int) < (os.length : Int) := by omega
      have hil : (y : Int) < (os.length : Int) := by omega
      have hg2 : g < w2.heap.size := (Array.getElem?_eq_some_iff.1 hrow).1
      obtain ⟨w3, hw3⟩ : ∃ w3, w3 = (w2.alloc (.cells #[.string ⟨#[]⟩, .int .u8 0, .bool false, .slice none 0 0, .bool false, .slice none 0 0, .bool false, .slice none 0 0, .bool false, .slice none 0 0, .int .i64 0] 56)).setRow w2.heap.size #[.string d.nm, .int .u8 d.kd, .bool p.b1, .slice p.a1 p.n1 p.c1, .bool p.b2, .slice p.a2 p.n2 p.c2, .bool q.b1, .slice q.a1 q.n1 q.c1, .bool q.b2, .slice q.a2 q.n2 q.c2, .int .i64 d.co] := ⟨_, rfl⟩
      have hE3 : Ext w2 w3 := by rw [hw3]; exact ((Ext.refl w2).al _).row (Nat.le_refl _) _
      have z3 := mkHid (show w3.heap[w2.heap.size]? = some (.cells #[.string d.nm, .int .u8 d.kd, .bool p.b1, .slice p.a1 p.n1 p.c1, .bool p.b2, .slice p.a2 p.n2 p.c2, .bool q.b1, .slice q.a1 q.n1 q.c1, .bool q.b2, .slice q.a2 q.n2 q.c2, .int .i64 d.co] 56 (0, 0)) by rw [hw3]; exact setRow_heap _ _ _ _ _ _ (heap_alloc_new _ _))
      have hrow3 := mkHid (hE3.blk hrow)
      replace hN := mkHid hN
      replace hB := mkHid hB
      replace hdv := mkHid hdv
      replace hdo := mkHid hdo
      replace hw3 := mkHid hw3
      replace hE3 := mkHid hE3
      replace hrow := mkHid hrow
      replace hch := mkHid hch
      replace htk := mkHid htk
      replace hdr := mkHid hdr
      replace hsub := mkHid hsub
      replace hlen := mkHid hlen
      replace hv' := mkHid hv'
      replace hmem := mkHid hmem
      clear e0
      have tok : Tok 0 := .mk _
      cases B
      all_goals go_wp2_with (first
        | ((have _t : Tok 0 := tok); clear _t; clear tok; (have tok : Tok 1 := .mk _); refine wpList_load_sub (by rfl) 56 (.tmp 24) rfl g (j * 11) ?zz 56 _ #[.string d.nm, .int .u8 d.kd, .bool p.b1, .slice p.a1 p.n1 p.c1, .bool p.b2, .slice p.a2 p.n2 p.c2, .bool q.b1, .slice q.a1 q.n1 q.c1, .bool q.b2, .slice q.a2 q.n2 q.c2, .int .i64 d.co] (0, 0) _ hrow.out hx.out Tryz.underlying56 rfl (by kernel_rfl) ?_; (case zz => rfl))
        | ((have _t : Tok 1 := tok); clear _t; clear tok; (have tok : Tok 2 := .mk _); refine wpList_store_row rfl 56 (.tmp 7) (.tmp 25) rfl w2.heap.size #[.string d.nm, .int .u8 d.kd, .bool p.b1, .slice p.a1 p.n1 p.c1, .bool p.b2, .slice p.a2 p.n2 p.c2, .bool q.b1, .slice q.a1 q.n1 q.c1, .bool q.b2, .slice q.a2 q.n2 q.c2, .int .i64 d.co] rfl rfl 56 _ (heap_alloc_new _ _) (by kernel_rfl) rfl (by kernel_rfl) ?_; rw [← hw3.out])
        | ((have _t : Tok 2 := tok); clear _t; clear tok; (have tok : Tok 3 := .mk _); refine wpList_load_row (by rfl) 56 (.tmp 7) rfl w2.heap.size rfl 56 #[.string d.nm, .int .u8 d.kd, .bool p.b1, .slice p.a1 p.n1 p.c1, .bool p.b2, .slice p.a2 p.n2 p.c2, .bool q.b1, .slice q.a1 q.n1 q.c1, .bool q.b2, .slice q.a2 q.n2 q.c2, .int .i64 d.co] (0, 0) _ z3.out Tryz.underlying56 rfl (by kernel_rfl) ?_)
        | ((have _t : Tok 3 := tok); clear _t; clear tok; (have tok : Tok 4 := .mk _); go_at_call 64; refine (hN.out _).mono ?_; rintro e w4 ⟨rfl, hx4⟩; replace z3 := mkHid (hx4.blk z3.out); replace hrow3 := mkHid (hx4.blk hrow3.out); replace hE3 := mkHid (hE3.out.trans hx4); clear hx4)
        | ((have _t : Tok 4 := tok); clear _t; clear tok; (have tok : Tok 5 := .mk _); refine wpList_load_row (by rfl) 56 (.tmp 7) rfl w2.heap.size rfl 56 #[.string d.nm, .int .u8 d.kd, .bool p.b1, .slice p.a1 p.n1 p.c1, .bool p.b2, .slice p.a2 p.n2 p.c2, .bool q.b1, .slice q.a1 q.n1 q.c1, .bool q.b2, .slice q.a2 q.n2 q.c2, .int .i64 d.co] (0, 0) _ z3.out Tryz.underlying56 rfl (by kernel_rfl) ?_)
        | ((have _t : Tok 5 := tok); clear _t; clear tok; (have tok : Tok 6 := .mk _); refine wpList_store_sub rfl 56 (.tmp 33) (.tmp 32) rfl g (y * 11) ?zy 56 _ _ #[.string d.nm, .int .u8 d.kd, .bool p.b1, .slice p.a1 p.n1 p.c1, .bool p.b2, .slice p.a2 p.n2 p.c2, .bool q.b1, .slice q.a1 q.n1 q.c1, .bool q.b2, .slice q.a2 q.n2 q.c2, .int .i64 d.co] rfl hrow3.out (by kernel_rfl) ?zw hst.out (FV.store_one d p q) ?_; (case zy => rfl); (case zw => rw [hsz.out]; show y * 11 + 11 ≤ c * 11; omega)))
      · go_roundw
        case measure => simp [intOf]; omega
        case rel =>
          have hle : lensX (d, Value.agg #[.string d.nm, .int .u8 d.kd, .bool p.b1, .slice p.a1 p.n1 p.c1, .bool p.b2, .slice p.a2 p.n2 p.c2, .bool q.b1, .slice q.a1 q.n1 q.c1, .bool q.b2, .slice q.a2 q.n2 q.c2, .int .i64 d.co]) = true := by
            have := hB.out
            unfold lensX
            simpa using this
          have hy : y < os'.length := by omega
          repeat apply Exists.intro
          refine And.intro ?rr rfl
          refine ⟨y + 1, j + 1, os'.set y (d, Value.agg #[.string d.nm, .int .u8 d.kd, .bool p.b1, .slice p.a1 p.n1 p.c1, .bool p.b2, .slice p.a2 p.n2 p.c2, .bool q.b1, .slice q.a1 q.n1 q.c1, .bool q.b2, .slice q.a2 q.n2 q.c2, .int .i64 d.co]), by omega, by omega, by go_num, by go_num, by rw [List.length_set]; exact hlen.out, ?_, ?_, fun x hx => ?_, setRow_heap _ _ _ _ _ _ hrow3.out, hch.out.trans ((Chg.of_ext hE3.out _).trans (Chg.set _ _ _))⟩
          · rw [List.take_succ_eq_append_getElem (by rw [List.length_set]; exact hy), List.take_set_of_le (Nat.le_refl _), List.getElem_set_self, htk.out, List.take_succ_eq_append_getElem hlt, hdo.out, List.filter_append, List.filter_cons_of_pos hle, List.filter_nil]
          · rw [List.drop_set_of_lt (by omega), ← List.drop_drop, hdr.out, List.drop_drop]
          · rcases List.mem_or_eq_of_mem_set hx with hx | rfl
            · exact hsub.out x hx
            · exact hsub.out _ hmem.out
      · go_roundw
        case measure => simp [intOf]; omega
        case rel =>
          have hle : ¬ lensX (d, Value.agg #[.string d.nm, .int .u8 d.kd, .bool p.b1, .slice p.a1 p.n1 p.c1, .bool p.b2, .slice p.a2 p.n2 p.c2, .bool q.b1, .slice q.a1 q.n1 q.c1, .bool q.b2, .slice q.a2 q.n2 q.c2, .int .i64 d.co]) = true := by
            have := hB.out
            unfold lensX
            simpa using this
          repeat apply Exists.intro
          refine And.intro ?rr2 rfl
          refine ⟨y, j + 1, os', by omega, by omega, rfl, by go_num, hlen.out, ?_, ?_, hsub.out, hrow3.out, hch.out.trans (Chg.of_ext hE3.out _)⟩
          · rw [htk.out, List.take_succ_eq_append_getElem hlt, hdo.out, List.filter_append, List.filter_cons_of_neg hle, List.filter_nil, List.append_nil]
          · rw [← List.drop_drop, hdr.out, List.drop_drop]
    · have hjn : j = os.length := by omega
      subst hjn
      have hsz := show (cellsP os' ++ rest).toArray.size = c * 11 by rw [List.size_toArray, List.length_append, cellsP_len hv', hrl.out, hlen, ← Nat.add_mul]; congr 1; omega
      have hcl := fun ty => run_clear_row w2 ty g (y * 11) (os.length - y) (c - y) _ hrow (by omega) (by rw [hsz, ← Nat.add_mul]; exact Nat.mul_le_mul_right _ (by omega))
      obtain ⟨w5, hw5⟩ : ∃ w5, w5 = w2.setRow g ((cellsP os' ++ rest).toArray.toList.take (y * 11) ++ (Builtin.zeroCells zeroPart.cells (os.length - y)).toList ++ (cellsP os' ++ rest).toArray.toList.drop (y * 11 + (os.length - y) * 11)).toArray := ⟨_, rfl⟩
      rw [← hw5] at hcl
      have hil : (y : Int) < (os.length : Int) := by omega
      have hcl2 : (c : Int) ≤ 9223372036854775807 := by have := hcm.out; unfold maxLen at this; omega
      replace hw5 := mkHid hw5
      replace hrow := mkHid hrow
      replace hch := mkHid hch
      replace htk := mkHid htk
      replace hdr := mkHid hdr
      replace hsub := mkHid hsub
      replace hlen := mkHid hlen
      replace hv' := mkHid hv'
      replace hsz := mkHid hsz
      go_wp2_with fail
      go_ret
      have hF : os'.take y = os.filter lensX := by rw [htk.out, List.take_length]
      have hy : y < os'.length := by have := hlen.out; omega
      have hFl : (os.filter lensX).length = y := by rw [← hF, List.length_take]; omega
      obtain ⟨hs1, hs2⟩ := cellsP_split hv'.out hy
      have h5 := setRow_heap w2 g _ ((cellsP os' ++ rest).toArray.toList.take (y * 11) ++ (Builtin.zeroCells zeroPart.cells (os.length - y)).toList ++ (cellsP os' ++ rest).toArray.toList.drop (y * 11 + (os.length - y) * 11)).toArray _ _ hrow.out
      rw [← hw5.out] at h5
      have ht : (cellsP os' ++ rest).toArray.toList.take (y * 11) = cellsP (os.filter lensX) := by
        show (cellsP os' ++ rest).take (y * 11) = _
        rw [hs1, List.append_assoc, List.take_append_of_le_length (by omega), List.take_of_length_le (by omega), hF]
      rw [ht] at h5
      have hc5 : Chg w w5 (· = g) := hch.out.trans (by rw [hw5.out]; exact Chg.set _ _ _)
      have hcl11 : (cellsP (os.filter lensX)).length = y * 11 := by rw [← hF]; exact hs2
      refine ⟨_, rfl, ⟨⟨by rw [hFl]; exact hcl11, .inr ⟨g, c, _, by rw [hFl]; rfl, hlg, h5, by rw [hFl]; omega, hcm.out, ?_, ?_⟩⟩, fun x hx => ?_, h.out.nod.sublist (blksP_filter _ _), fun k hk hm => ?_⟩, hc5.mono fun k _ hk => by rw [hk]; rfl⟩
      · have hz := hsz.out
        rw [List.size_toArray] at hz ⊢
        rw [List.length_append, List.length_append, hcl11, zero_len, List.length_drop]
        show y * 11 + (os.length - y) * 11 + ((cellsP os' ++ rest).length - _) = _
        rw [hz]
        omega
      · rw [hFl, List.append_assoc, List.take_append_of_le_length (by omega), List.take_of_length_le (by omega)]
      · have hxo : x ∈ os := (List.mem_filter.1 hx).1
        have hP := h.out.part x hxo
        refine hP.near fun k hk => hc5.block k (hP.span k hk).2 fun e => ?_
        exact h.out.own g rfl (List.mem_flatMap.2 ⟨x, hxo, by rw [← e]; exact hk⟩)
      · cases hk
        exact h.out.own g rfl ((blksP_filter _ _).subset hm)
end Go.Proofs.YtjelnmokcpoofaaGreatDoor
namespace Go.Proofs.YtjelnmokcpoofaaGreatDoor
set_option maxRecDepth 100000
open Go Go.RowKit Go.Proofs
theorem sizeBuilder : (Tryz.prog.info? 65).map (·.size) = some 2 := by kernel_rfl
theorem liesBuilder : liesAt Tryz.prog Tryz.prog.depth 65 (2 / Tryz.prog.cellsOf 65) 0 65 1 = true := by kernel_rfl
theorem infoByte : (Tryz.prog.info? 5).map (fun i => (i.zero, i.size, i.bytes)) = some (some (.int .u8 0), 1, 1) := by kernel_rfl
set_option maxHeartbeats 1000000 in
theorem bcheck_used (b : Nat) (w : World) (h0 : w.cell? ⟨b, 0, none⟩ = some (.pointer (some ⟨b, 0, none⟩))) :
    Calls Tryz.prog 49 #[.pointer (some ⟨b, 0, none⟩)] w fun e w' => e = .returned (.tuple #[]) ∧ w' = w := by
  obtain ⟨j, hj, _⟩ := Option.map_eq_some_iff.1 sizeBuilder
  go_enter Tryz.func49, Tryz.ntmps49
  go_wp2
  rw [Lib.run_neq_ptr_same w _ Tryz.underlying62 hj]
  go_wp2
  go_end0
  exact ⟨rfl, rfl⟩
set_option maxHeartbeats 1000000 in
theorem bcheck_fresh (b : Nat) (w : World) (h0 : w.cell? ⟨b, 0, none⟩ = some (.pointer none)) (hsh : w.shape? b = some (65, 2)) (hfz : w.frozen? ⟨b, 0, none⟩ = false) :
    Calls Tryz.prog 49 #[.pointer (some ⟨b, 0, none⟩)] w fun e w' => e = .returned (.tuple #[]) ∧ w' = w.setCell ⟨b, 0, none⟩ (.pointer (some ⟨b, 0, none⟩)) := by
  obtain ⟨j, hj, hjs⟩ := Option.map_eq_some_iff.1 sizeBuilder
  go_enter Tryz.func49, Tryz.ntmps49
  go_wp2
  rw [Lib.run_to_unsafe w ⟨b, 0, none⟩ Tryz.underlying62 Tryz.underlying133 hj (by rw [hjs]; decide) hsh (Nat.zero_lt_succ 1)]
  simp only [Result.andThen]
  rw [Oper.upon_value]
  go_wp2
  rw [run_callFunc_extern Tryz.func85 (by kernel_rfl) (by kernel_rfl) (by kernel_rfl) (e := Extern.AbiNoEscape.same) (by kernel_rfl)]
  rw [Lib.run_noEscape]
  simp only [Result.andThen]
  rw [Oper.upon_value]
  go_wp2
  rw [Lib.run_from_unsafe w ⟨b, 0, none⟩ Tryz.underlying133 Tryz.underlying62 hj hsh liesBuilder]
  simp only [Result.andThen]
  rw [Oper.upon_value]
  go_wp2
  go_end0
  exact ⟨rfl, rfl⟩
theorem bcheck_c (B b : Nat) (bs : List Value) (w : World) (h : Lib.IsBuilder 65 5 B b bs w) :
    Calls Tryz.prog 49 #[.pointer (some ⟨b, 0, none⟩)] w fun e w' => e = .returned (.tuple #[]) ∧ (Lib.BuilderAt 65 5 B b (.pointer (some ⟨b, 0, none⟩)) bs w' ∧ Below B w w') := by
  rcases h with h | h
  · refine (bcheck_fresh b w h.cell0 h.shape h.frozen0).mono ?_
    rintro e w' ⟨rfl, rfl⟩
    exact ⟨rfl, h.used _, (Below.refl B w).setCell (p := ⟨b, 0, none⟩) h.1 _⟩
  · refine (bcheck_used b w h.cell0).mono ?_
    rintro e w' ⟨rfl, rfl⟩
    exact ⟨rfl, h, Below.refl B _⟩
set_option maxHeartbeats 2000000 in
theorem bwrite_c (B b : Nat) (bs : List Value) (s : ByteArray) (w : World) (h : Lib.IsBuilder 65 5 B b bs w) (hlen : bs.length + s.size ≤ 140737488355328) (hBw : B ≤ w.heap.size) :
    Calls Tryz.prog 20 #[.pointer (some ⟨b, 0, none⟩), .string s] w fun e w' => e = .returned (.tuple #[.int .i64 s.size, .nilIface]) ∧ (Lib.BuilderAt 65 5 B b (.pointer (some ⟨b, 0, none⟩)) (bs ++ Lib.strCells s) w' ∧ Below B w w') := by
  obtain ⟨i0, hi, hz0, hz1, hz2⟩ := info_parts infoByte
  go_enter Tryz.func20, Tryz.ntmps20
  go_wp2_with (go_at_call 49; refine (bcheck_c B b bs _ h).mono ?_)
  rintro e w1 ⟨rfl, h1, hb1⟩
  obtain ⟨hB, v, hbk, hown, hne⟩ := h1
  have c0 : w1.cell? ⟨b, 0, none⟩ = some (.pointer (some ⟨b, 0, none⟩)) := by rw [Lib.cell_of_heap hbk]; rfl
  have c1 : w1.cell? ⟨b, 1, none⟩ = some v := by rw [Lib.cell_of_heap hbk]; rfl
  go_wp2_with (at_builtin; refine Lib.wpList_append_own_string _ rfl _ _ 63 9 rfl B 5 i0 Tryz.underlying63 Tryz.underlying9 hi hz0 hz1 hz2 _ _ _ rfl hown s rfl ?c3 ?c4 ?c5 ?_)
  case c3 => unfold maxLen; omega
  case c4 => omega
  case c5 => have := hb1.size; omega
  intro v' w2 hown' hgrow _
  have hlt : b < w1.heap.size := by
    rcases Nat.lt_or_ge b w1.heap.size with h' | h'
    · exact h'
    · simp [Array.getElem?_eq_none h'] at hbk
  have hb2 : w2.heap[b]? = some (.cells #[.pointer (some ⟨b, 0, none⟩), v] 65 (0, 0)) := by
    rw [hgrow.block b hlt (fun e => hne e.symm)]
    exact hbk
  have d0 : w2.cell? ⟨b, 0, none⟩ = some (.pointer (some ⟨b, 0, none⟩)) := by rw [Lib.cell_of_heap hb2]; rfl
  have d1 : w2.cell? ⟨b, 1, none⟩ = some v := by rw [Lib.cell_of_heap hb2]; rfl
  have f1 : w2.frozen? ⟨b, 1, none⟩ = false := Lib.frozen_of_heap hb2 1
  obtain ⟨ao, n', cap, rfl⟩ : ∃ ao n' cap, v' = .slice ao n' cap := by
    rcases hown'.2 with ⟨hv, _⟩ | ⟨g, cap, cur, hv, _⟩
    · exact ⟨_, _, _, hv⟩
    · exact ⟨_, _, _, hv⟩
  go_wp2
  go_ret2
  refine ⟨rfl, ?_, ?_⟩
  · exact Lib.BuilderAt.put (T := 65) (e := 5) hB hb2 (bs' := bs ++ Lib.strCells s) (by simpa [Lib.strCells_length] using hown') (by decide)
  · exact (hb1.grown hgrow (by have := hb1.size; omega) (fun k hk => (hown.lt k hk).1)).setCell (p := ⟨b, 1, none⟩) hB _
set_option maxHeartbeats 2000000 in
theorem bbyte_c (B b : Nat) (bs : List Value) (c : Int) (w : World) (h : Lib.IsBuilder 65 5 B b bs w) (hlen : bs.length + 1 ≤ 140737488355328) (hBw : B ≤ w.heap.size) :
    Calls Tryz.prog 93 #[.pointer (some ⟨b, 0, none⟩), .int .u8 c] w fun e w' => e = .returned .nilIface ∧ (Lib.BuilderAt 65 5 B b (.pointer (some ⟨b, 0, none⟩)) (bs ++ [.int .u8 c]) w' ∧ Below B w w') := by
  obtain ⟨i0, hi, hz0, hz1, hz2⟩ := info_parts infoByte
  go_enter Tryz.func93, Tryz.ntmps93
  go_wp2_with (go_at_call 49; refine (bcheck_c B b bs _ h).mono ?_)
  rintro e w1 ⟨rfl, h1, hb1⟩
  obtain ⟨hB, v, hbk, hown, hne⟩ := h1
  have c0 : w1.cell? ⟨b, 0, none⟩ = some (.pointer (some ⟨b, 0, none⟩)) := by rw [Lib.cell_of_heap hbk]; rfl
  have c1 : w1.cell? ⟨b, 1, none⟩ = some v := by rw [Lib.cell_of_heap hbk]; rfl
  go_wp2_with (at_builtin; refine wpList_append_own _ rfl _ _ 63 rfl B 5 i0 (.int .u8 0) 1 1 Tryz.underlying63 hi hz0 hz1 hz2 rfl (by decide) _ _ _ rfl (hown.alloc _) ⟨w1.heap.size, 0, none⟩ 1 1 [.int .u8 c] rfl rfl ?c1 ?c2 ?c3 ?c4 ?c5 ?_)
  case c1 =>
    intro j u hj
    match j, hj with
    | 0, hj => simp at hj; subst hj; simp [Addr.add]
  case c2 => intro u hu; simp at hu; subst hu; rfl
  case c3 => unfold maxLen; omega
  case c4 => omega
  case c5 => have := hb1.size; simp; omega
  intro v' w2 hown' hgrow _
  have hlt : b < w1.heap.size := by
    rcases Nat.lt_or_ge b w1.heap.size with h' | h'
    · exact h'
    · simp [Array.getElem?_eq_none h'] at hbk
  have hb2 : w2.heap[b]? = some (.cells #[.pointer (some ⟨b, 0, none⟩), v] 65 (0, 0)) := by
    rw [hgrow.block b (by simp; omega) (fun e => hne e.symm), Lib.alloc_old w1 _ b hlt]
    exact hbk
  have d0 : w2.cell? ⟨b, 0, none⟩ = some (.pointer (some ⟨b, 0, none⟩)) := by rw [Lib.cell_of_heap hb2]; rfl
  have d1 : w2.cell? ⟨b, 1, none⟩ = some v := by rw [Lib.cell_of_heap hb2]; rfl
  have f1 : w2.frozen? ⟨b, 1, none⟩ = false := Lib.frozen_of_heap hb2 1
  obtain ⟨g, cap, rfl⟩ : ∃ g cap, v' = .slice (some ⟨g, 0, none⟩) (bs.length + 1) cap := by
    rcases hown'.2 with ⟨_, h0⟩ | ⟨g, cap, cur, hv, _⟩
    · omega
    · exact ⟨g, cap, hv⟩
  go_wp2
  go_ret
  refine ⟨rfl, ?_, ?_⟩
  · exact Lib.BuilderAt.put (T := 65) (e := 5) hB hb2 (bs' := bs ++ [.int .u8 c]) (by simpa using hown') (by decide)
  · exact ((hb1.alloc (by have := hb1.size; omega) _).grown hgrow (by have := hb1.size; simp; omega) (fun k hk => (hown.lt k hk).1)).setCell (p := ⟨b, 1, none⟩) hB _
end Go.Proofs.YtjelnmokcpoofaaGreatDoor
namespace Go.Proofs.YtjelnmokcpoofaaGreatDoor
set_option maxRecDepth 100000
open Go Go.RowKit Go.Proofs Go.Lib
theorem tab_ext {w w' : World} {nm : String} {k : IntKind} {zs : List Int} (h : Lib.TabIs Tryz.prog w nm k zs) (e : Ext w w') : Lib.TabIs Tryz.prog w' nm k zs := by
  unfold Lib.TabIs World.var? at *
  cases hg : Tryz.prog.globalNamed nm with
  | none => rw [hg] at h; cases h
  | some g =>
    rw [hg] at h
    simp only [Option.bind_some] at h ⊢
    cases hb : w.heap[g]? with
    | none => rw [hb] at h; cases h
    | some o => rw [e.blk hb]; rw [hb] at h; exact h
theorem infoString : (Tryz.prog.info? 9).map (fun i => (i.zero, i.size, i.bytes)) = some (some (.string ⟨#[]⟩), 1, 16) := by kernel_rfl
/-- The tables that strconv reads. -/
abbrev Tab10 (w : World) : Prop := Lib.TabIs Tryz.prog w "internal/strconv.uint64pow10" .u64 Lib.pow10Tab
theorem itoa_c (n : Nat) (w : World) (hn : n < 4294967296) (ht : Tab10 w) :
    Calls Tryz.prog 21 #[.int .i64 n] w fun e w' => e = .returned (.string ⟨(decDigits n).toArray⟩) ∧ Ext w w' := by
  refine (Tryz.strconv_Itoa n (by omega) (by omega) w ht).mono fun e w' h => ?_
  obtain ⟨rfl, k, os, rfl⟩ := h
  refine ⟨by unfold itoa; rw [if_neg (by omega)]; rfl, ?_⟩
  exact ⟨rfl, rfl, rfl, by simp [Go.Sort.grow, World.drewN], fun j hj => by simp [Go.Sort.grow, World.drewN, Array.getElem?_append, hj]⟩
/-- Strings in a row of one's own. -/
def StrsO (w : World) (base : Nat) (v : Value) (ss : List (List UInt8)) : Prop := w.ownsRow base 9 1 v ss.length (ss.map fun s => .string ⟨s.toArray⟩)
/-- What the first loop keeps. -/
def Dig1 (w0 : World) (base X k : Nat) (v3 v4 : Value) (wr : World) : Prop :=
  ∃ ps : List Nat, X = val9 ps + 1000000000 ^ ps.length * k ∧ (∀ p ∈ ps, p < 1000000000) ∧ (k = 0 → ps ≠ [] → 0 < ps.getLastD 0) ∧ StrsO wr base v3 (ps.map decDigits) ∧ MagO wr base v4 (lim k) ∧
    (∀ g, v4.ownBlock = some g → v3.ownBlock ≠ some g) ∧ (lim k).length ≤ 65536 ∧ ps.length ≤ 131073 ∧ Ext w0 wr
theorem ext_belowSz {w wr w5 : World} (h : Ext w wr) (hb : Below w.heap.size wr w5) : Ext w w5 := by
  obtain ⟨a1, a2, a3, a4, a5⟩ := h
  exact ⟨hb.os.trans a1, hb.tape.trans a2, hb.output.trans a3, Nat.le_trans a4 hb.size, fun j hj => (hb.block j hj).trans (a5 j hj)⟩
theorem row_str {w : World} {b o : Nat} {ps : List Nat} (h : Row w (some ⟨b, o, none⟩) ((ps.map decDigits).map fun s => Value.string ⟨s.toArray⟩)) (j : Nat) (hj : j < ps.length) :
    w.cell? ⟨b, o + j, none⟩ = some (.string ⟨(decDigits (ps.getD j 0)).toArray⟩) := by
  obtain ⟨b', o', e, hc⟩ := h
  have e := e (by intro e; simp at e; simp [e] at hj)
  cases e
  rw [hc j (by simpa using hj)]
  congr 1
  rw [List.getD_eq_getElem?_getD, List.getD_eq_getElem?_getD]
  simp [hj]
theorem nDigits_nine {p : Nat} (hp : p < 1000000000) : nDigits p ≤ 9 := by
  rcases Nat.lt_or_ge 9 (nDigits p) with h | h
  · rcases Nat.eq_zero_or_pos p with h0 | h0
    · subst h0
      rw [nDigits_small (by omega)] at h
      omega
    · have h1 := pow_le_nDigits p h0
      have h2 : 10 ^ 9 ≤ 10 ^ (nDigits p - 1) := Nat.pow_le_pow_right (by omega) (by omega)
      omega
  · exact h
theorem dec_len (p : Nat) : (decDigits p).length = nDigits p := by rw [decDigits_eq]; simp
theorem txt9_len : ∀ ps : List Nat, (∀ p ∈ ps, p < 1000000000) → (txt9 ps).length ≤ 9 * ps.length
  | [], _ => by simp [txt9]
  | [p], h => by
    have := nDigits_nine (h p (by simp))
    rw [txt9, dec_len]
    simpa using this
  | p :: q :: r, h => by
    have ih := txt9_len (q :: r) (fun x hx => h x (by simp [hx]))
    rw [txt9, List.length_append]
    have : (nine p).length = 9 := by simp [nine]
    simp only [List.length_cons] at ih ⊢
    omega
theorem str_size (l : List UInt8) : (⟨l.toArray⟩ : ByteArray).size = l.length := by simp [ByteArray.size]
theorem zeros9 (n : Nat) (hn : n ≤ 9) : Lib.strCells ((⟨#[48, 48, 48, 48, 48, 48, 48, 48, 48]⟩ : ByteArray).extract n 9) = Lib.byteCells (List.replicate (9 - n) 48) := by
  have : n = 0 ∨ n = 1 ∨ n = 2 ∨ n = 3 ∨ n = 4 ∨ n = 5 ∨ n = 6 ∨ n = 7 ∨ n = 8 ∨ n = 9 := by omega
  rcases this with rfl | rfl | rfl | rfl | rfl | rfl | rfl | rfl | rfl | rfl <;> rfl
/-- What the second loop keeps. -/
def Dig2 (w3 : World) (sgn : List UInt8) (ps : List Nat) (k : Nat) (v6 : Value) (wr : World) : Prop :=
  v6 = .int .i64 ((k : Int) - 1) ∧ k ≤ ps.length ∧ Lib.IsBuilder 65 5 w3.heap.size w3.heap.size (Lib.byteCells (sgn ++ txt9 (ps.drop k))) wr ∧ Ext w3 wr
theorem parts_bound {X N k m : Nat} {a : Nat} (h : X = a + 1000000000 ^ m * k) (hk : 0 < k) (hX : X < 2 ^ (32 * N)) : m ≤ 2 * N := by
  have h1 : 2 ^ (29 * m) ≤ 1000000000 ^ m := by
    rw [Nat.pow_mul]
    exact Nat.pow_le_pow_left (by decide) m
  have h2 : 1000000000 ^ m ≤ X := by
    rw [h]
    exact Nat.le_trans (Nat.le_mul_of_pos_right _ hk) (Nat.le_add_left _ _)
  have h3 : 2 ^ (29 * m) < 2 ^ (32 * N) := Nat.lt_of_le_of_lt (Nat.le_trans h1 h2) hX
  have := (Nat.pow_lt_pow_iff_right (by decide : 1 < 2)).1 h3
  omega
set_option maxHeartbeats 800000 in
theorem digits_c (v : Value) (X : Int) (w : World) (hX : nl X ≤ 65536) (h : IntR w v X) (ht : Tab10 w) :
    Calls Tryz.prog 53 #[v] w fun e w' => e = .returned (.string ⟨(itoa X).toArray⟩) ∧ Ext w w' := by
  obtain ⟨i0, hi, hz0, hz1, hz2⟩ := info_parts infoString
  obtain ⟨s, rfl, a, c, rfl, hcap, hrow⟩ := h
  obtain ⟨bx, hbx⟩ : ∃ b, b = decide (X < 0) := ⟨_, rfl⟩
  rw [← hbx]
  obtain ⟨w1, hw1⟩ : ∃ w1, w1 = w.alloc (.cells #[.bool bx, .slice a (lim X.natAbs).length c] 50) := ⟨_, rfl⟩
  have hE1 : Ext w w1 := by rw [hw1]; exact (Ext.refl w).al _
  have z0 : w1.heap[w.heap.size]? = some (.cells #[.bool bx, .slice a (lim X.natAbs).length c] 50 (0, 0)) := by rw [hw1]; exact heap_alloc_new _ _
  have hlen : (lim X.natAbs).length ≤ 65536 := hX
  have CL := mkHid (clone_c a (lim X.natAbs) c w1 (by omega) (hrow.ext hE1))
  have hXb : X.natAbs < 2 ^ (32 * (lim X.natAbs).length) := by
    have := val_lt (lim_ok X.natAbs)
    rw [val_lim, show (4294967296 : Nat) = 2 ^ 32 from rfl, ← Nat.pow_mul] at this
    exact this
  have HT := mkHid (fun W (e : Ext w W) => tab_ext ht e)
  replace hbx := mkHid hbx
  replace hw1 := mkHid hw1
  replace z0 := mkHid z0
  replace hE1 := mkHid hE1
  replace hXb := mkHid hXb
  clear hrow hcap ht hX
  generalize hXX : X.natAbs = N at *
  replace hXX := mkHid hXX
  replace hlen := mkHid hlen
  go_enter Tryz.func53, Tryz.ntmps53
  go_wp2_with (go_at_call 90; rw [← hw1.out]; refine CL.out.mono ?_; rintro e w2 ⟨v4, rfl, hv4, hx⟩; replace hv4 := mkHid hv4; replace hx := mkHid hx)
  have st : Dig1 w1 w1.heap.size N N (.slice none 0 0) v4 w2 := ⟨[], by simp [val9], by simp, fun _ h => absurd rfl h, World.ownsRow_nil _ _ _ _, hv4.out, (fun g _ e => by cases e), hlen.out, by simp, hx.out⟩
  replace st := mkHid st
  clear hv4 hx CL
  go_loopg [3, 4] N (fun k v3 v4 wr => Dig1 w1 w1.heap.size N k v3 v4 wr)
  case atStart => exact st.out
  case round =>
    clear st
    obtain ⟨ps, hsum, hps, hlast, h3, h4, hne, hl, hpn, hEr⟩ := hrel
    obtain ⟨w3, rfl⟩ : ∃ w3 : World, w3 = wr := ⟨_, rfl⟩
    by_cases hk0 : gk = 0
    · subst hk0
      have hv : N = val9 ps := by rw [hsum]; simp
      obtain ⟨a4, c4, rfl⟩ : ∃ a4 c4, u4 = .slice a4 0 c4 := by
        rcases h4.2 with ⟨e, _⟩ | ⟨g, cap, cur, e, _⟩
        · exact ⟨_, _, e⟩
        · exact ⟨_, _, by rw [e, lim_zero]; rfl⟩
      obtain ⟨a3, c3, rfl⟩ : ∃ a3 c3, u3 = .slice a3 ps.length c3 := by
        rcases h3.2 with ⟨e, h⟩ | ⟨g, cap, cur, e, _⟩
        · refine ⟨none, 0, ?_⟩
          rw [e]
          have : ps.length = 0 := by simpa using h
          rw [this]
        · exact ⟨some ⟨g, 0, none⟩, cap, by rw [e, List.length_map]⟩
      obtain ⟨hc3, hr3⟩ : ps.length ≤ c3 ∧ Row w3 a3 ((ps.map decDigits).map fun s => Value.string ⟨s.toArray⟩) := by
        obtain ⟨_, _, e3, hc3, hr3⟩ := row_of_owns h3
        rw [List.length_map] at e3 hc3
        cases e3
        exact ⟨hc3, hr3⟩
      replace hr3 := mkHid hr3
      replace hlast := mkHid hlast
      replace hpn := mkHid hpn
      replace hps := mkHid hps
      replace hEr := mkHid hEr
      replace hv := mkHid hv
      clear h3 h4 hne hl hsum
      by_cases hp0 : ps = []
      · subst hp0
        go_wp2_with fail
        have hX0 : X = 0 := by
          have h1 := hXX.out
          have h2 := hv.out
          simp [val9] at h2
          omega
        subst hX0
        have h48 : itoa 0 = [48] := by
          unfold itoa
          rw [if_neg (by omega), show ((0 : Int).toNat) = 0 from rfl, decDigits_eq, nDigits_small (by omega)]
          rfl
        rw [h48]
        exact ⟨rfl, .string ⟨#[48]⟩, by simp [results], rfl, hE1.out.trans hEr.out⟩
      · have hpl : 0 < ps.length := List.length_pos_iff.2 hp0
        obtain ⟨b3, o3, rfl⟩ : ∃ b o, a3 = some ⟨b, o, none⟩ := by
          obtain ⟨b, o, e, _⟩ := hr3.out
          exact ⟨b, o, e (by simpa using hp0)⟩
        have c0 : ∀ o, (w3.alloc o).cell? ⟨w.heap.size, 0, none⟩ = some (.bool bx) := fun o => by rw [Lib.cell_of_heap (((Ext.refl w3).al o).blk (hEr.out.blk z0.out))]; rfl
        generalize hln : ps.length = ln at *
        replace hln := mkHid hln
        have hB := mkHid (Lib.fresh_isBuilder 65 5 w3)
        have hwr : IntKind.i64.wrap ((ln : Int) - 1) = (ln : Int) - 1 := by
          have := hpn.out
          have := hln.out
          rw [IntKind.wrap_i64]
          omega
        obtain ⟨wb, hwb⟩ : ∃ wb, wb = w3.alloc (.cells #[.pointer none, .slice none 0 0] 65) := ⟨_, rfl⟩
        cases bx
        · go_wp2_with fail
          obtain ⟨sgn, hsg⟩ : ∃ sgn : List UInt8, sgn = [] := ⟨_, rfl⟩
          have hit : sgn ++ txt9 ps = itoa X := by
            have h1 := hbx.out
            have h2 := hXX.out
            rw [hsg, txt9_val ps hp0 hps.out (.inr (hlast.out trivial hp0)), ← hv.out]
            unfold itoa
            rw [if_neg (by simpa using h1), List.nil_append, ← h2, show X.natAbs = X.toNat from (by have : ¬ X < 0 := (by simpa using h1); omega)]
          have hit0 : sgn ++ txt9 ps ≠ [] := by
            rw [hsg, txt9_val ps hp0 hps.out (.inr (hlast.out trivial hp0)), decDigits_eq]
            intro e
            have := congrArg List.length e
            simp at this
            have := nDigits_pos (val9 ps)
            omega
          replace hit := mkHid hit
          replace hit0 := mkHid hit0
          have st : Dig2 w3 sgn ps ln (.int .i64 ((ln : Int) - 1)) (w3.alloc (.cells #[.pointer none, .slice none 0 0] 65)) := ⟨rfl, by rw [hln.out]; exact Nat.le_refl _, by rw [hsg, ← hln.out, List.drop_length]; exact hB.out, (Ext.refl w3).al _⟩
          replace st := mkHid st
          replace hsg := mkHid hsg
          go_loopg [6] ln (fun k v6 wr => Dig2 w3 sgn ps k v6 wr)
          case atStart => exact st.out
          case round =>
            obtain ⟨e6, hk, hb, hx⟩ := hrel
            clear st c0 hB
            by_cases hk0 : gk = 0
            · subst hk0
              subst e6
              rw [List.drop_zero] at hb
              have BS := mkHid (Tryz.Builder_String w3.heap.size w3.heap.size _ wr hb hit0.out)
              go_wp2_with (go_at_call 24; refine BS.out.mono ?_; rintro e w5 ⟨rfl, hB5⟩)
              rw [hit.out]
              exact ⟨rfl, .string ⟨(itoa X).toArray⟩, by simp [results], rfl, (hE1.out.trans hEr.out).trans (ext_belowSz hx hB5)⟩
            · obtain ⟨i, rfl⟩ : ∃ i, gk = i + 1 := ⟨gk - 1, by omega⟩
              rw [show ((i + 1 : Nat) : Int) - 1 = (i : Int) by omega] at e6
              subst e6
              have hrw := hr3.out.ext hx
              have hci := row_str hrw i hk
              have hip : i < ln := by have := hln.out; omega
              obtain ⟨p, hp⟩ : ∃ p, p = ps.getD i 0 := ⟨_, rfl⟩
              rw [← hp] at hci
              have hdr : ps.drop i = p :: ps.drop (i + 1) := by
                rw [hp, List.drop_eq_getElem_cons hk, List.getD_eq_getElem?_getD, List.getElem?_eq_getElem hk]
                rfl
              have hp9 : p < 1000000000 := hps.out p (List.mem_of_mem_drop (i := i) (by rw [hdr]; simp))
              have hn9 := nDigits_nine hp9
              have htl := txt9_len (ps.drop (i + 1)) (fun x hx => hps.out x (List.mem_of_mem_drop hx))
              have hwi : IntKind.i64.wrap ((i : Int) - 1) = (i : Int) - 1 := by
                have := hpn.out
                have := hln.out
                rw [IntKind.wrap_i64]
                omega
              have hsl : sgn.length ≤ 1 := by rw [hsg.out]; simp
              have hbl : (Lib.byteCells (sgn ++ txt9 (ps.drop (i + 1)))).length ≤ 2000000 := by
                have := hpn.out
                have := hln.out
                rw [Lib.byteCells_length, List.length_append]
                simp only [List.length_drop] at htl
                omega
              have hxs := hx.size
              replace hp := mkHid hp
              replace hdr := mkHid hdr
              replace hb := mkHid hb
              replace hbl := mkHid hbl
              replace hxs := mkHid hxs
              clear htl hsl
              by_cases hi1 : i + 1 = ln
              · have d1 : ¬ ((i : Int) < (ln : Int) - 1) := by omega
                go_wp2_with (go_at_call 20; refine (bwrite_c w3.heap.size w3.heap.size _ ⟨(decDigits p).toArray⟩ _ hb.out (by have := hbl.out; rw [str_size, dec_len]; omega) hxs.out).mono ?_; rintro e w6 ⟨rfl, hb6, hB6⟩)
                go_roundg i
                case measure => omega
                case rel =>
                  refine ⟨rfl, by omega, .inr ?_, ext_belowSz hx hB6⟩
                  have he : ps.drop (i + 1) = [] := List.drop_eq_nil_of_le (by have := hln.out; omega)
                  rw [hdr.out, he, txt9, Lib.byteCells_append]
                  rw [he, txt9, List.append_nil] at hb6
                  exact hb6
              · have d1 : (i : Int) < (ln : Int) - 1 := by omega
                have hd9 : (decDigits p).length ≤ 9 := by rw [dec_len]; exact hn9
                have hz9 := mkHid (zeros9 _ hd9)
                have hzs := mkHid (show ((⟨#[48, 48, 48, 48, 48, 48, 48, 48, 48]⟩ : ByteArray).extract (decDigits p).length 9).size ≤ 9 by rw [← Lib.strCells_length, hz9.out, Lib.byteCells_length, List.length_replicate]; omega)
                have hne9 : ((decDigits p).length : Int) ≤ 9 := by omega
                go_wp2_with (first
                  | (go_at_call 20; refine (bwrite_c w3.heap.size w3.heap.size _ _ wr hb.out (by have := hbl.out; have := hzs.out; omega) hxs.out).mono ?_; rintro e w5 ⟨rfl, hb5, hB5⟩; rw [hz9.out] at hb5; replace hb5 := mkHid hb5; (have hx5 := mkHid (ext_belowSz hx hB5)); (have hci5 := row_str (hr3.out.ext hx5.out) i hk); rw [← hp.out] at hci5)
                  | (go_at_call 20; refine (bwrite_c w3.heap.size w3.heap.size _ ⟨(decDigits p).toArray⟩ w5 (.inr hb5.out) (by have := hbl.out; rw [str_size, dec_len, List.length_append, Lib.byteCells_length (List.replicate _ _), List.length_replicate]; omega) hx5.out.size).mono ?_; rintro e w6 ⟨rfl, hb6, hB6⟩))
                go_roundg i
                case measure => omega
                case rel =>
                  refine ⟨rfl, by omega, .inr ?_, ext_belowSz hx5.out hB6⟩
                  have he : ps.drop (i + 1) ≠ [] := by
                    intro e
                    have := List.drop_eq_nil_iff.1 e
                    have := hln.out
                    omega
                  have hcat : Lib.byteCells (sgn ++ txt9 (ps.drop i)) = Lib.byteCells (sgn ++ txt9 (ps.drop (i + 1))) ++ Lib.byteCells (List.replicate (9 - (decDigits p).length) 48) ++ Lib.strCells ⟨(decDigits p).toArray⟩ := by
                    rw [hdr.out, txt9_cons p he, nine_eq hp9, dec_len, Lib.strCells_eq]
                    simp [Lib.byteCells]
                  rw [hcat]
                  exact hb6
        · go_wp2_with (go_at_call 93; refine (bbyte_c w3.heap.size w3.heap.size [] 45 _ hB.out (by simp) (by simp)).mono ?_; rintro e w4 ⟨rfl, hb4, hB4⟩; replace hb4 := mkHid hb4; replace hB4 := mkHid hB4)
          obtain ⟨sgn, hsg⟩ : ∃ sgn : List UInt8, sgn = [45] := ⟨_, rfl⟩
          have hit : sgn ++ txt9 ps = itoa X := by
            have h1 := hbx.out
            have h2 := hXX.out
            rw [hsg, txt9_val ps hp0 hps.out (.inr (hlast.out trivial hp0)), ← hv.out]
            unfold itoa
            rw [if_pos (by simpa using h1), ← h2]
            rfl
          have hit0 : sgn ++ txt9 ps ≠ [] := by
            rw [hsg, txt9_val ps hp0 hps.out (.inr (hlast.out trivial hp0)), decDigits_eq]
            intro e
            have := congrArg List.length e
            simp at this
          replace hit := mkHid hit
          replace hit0 := mkHid hit0
          have st : Dig2 w3 sgn ps ln (.int .i64 ((ln : Int) - 1)) w4 := ⟨rfl, by rw [hln.out]; exact Nat.le_refl _, .inr (by rw [hsg, ← hln.out, List.drop_length]; exact hb4.out), ext_belowSz ((Ext.refl w3).al _) hB4.out⟩
          replace st := mkHid st
          replace hsg := mkHid hsg
          go_loopg [6] ln (fun k v6 wr => Dig2 w3 sgn ps k v6 wr)
          case atStart => exact st.out
          case round =>
            obtain ⟨e6, hk, hb, hx⟩ := hrel
            clear st c0 hB hb4 hB4
            by_cases hk0 : gk = 0
            · subst hk0
              subst e6
              rw [List.drop_zero] at hb
              have BS := mkHid (Tryz.Builder_String w3.heap.size w3.heap.size _ wr hb hit0.out)
              go_wp2_with (go_at_call 24; refine BS.out.mono ?_; rintro e w5 ⟨rfl, hB5⟩)
              rw [hit.out]
              exact ⟨rfl, .string ⟨(itoa X).toArray⟩, by simp [results], rfl, (hE1.out.trans hEr.out).trans (ext_belowSz hx hB5)⟩
            · obtain ⟨i, rfl⟩ : ∃ i, gk = i + 1 := ⟨gk - 1, by omega⟩
              rw [show ((i + 1 : Nat) : Int) - 1 = (i : Int) by omega] at e6
              subst e6
              have hrw := hr3.out.ext hx
              have hci := row_str hrw i hk
              have hip : i < ln := by have := hln.out; omega
              obtain ⟨p, hp⟩ : ∃ p, p = ps.getD i 0 := ⟨_, rfl⟩
              rw [← hp] at hci
              have hdr : ps.drop i = p :: ps.drop (i + 1) := by
                rw [hp, List.drop_eq_getElem_cons hk, List.getD_eq_getElem?_getD, List.getElem?_eq_getElem hk]
                rfl
              have hp9 : p < 1000000000 := hps.out p (List.mem_of_mem_drop (i := i) (by rw [hdr]; simp))
              have hn9 := nDigits_nine hp9
              have htl := txt9_len (ps.drop (i + 1)) (fun x hx => hps.out x (List.mem_of_mem_drop hx))
              have hwi : IntKind.i64.wrap ((i : Int) - 1) = (i : Int) - 1 := by
                have := hpn.out
                have := hln.out
                rw [IntKind.wrap_i64]
                omega
              have hsl : sgn.length ≤ 1 := by rw [hsg.out]; simp
              have hbl : (Lib.byteCells (sgn ++ txt9 (ps.drop (i + 1)))).length ≤ 2000000 := by
                have := hpn.out
                have := hln.out
                rw [Lib.byteCells_length, List.length_append]
                simp only [List.length_drop] at htl
                omega
              have hxs := hx.size
              replace hp := mkHid hp
              replace hdr := mkHid hdr
              replace hb := mkHid hb
              replace hbl := mkHid hbl
              replace hxs := mkHid hxs
              clear htl hsl
              by_cases hi1 : i + 1 = ln
              · have d1 : ¬ ((i : Int) < (ln : Int) - 1) := by omega
                go_wp2_with (go_at_call 20; refine (bwrite_c w3.heap.size w3.heap.size _ ⟨(decDigits p).toArray⟩ _ hb.out (by have := hbl.out; rw [str_size, dec_len]; omega) hxs.out).mono ?_; rintro e w6 ⟨rfl, hb6, hB6⟩)
                go_roundg i
                case measure => omega
                case rel =>
                  refine ⟨rfl, by omega, .inr ?_, ext_belowSz hx hB6⟩
                  have he : ps.drop (i + 1) = [] := List.drop_eq_nil_of_le (by have := hln.out; omega)
                  rw [hdr.out, he, txt9, Lib.byteCells_append]
                  rw [he, txt9, List.append_nil] at hb6
                  exact hb6
              · have d1 : (i : Int) < (ln : Int) - 1 := by omega
                have hd9 : (decDigits p).length ≤ 9 := by rw [dec_len]; exact hn9
                have hz9 := mkHid (zeros9 _ hd9)
                have hzs := mkHid (show ((⟨#[48, 48, 48, 48, 48, 48, 48, 48, 48]⟩ : ByteArray).extract (decDigits p).length 9).size ≤ 9 by rw [← Lib.strCells_length, hz9.out, Lib.byteCells_length, List.length_replicate]; omega)
                have hne9 : ((decDigits p).length : Int) ≤ 9 := by omega
                go_wp2_with (first
                  | (go_at_call 20; refine (bwrite_c w3.heap.size w3.heap.size _ _ wr hb.out (by have := hbl.out; have := hzs.out; omega) hxs.out).mono ?_; rintro e w5 ⟨rfl, hb5, hB5⟩; rw [hz9.out] at hb5; replace hb5 := mkHid hb5; (have hx5 := mkHid (ext_belowSz hx hB5)); (have hci5 := row_str (hr3.out.ext hx5.out) i hk); rw [← hp.out] at hci5)
                  | (go_at_call 20; refine (bwrite_c w3.heap.size w3.heap.size _ ⟨(decDigits p).toArray⟩ w5 (.inr hb5.out) (by have := hbl.out; rw [str_size, dec_len, List.length_append, Lib.byteCells_length (List.replicate _ _), List.length_replicate]; omega) hx5.out.size).mono ?_; rintro e w6 ⟨rfl, hb6, hB6⟩))
                go_roundg i
                case measure => omega
                case rel =>
                  refine ⟨rfl, by omega, .inr ?_, ext_belowSz hx5.out hB6⟩
                  have he : ps.drop (i + 1) ≠ [] := by
                    intro e
                    have := List.drop_eq_nil_iff.1 e
                    have := hln.out
                    omega
                  have hcat : Lib.byteCells (sgn ++ txt9 (ps.drop i)) = Lib.byteCells (sgn ++ txt9 (ps.drop (i + 1))) ++ Lib.byteCells (List.replicate (9 - (decDigits p).length) 48) ++ Lib.strCells ⟨(decDigits p).toArray⟩ := by
                    rw [hdr.out, txt9_cons p he, nine_eq hp9, dec_len, Lib.strCells_eq]
                    simp [Lib.byteCells]
                  rw [hcat]
                  exact hb6
    · have hkp : 0 < gk := Nat.pos_of_ne_zero hk0
      have hpb := parts_bound hsum hkp hXb.out
      have hll := lim_pos (show gk ≠ 0 from hk0)
      obtain ⟨g, cap, cur, rfl, hbg, hbb, hle, hcm, _⟩ : ∃ g cap cur, u4 = .slice (some ⟨g, 0, none⟩) (lim gk).length cap ∧ w1.heap.size ≤ g ∧ w3.heap[g]? = some (.cells cur 140 (0, 0)) ∧ (lim gk).length ≤ cap ∧ cap ≤ maxLen ∧ True := by
        rcases h4.2 with ⟨_, h0⟩ | ⟨g, cap, cur, e, h1, h2, h3, h5, _⟩
        · rw [hll] at h0
          simp at h0
        · exact ⟨g, cap, cur, e, h1, h2, h3, h5, trivial⟩
      obtain ⟨a3, n3, c3, rfl⟩ : ∃ a3 n3 c3, u3 = .slice a3 n3 c3 := by
        rcases h3.2 with ⟨e, _⟩ | ⟨g, cap, cur, e, _⟩
        · exact ⟨_, _, _, e⟩
        · exact ⟨_, _, _, e⟩
      have SH := short_c w1.heap.size g (lim gk).length cap 1000000000 (lim gk) w3 rfl (by omega) (lim_ok _) (by omega) (by omega) h4
      have hne3 := hne g rfl
      have hlk : 0 < (lim gk).length := by rw [hll]; simp
      replace SH := mkHid SH
      replace h3 := mkHid h3
      replace hsum := mkHid hsum
      replace hps := mkHid hps
      replace hEr := mkHid hEr
      replace hbg := mkHid hbg
      replace hll := mkHid hll
      replace hl := mkHid hl
      clear hlast h4 hne hbb
      generalize hnk : (lim gk).length = nk at *
      replace hnk := mkHid hnk
      go_wp2_with (first
        | (go_at_call 92; refine SH.out.mono ?_; rintro e w4 ⟨p, r, rfl, hSh, ho4, hg4⟩; replace hSh := mkHid hSh; replace ho4 := mkHid ho4; replace hg4 := mkHid hg4; (have hr9 := hSh.out.2.2.1); (have hE4 := mkHid (hEr.out.gr hg4.out (fun k e => by cases e; exact hbg.out))); (have h34 := mkHid (show StrsO w4 w1.heap.size (.slice a3 n3 c3) (ps.map decDigits) from h3.out.kept hg4.out (.inr hne3))); clear SH h3 hEr)
        | (go_at_call 21; refine (itoa_c r _ (by omega) (HT.out _ (hE1.out.trans hE4.out))).mono ?_; rintro e w5 ⟨rfl, hx5⟩; (have hE5 := mkHid (hE4.out.trans hx5)); (have h35 := mkHid (show StrsO w5 w1.heap.size (.slice a3 n3 c3) (ps.map decDigits) from ownsRow_ext h34.out hx5)); (have ho5 := mkHid (ownsRow_ext ho4.out hx5)); clear hx5 h34 ho4)
        | (at_builtin; refine wpList_append_own_at _ rfl _ _ 78 rfl w1.heap.size 9 i0 (.string ⟨#[]⟩) 1 16 Tryz.underlying78 hi hz0 hz1 hz2 rfl (by decide) _ _ _ rfl (h35.out.alloc _) ⟨w5.heap.size, 0, none⟩ 1 1 [.string ⟨(decDigits r).toArray⟩] rfl rfl ?zc1 ?zc2 ?zc3 ?zc4 ?zc5 ?_; (case zc1 => intro j u hj; rcases j with _ | j; (simp at hj; subst hj; simp [Addr.add]); (simp at hj)); (case zc2 => intro u hu; simp at hu; subst hu; rfl); (case zc3 => have := hlen.out; unfold maxLen; simp; omega); (case zc4 => have := hlen.out; simp; omega); (case zc5 => have := hE5.out.size; simp; omega); intro v6 w6 hown6 hgrow6 _ hloc6;
            (have hE6 := mkHid ((hE5.out.al _).gr hgrow6 (fun k e => (h35.out.lt k e).1)));
            (have ho6 := (ho5.out.alloc _).kept hgrow6 (.inr (fun e => hne3 e.symm)));
            (have hpl : p.length = nk := hSh.out.1.trans hnk.out);
            (have hM6 : MagO w6 w1.heap.size (.slice (some ⟨g, 0, none⟩) p.length cap) p := by unfold MagO; rw [hpl]; exact ho6);
            (have hloc := mkHid hloc6);
            (have hgl := mkHid (ho5.out.lt g rfl).2);
            (have TR := trim_c (some ⟨g, 0, none⟩) p cap w6 hSh.out.2.1 (by have := hl.out; omega) (by omega) (by obtain ⟨_, _, e, _, hr⟩ := hM6.r; cases e; exact hr));
            rw [hpl] at TR; replace TR := mkHid TR; replace hown6 := mkHid hown6; replace hM6 := mkHid hM6; replace hpl := mkHid hpl;
            clear hgrow6 hloc6 ho6 h35 ho5 hE5)
        | (go_at_call 91; refine TR.out.mono ?_; rintro e w7 ⟨rfl, rfl⟩))
      have hNN : p.length = (lim gk).length ∧ OkL p ∧ r < 1000000000 ∧ gk = val p * 1000000000 + r := by
        obtain ⟨q1, q2, q3, q4, q5⟩ := hSh.out
        rw [List.drop_zero, List.drop_zero, val_lim] at q5
        exact ⟨q1, q2, q3, q5⟩
      obtain ⟨hq1, hq2, hq3, hq4⟩ := hNN
      have hlt : val p < gk := by omega
      have st2 : Dig1 w1 w1.heap.size N (val p) v6 (.slice (some ⟨g, 0, none⟩) (lim (val p)).length cap) w6 := by
        refine ⟨ps ++ [r], ?_, ?_, ?_, ?_, ?_, ?_, ?_, ?_, hE6.out⟩
        · rw [val9_snoc, hsum.out, List.length_append, List.length_singleton, Nat.pow_succ, hq4]
          grind
        · intro x hx
          rcases List.mem_append.1 hx with h | h
          · exact hps.out x h
          · simp at h
            omega
        · intro h0 _
          rw [List.getLastD_concat]
          omega
        · have h := hown6.out
          unfold StrsO
          rw [List.length_map] at h
          rw [List.map_append, List.map_append, List.length_append, List.length_map]
          exact h
        · exact MagO.lim hM6.out hq2
        · intro k hk
          cases hk
          rcases hloc.out with h | h
          · rw [h]
            exact hne3
          · rw [h]
            intro e
            have := hgl.out
            simp at e
            omega
        · exact Nat.le_trans (lim_mono (Nat.le_of_lt hlt)) (by have := hnk.out; have := hl.out; omega)
        · have := hlen.out
          simp
          omega
      go_roundg (val p)
      case measure => exact hlt
      case rel => exact st2
end Go.Proofs.YtjelnmokcpoofaaGreatDoor
