/-
  strings.Builder at this dump: copyCheck, WriteString, WriteByte (after the shelf's own proofs, whose texts do not fit this dump's copyCheck: its panic bears another word). The digits of a number out of its parts: no program. exact.Digits: the text of a whole number. ratio.Digits: the text of a fraction. A strings.Builder whose buffer lies above a bound, its struct below; a kind's word; a part's line. Near's closure off: how far a part's power is from another one. cmp.Or of three numbers; Near's closure that compares two parts. slices.MinFunc at parts, by Near's comparison. The catalogue's Drop and Get.
-/
import Derived.Test.YtkkfgphcmnhabaaGreatDoorKAJ
import Derived.Test.YtkkfgphcmnhabaaGreatDoorKAA
import Derived.Shelf.Strings.Builder1
import Derived.Test.YtkkfgphcmnhabaaGreatDoorKAB
import Derived.Test.YtkkfgphcmnhabaaGreatDoorKAC
import Derived.Test.YtkkfgphcmnhabaaGreatDoorShelf
import Derived.Maps.AppendAt
import Derived.LoopN
import Derived.Test.YtkkfgphcmnhabaaGreatDoorKAE
import Derived.Test.YtkkfgphcmnhabaaGreatDoorKAF
import Derived.Test.YtkkfgphcmnhabaaGreatDoorKAI
namespace Go.Proofs.YtkkfgphcmnhabaaGreatDoor
set_option maxRecDepth 100000
open Go Go.RowKit Go.Proofs
theorem sizeBuilder : (Tryz.prog.info? 95).map (·.size) = some 2 := by kernel_rfl
theorem liesBuilder : liesAt Tryz.prog Tryz.prog.depth 95 (2 / Tryz.prog.cellsOf 95) 0 95 1 = true := by kernel_rfl
theorem infoByte : (Tryz.prog.info? 5).map (fun i => (i.zero, i.size, i.bytes)) = some (some (.int .u8 0), 1, 1) := by kernel_rfl
set_option maxHeartbeats 1000000 in
theorem bcheck_used (b : Nat) (w : World) (h0 : w.cell? ⟨b, 0, none⟩ = some (.pointer (some ⟨b, 0, none⟩))) :
    Calls Tryz.prog 83 #[.pointer (some ⟨b, 0, none⟩)] w fun e w' => e = .returned (.tuple #[]) ∧ w' = w := by
  obtain ⟨j, hj, _⟩ := Option.map_eq_some_iff.1 sizeBuilder
  go_enter Tryz.func83, Tryz.ntmps83
  go_wp2
  rw [Lib.run_neq_ptr_same w _ Tryz.underlying92 hj]
  go_wp2
  go_end0
  exact ⟨rfl, rfl⟩
set_option maxHeartbeats 1000000 in
theorem bcheck_fresh (b : Nat) (w : World) (h0 : w.cell? ⟨b, 0, none⟩ = some (.pointer none)) (hsh : w.shape? b = some (95, 2)) (hfz : w.frozen? ⟨b, 0, none⟩ = false) :
    Calls Tryz.prog 83 #[.pointer (some ⟨b, 0, none⟩)] w fun e w' => e = .returned (.tuple #[]) ∧ w' = w.setCell ⟨b, 0, none⟩ (.pointer (some ⟨b, 0, none⟩)) := by
  obtain ⟨j, hj, hjs⟩ := Option.map_eq_some_iff.1 sizeBuilder
  go_enter Tryz.func83, Tryz.ntmps83
  go_wp2
  rw [Lib.run_to_unsafe w ⟨b, 0, none⟩ Tryz.underlying92 Tryz.underlying154 hj (by rw [hjs]; decide) hsh (Nat.zero_lt_succ 1)]
  simp only [Result.andThen]
  rw [Oper.upon_value]
  go_wp2
  rw [run_callFunc_extern Tryz.func111 (by kernel_rfl) (by kernel_rfl) (by kernel_rfl) (e := Extern.AbiNoEscape.same) (by kernel_rfl)]
  rw [Lib.run_noEscape]
  simp only [Result.andThen]
  rw [Oper.upon_value]
  go_wp2
  rw [Lib.run_from_unsafe w ⟨b, 0, none⟩ Tryz.underlying154 Tryz.underlying92 hj hsh liesBuilder]
  simp only [Result.andThen]
  rw [Oper.upon_value]
  go_wp2
  go_end0
  exact ⟨rfl, rfl⟩
theorem bcheck_c (B b : Nat) (bs : List Value) (w : World) (h : Lib.IsBuilder 95 5 B b bs w) :
    Calls Tryz.prog 83 #[.pointer (some ⟨b, 0, none⟩)] w fun e w' => e = .returned (.tuple #[]) ∧ (Lib.BuilderAt 95 5 B b (.pointer (some ⟨b, 0, none⟩)) bs w' ∧ Below B w w') := by
  rcases h with h | h
  · refine (bcheck_fresh b w h.cell0 h.shape h.frozen0).mono ?_
    rintro e w' ⟨rfl, rfl⟩
    exact ⟨rfl, h.used _, (Below.refl B w).setCell (p := ⟨b, 0, none⟩) h.1 _⟩
  · refine (bcheck_used b w h.cell0).mono ?_
    rintro e w' ⟨rfl, rfl⟩
    exact ⟨rfl, h, Below.refl B _⟩
set_option maxHeartbeats 2000000 in
theorem bwrite_c (B b : Nat) (bs : List Value) (s : ByteArray) (w : World) (h : Lib.IsBuilder 95 5 B b bs w) (hlen : bs.length + s.size ≤ 140737488355328) (hBw : B ≤ w.heap.size) :
    Calls Tryz.prog 53 #[.pointer (some ⟨b, 0, none⟩), .string s] w fun e w' => e = .returned (.tuple #[.int .i64 s.size, .nilIface]) ∧ (Lib.BuilderAt 95 5 B b (.pointer (some ⟨b, 0, none⟩)) (bs ++ Lib.strCells s) w' ∧ Below B w w') := by
  obtain ⟨i0, hi, hz0, hz1, hz2⟩ := info_parts infoByte
  go_enter Tryz.func53, Tryz.ntmps53
  go_wp2_with (go_at_call 83; refine (bcheck_c B b bs _ h).mono ?_)
  rintro e w1 ⟨rfl, h1, hb1⟩
  obtain ⟨hB, v, hbk, hown, hne⟩ := h1
  have c0 : w1.cell? ⟨b, 0, none⟩ = some (.pointer (some ⟨b, 0, none⟩)) := by rw [Lib.cell_of_heap hbk]; rfl
  have c1 : w1.cell? ⟨b, 1, none⟩ = some v := by rw [Lib.cell_of_heap hbk]; rfl
  go_wp2_with (at_builtin; refine Lib.wpList_append_own_string _ rfl _ _ 93 9 rfl B 5 i0 Tryz.underlying93 Tryz.underlying9 hi hz0 hz1 hz2 _ _ _ rfl hown s rfl ?c3 ?c4 ?c5 ?_)
  case c3 => unfold maxLen; omega
  case c4 => omega
  case c5 => have := hb1.size; omega
  intro v' w2 hown' hgrow _
  have hlt : b < w1.heap.size := by
    rcases Nat.lt_or_ge b w1.heap.size with h' | h'
    · exact h'
    · simp [Array.getElem?_eq_none h'] at hbk
  have hb2 : w2.heap[b]? = some (.cells #[.pointer (some ⟨b, 0, none⟩), v] 95 (0, 0)) := by
    rw [hgrow.block b hlt (fun e => hne e.symm)]
    exact hbk
  have d0 : w2.cell? ⟨b, 0, none⟩ = some (.pointer (some ⟨b, 0, none⟩)) := by rw [Lib.cell_of_heap hb2]; rfl
  have d1 : w2.cell? ⟨b, 1, none⟩ = some v := by rw [Lib.cell_of_heap hb2]; rfl
  have f1 : w2.frozen? ⟨b, 1, none⟩ = false := Lib.frozen_of_heap hb2 1
  obtain ⟨ao, n', cap, rfl⟩ : ∃ ao n' cap, v' = .slice ao n' cap := by
    rcases hown'.2 with ⟨hv, _⟩ | ⟨g, cap, cur, hv, _⟩
    · exact ⟨_, _, _, hv⟩
    · exact ⟨_, _, _, hv⟩
  go_wp2
  go_ret2
  refine ⟨rfl, ?_, ?_⟩
  · exact Lib.BuilderAt.put (T := 95) (e := 5) hB hb2 (bs' := bs ++ Lib.strCells s) (by simpa [Lib.strCells_length] using hown') (by decide)
  · exact (hb1.grown hgrow (by have := hb1.size; omega) (fun k hk => (hown.lt k hk).1)).setCell (p := ⟨b, 1, none⟩) hB _
set_option maxHeartbeats 2000000 in
theorem bbyte_c (B b : Nat) (bs : List Value) (c : Int) (w : World) (h : Lib.IsBuilder 95 5 B b bs w) (hlen : bs.length + 1 ≤ 140737488355328) (hBw : B ≤ w.heap.size) :
    Calls Tryz.prog 116 #[.pointer (some ⟨b, 0, none⟩), .int .u8 c] w fun e w' => e = .returned .nilIface ∧ (Lib.BuilderAt 95 5 B b (.pointer (some ⟨b, 0, none⟩)) (bs ++ [.int .u8 c]) w' ∧ Below B w w') := by
  obtain ⟨i0, hi, hz0, hz1, hz2⟩ := info_parts infoByte
  go_enter Tryz.func116, Tryz.ntmps116
  go_wp2_with (go_at_call 83; refine (bcheck_c B b bs _ h).mono ?_)
  rintro e w1 ⟨rfl, h1, hb1⟩
  obtain ⟨hB, v, hbk, hown, hne⟩ := h1
  have c0 : w1.cell? ⟨b, 0, none⟩ = some (.pointer (some ⟨b, 0, none⟩)) := by rw [Lib.cell_of_heap hbk]; rfl
  have c1 : w1.cell? ⟨b, 1, none⟩ = some v := by rw [Lib.cell_of_heap hbk]; rfl
  go_wp2_with (at_builtin; refine wpList_append_own _ rfl _ _ 93 rfl B 5 i0 (.int .u8 0) 1 1 Tryz.underlying93 hi hz0 hz1 hz2 rfl (by decide) _ _ _ rfl (hown.alloc _) ⟨w1.heap.size, 0, none⟩ 1 1 [.int .u8 c] rfl rfl ?c1 ?c2 ?c3 ?c4 ?c5 ?_)
  case c1 =>
    intro j u hj
    match j, hj with
    | 0, hj => simp at hj; subst hj; simp [Addr.add]
  case c2 => intro u hu; simp at hu; subst hu; rfl
  case c3 => unfold maxLen; omega
  case c4 => omega
  case c5 => have := hb1.size; simp; omega
  intro v' w2 hown' hgrow _
  have hlt : b < w1.heap.size := by
    rcases Nat.lt_or_ge b w1.heap.size with h' | h'
    · exact h'
    · simp [Array.getElem?_eq_none h'] at hbk
  have hb2 : w2.heap[b]? = some (.cells #[.pointer (some ⟨b, 0, none⟩), v] 95 (0, 0)) := by
    rw [hgrow.block b (by simp; omega) (fun e => hne e.symm), Lib.alloc_old w1 _ b hlt]
    exact hbk
  have d0 : w2.cell? ⟨b, 0, none⟩ = some (.pointer (some ⟨b, 0, none⟩)) := by rw [Lib.cell_of_heap hb2]; rfl
  have d1 : w2.cell? ⟨b, 1, none⟩ = some v := by rw [Lib.cell_of_heap hb2]; rfl
  have f1 : w2.frozen? ⟨b, 1, none⟩ = false := Lib.frozen_of_heap hb2 1
  obtain ⟨g, cap, rfl⟩ : ∃ g cap, v' = .slice (some ⟨g, 0, none⟩) (bs.length + 1) cap := by
    rcases hown'.2 with ⟨_, h0⟩ | ⟨g, cap, cur, hv, _⟩
    · omega
    · exact ⟨g, cap, hv⟩
  go_wp2
  go_ret
  refine ⟨rfl, ?_, ?_⟩
  · exact Lib.BuilderAt.put (T := 95) (e := 5) hB hb2 (bs' := bs ++ [.int .u8 c]) (by simpa using hown') (by decide)
  · exact ((hb1.alloc (by have := hb1.size; omega) _).grown hgrow (by have := hb1.size; simp; omega) (fun k hk => (hown.lt k hk).1)).setCell (p := ⟨b, 1, none⟩) hB _
end Go.Proofs.YtkkfgphcmnhabaaGreatDoor
namespace Go.Proofs.YtkkfgphcmnhabaaGreatDoor
set_option maxRecDepth 100000
open Go Go.RowKit Go.Proofs Go.Lib
/-- What parts of nine digits come to, the least one ahead. -/
def val9 : List Nat → Nat
  | [] => 0
  | p :: r => p + 1000000000 * val9 r
/-- Their text, the greatest one ahead. -/
def txt9 : List Nat → List UInt8
  | [] => []
  | [p] => decDigits p
  | p :: q :: r => txt9 (q :: r) ++ nine p
theorem val9_snoc (r : Nat) : ∀ ps : List Nat, val9 (ps ++ [r]) = val9 ps + 1000000000 ^ ps.length * r
  | [] => by simp [val9]
  | p :: ps => by
    have ih := val9_snoc r ps
    simp only [List.cons_append, val9, ih, List.length_cons, Nat.pow_succ]
    grind
theorem val9_pos : ∀ ps : List Nat, 0 < ps.getLastD 0 → 0 < val9 ps
  | [], h => by simp at h
  | [p], h => by simpa [val9] using h
  | p :: q :: r, h => by
    have := val9_pos (q :: r) (by simpa using h)
    unfold val9
    omega
theorem txt9_val : ∀ ps : List Nat, ps ≠ [] → (∀ p ∈ ps, p < 1000000000) → (ps.length = 1 ∨ 0 < ps.getLastD 0) → txt9 ps = decDigits (val9 ps)
  | [], h, _, _ => absurd rfl h
  | [p], _, _, _ => by simp [txt9, val9]
  | p :: q :: r, _, hp, hl => by
    have hl' : 0 < (q :: r).getLastD 0 := by
      rcases hl with h | h
      · simp at h
      · simpa using h
    have ih := txt9_val (q :: r) (by simp) (fun x hx => hp x (by simp [hx])) (.inr hl')
    have hv := val9_pos (q :: r) hl'
    rw [txt9, ih, show val9 (p :: q :: r) = val9 (q :: r) * 1000000000 + p by rw [val9, Nat.mul_comm, Nat.add_comm], dec_nine hv (hp p (by simp))]
theorem txt9_cons (p : Nat) {ps : List Nat} (h : ps ≠ []) : txt9 (p :: ps) = txt9 ps ++ nine p := by
  cases ps with
  | nil => exact absurd rfl h
  | cons q r => rfl
theorem nine_eq {p : Nat} (hp : p < 1000000000) : nine p = List.replicate (9 - nDigits p) 48 ++ decDigits p := by
  have h9 : nDigits p ≤ 9 := by
    rcases Nat.lt_or_ge 9 (nDigits p) with h | h
    · rcases Nat.eq_zero_or_pos p with h0 | h0
      · subst h0
        rw [nDigits_small (by omega)] at h
        omega
      · have h1 := pow_le_nDigits p h0
        have h2 : 10 ^ 9 ≤ 10 ^ (nDigits p - 1) := Nat.pow_le_pow_right (by omega) (by omega)
        omega
    · exact h
  unfold nine
  rw [decDigits_eq, show (9 : Nat) = (9 - nDigits p) + nDigits p by omega, List.range_add, List.map_append, List.map_map]
  congr 1
  · rw [show (9 - nDigits p) + nDigits p - nDigits p = 9 - nDigits p by omega]
    refine List.ext_getElem (by simp) fun i h1 h2 => ?_
    simp only [List.getElem_map, List.getElem_range, List.getElem_replicate]
    have hi : i < 9 - nDigits p := by simpa using h1
    unfold dg
    rw [Nat.div_eq_of_lt (Nat.lt_of_lt_of_le (lt_pow_nDigits p) (Nat.pow_le_pow_right (by omega) (by omega)))]
    rfl
  · refine List.map_congr_left fun t ht => ?_
    have := List.mem_range.1 ht
    show dg p (8 - (9 - nDigits p + t)) = _
    rw [show 8 - (9 - nDigits p + t) = nDigits p - 1 - t by omega]
end Go.Proofs.YtkkfgphcmnhabaaGreatDoor
namespace Go.Proofs.YtkkfgphcmnhabaaGreatDoor
set_option maxRecDepth 100000
open Go Go.RowKit Go.Proofs Go.Lib
theorem tab_ext {w w' : World} {nm : String} {k : IntKind} {zs : List Int} (h : Lib.TabIs Tryz.prog w nm k zs) (e : Ext w w') : Lib.TabIs Tryz.prog w' nm k zs := by
  unfold Lib.TabIs World.var? at *
  cases hg : Tryz.prog.globalNamed nm with
  | none => rw [hg] at h; cases h
  | some g =>
    rw [hg] at h
    simp only [Option.bind_some] at h ⊢
    cases hb : w.heap[g]? with
    | none => rw [hb] at h; cases h
    | some o => rw [e.blk hb]; rw [hb] at h; exact h
theorem infoString : (Tryz.prog.info? 9).map (fun i => (i.zero, i.size, i.bytes)) = some (some (.string ⟨#[]⟩), 1, 16) := by kernel_rfl
/-- The tables that strconv reads. -/
abbrev Tab10 (w : World) : Prop := Lib.TabIs Tryz.prog w "internal/strconv.uint64pow10" .u64 Lib.pow10Tab
theorem itoa_c (n : Nat) (w : World) (hn : n < 4294967296) (ht : Tab10 w) :
    Calls Tryz.prog 54 #[.int .i64 n] w fun e w' => e = .returned (.string ⟨(decDigits n).toArray⟩) ∧ Ext w w' := by
  refine (Tryz.strconv_Itoa n (by omega) (by omega) w ht).mono fun e w' h => ?_
  obtain ⟨rfl, k, os, rfl⟩ := h
  refine ⟨by unfold itoa; rw [if_neg (by omega)]; rfl, ?_⟩
  exact ⟨rfl, rfl, rfl, by simp [Go.Sort.grow, World.drewN], fun j hj => by simp [Go.Sort.grow, World.drewN, Array.getElem?_append, hj]⟩
/-- Strings in a row of one's own. -/
def StrsO (w : World) (base : Nat) (v : Value) (ss : List (List UInt8)) : Prop := w.ownsRow base 9 1 v ss.length (ss.map fun s => .string ⟨s.toArray⟩)
/-- What the first loop keeps. -/
def Dig1 (w0 : World) (base X k : Nat) (v3 v4 : Value) (wr : World) : Prop :=
  ∃ ps : List Nat, X = val9 ps + 1000000000 ^ ps.length * k ∧ (∀ p ∈ ps, p < 1000000000) ∧ (k = 0 → ps ≠ [] → 0 < ps.getLastD 0) ∧ StrsO wr base v3 (ps.map decDigits) ∧ MagO wr base v4 (lim k) ∧
    (∀ g, v4.ownBlock = some g → v3.ownBlock ≠ some g) ∧ (lim k).length ≤ 65536 ∧ ps.length ≤ 131073 ∧ Ext w0 wr
theorem ext_belowSz {w wr w5 : World} (h : Ext w wr) (hb : Below w.heap.size wr w5) : Ext w w5 := by
  obtain ⟨a1, a2, a3, a4, a5⟩ := h
  exact ⟨hb.os.trans a1, hb.tape.trans a2, hb.output.trans a3, Nat.le_trans a4 hb.size, fun j hj => (hb.block j hj).trans (a5 j hj)⟩
theorem row_str {w : World} {b o : Nat} {ps : List Nat} (h : Row w (some ⟨b, o, none⟩) ((ps.map decDigits).map fun s => Value.string ⟨s.toArray⟩)) (j : Nat) (hj : j < ps.length) :
    w.cell? ⟨b, o + j, none⟩ = some (.string ⟨(decDigits (ps.getD j 0)).toArray⟩) := by
  obtain ⟨b', o', e, hc⟩ := h
  have e := e (by intro e; simp at e; simp [e] at hj)
  cases e
  rw [hc j (by simpa using hj)]
  congr 1
  rw [List.getD_eq_getElem?_getD, List.getD_eq_getElem?_getD]
  simp [hj]
theorem nDigits_nine {p : Nat} (hp : p < 1000000000) : nDigits p ≤ 9 := by
  rcases Nat.lt_or_ge 9 (nDigits p) with h | h
  · rcases Nat.eq_zero_or_pos p with h0 | h0
    · subst h0
      rw [nDigits_small (by omega)] at h
      omega
    · have h1 := pow_le_nDigits p h0
      have h2 : 10 ^ 9 ≤ 10 ^ (nDigits p - 1) := Nat.pow_le_pow_right (by omega) (by omega)
      omega
  · exact h
theorem dec_len (p : Nat) : (decDigits p).length = nDigits p := by rw [decDigits_eq]; simp
theorem txt9_len : ∀ ps : List Nat, (∀ p ∈ ps, p < 1000000000) → (txt9 ps).length ≤ 9 * ps.length
  | [], _ => by simp [txt9]
  | [p], h => by
    have := nDigits_nine (h p (by simp))
    rw [txt9, dec_len]
    simpa using this
  | p :: q :: r, h => by
    have ih := txt9_len (q :: r) (fun x hx => h x (by simp [hx]))
    rw [txt9, List.length_append]
    have : (nine p).length = 9 := by simp [nine]
    simp only [List.length_cons] at ih ⊢
    omega
theorem str_size (l : List UInt8) : (⟨l.toArray⟩ : ByteArray).size = l.length := by simp [ByteArray.size]
theorem zeros9 (n : Nat) (hn : n ≤ 9) : Lib.strCells ((⟨#[48, 48, 48, 48, 48, 48, 48, 48, 48]⟩ : ByteArray).extract n 9) = Lib.byteCells (List.replicate (9 - n) 48) := by
  have : n = 0 ∨ n = 1 ∨ n = 2 ∨ n = 3 ∨ n = 4 ∨ n = 5 ∨ n = 6 ∨ n = 7 ∨ n = 8 ∨ n = 9 := by omega
  rcases this with rfl | rfl | rfl | rfl | rfl | rfl | rfl | rfl | rfl | rfl <;> rfl
/-- What the second loop keeps. -/
def Dig2 (w3 : World) (sgn : List UInt8) (ps : List Nat) (k : Nat) (v6 : Value) (wr : World) : Prop :=
  v6 = .int .i64 ((k : Int) - 1) ∧ k ≤ ps.length ∧ Lib.IsBuilder 95 5 w3.heap.size w3.heap.size (Lib.byteCells (sgn ++ txt9 (ps.drop k))) wr ∧ Ext w3 wr
theorem parts_bound {X N k m : Nat} {a : Nat} (h : X = a + 1000000000 ^ m * k) (hk : 0 < k) (hX : X < 2 ^ (32 * N)) : m ≤ 2 * N := by
  have h1 : 2 ^ (29 * m) ≤ 1000000000 ^ m := by
    rw [Nat.pow_mul]
    exact Nat.pow_le_pow_left (by decide) m
  have h2 : 1000000000 ^ m ≤ X := by
    rw [h]
    exact Nat.le_trans (Nat.le_mul_of_pos_right _ hk) (Nat.le_add_left _ _)
  have h3 : 2 ^ (29 * m) < 2 ^ (32 * N) := Nat.lt_of_le_of_lt (Nat.le_trans h1 h2) hX
  have := (Nat.pow_lt_pow_iff_right (by decide : 1 < 2)).1 h3
  omega
set_option maxHeartbeats 800000 in
theorem digits_c (v : Value) (X : Int) (w : World) (hX : nl X ≤ 65536) (h : IntR w v X) (ht : Tab10 w) :
    Calls Tryz.prog 85 #[v] w fun e w' => e = .returned (.string ⟨(itoa X).toArray⟩) ∧ Ext w w' := by
  obtain ⟨i0, hi, hz0, hz1, hz2⟩ := info_parts infoString
  obtain ⟨s, rfl, a, c, rfl, hcap, hrow⟩ := h
  obtain ⟨bx, hbx⟩ : ∃ b, b = decide (X < 0) := ⟨_, rfl⟩
  rw [← hbx]
  obtain ⟨w1, hw1⟩ : ∃ w1, w1 = w.alloc (.cells #[.bool bx, .slice a (lim X.natAbs).length c] 32) := ⟨_, rfl⟩
  have hE1 : Ext w w1 := by rw [hw1]; exact (Ext.refl w).al _
  have z0 : w1.heap[w.heap.size]? = some (.cells #[.bool bx, .slice a (lim X.natAbs).length c] 32 (0, 0)) := by rw [hw1]; exact heap_alloc_new _ _
  have hlen : (lim X.natAbs).length ≤ 65536 := hX
  have CL := mkHid (clone_c a (lim X.natAbs) c w1 (by omega) (hrow.ext hE1))
  have hXb : X.natAbs < 2 ^ (32 * (lim X.natAbs).length) := by
    have := val_lt (lim_ok X.natAbs)
    rw [val_lim, show (4294967296 : Nat) = 2 ^ 32 from rfl, ← Nat.pow_mul] at this
    exact this
  have HT := mkHid (fun W (e : Ext w W) => tab_ext ht e)
  replace hbx := mkHid hbx
  replace hw1 := mkHid hw1
  replace z0 := mkHid z0
  replace hE1 := mkHid hE1
  replace hXb := mkHid hXb
  clear hrow hcap ht hX
  generalize hXX : X.natAbs = N at *
  replace hXX := mkHid hXX
  replace hlen := mkHid hlen
  go_enter Tryz.func85, Tryz.ntmps85
  go_wp2_with (go_at_call 113; rw [← hw1.out]; refine CL.out.mono ?_; rintro e w2 ⟨v4, rfl, hv4, hx⟩; replace hv4 := mkHid hv4; replace hx := mkHid hx)
  have st : Dig1 w1 w1.heap.size N N (.slice none 0 0) v4 w2 := ⟨[], by simp [val9], by simp, fun _ h => absurd rfl h, World.ownsRow_nil _ _ _ _, hv4.out, (fun g _ e => by cases e), hlen.out, by simp, hx.out⟩
  replace st := mkHid st
  clear hv4 hx CL
  go_loopg [3, 4] N (fun k v3 v4 wr => Dig1 w1 w1.heap.size N k v3 v4 wr)
  case atStart => exact st.out
  case round =>
    clear st
    obtain ⟨ps, hsum, hps, hlast, h3, h4, hne, hl, hpn, hEr⟩ := hrel
    obtain ⟨w3, rfl⟩ : ∃ w3 : World, w3 = wr := ⟨_, rfl⟩
    by_cases hk0 : gk = 0
    · subst hk0
      have hv : N = val9 ps := by rw [hsum]; simp
      obtain ⟨a4, c4, rfl⟩ : ∃ a4 c4, u4 = .slice a4 0 c4 := by
        rcases h4.2 with ⟨e, _⟩ | ⟨g, cap, cur, e, _⟩
        · exact ⟨_, _, e⟩
        · exact ⟨_, _, by rw [e, lim_zero]; rfl⟩
      obtain ⟨a3, c3, rfl⟩ : ∃ a3 c3, u3 = .slice a3 ps.length c3 := by
        rcases h3.2 with ⟨e, h⟩ | ⟨g, cap, cur, e, _⟩
        · refine ⟨none, 0, ?_⟩
          rw [e]
          have : ps.length = 0 := by simpa using h
          rw [this]
        · exact ⟨some ⟨g, 0, none⟩, cap, by rw [e, List.length_map]⟩
      obtain ⟨hc3, hr3⟩ : ps.length ≤ c3 ∧ Row w3 a3 ((ps.map decDigits).map fun s => Value.string ⟨s.toArray⟩) := by
        obtain ⟨_, _, e3, hc3, hr3⟩ := row_of_owns h3
        rw [List.length_map] at e3 hc3
        cases e3
        exact ⟨hc3, hr3⟩
      replace hr3 := mkHid hr3
      replace hlast := mkHid hlast
      replace hpn := mkHid hpn
      replace hps := mkHid hps
      replace hEr := mkHid hEr
      replace hv := mkHid hv
      clear h3 h4 hne hl hsum
      by_cases hp0 : ps = []
      · subst hp0
        go_wp2_with fail
        have hX0 : X = 0 := by
          have h1 := hXX.out
          have h2 := hv.out
          simp [val9] at h2
          omega
        subst hX0
        have h48 : itoa 0 = [48] := by
          unfold itoa
          rw [if_neg (by omega), show ((0 : Int).toNat) = 0 from rfl, decDigits_eq, nDigits_small (by omega)]
          rfl
        rw [h48]
        exact ⟨rfl, .string ⟨#[48]⟩, by simp [results], rfl, hE1.out.trans hEr.out⟩
      · have hpl : 0 < ps.length := List.length_pos_iff.2 hp0
        obtain ⟨b3, o3, rfl⟩ : ∃ b o, a3 = some ⟨b, o, none⟩ := by
          obtain ⟨b, o, e, _⟩ := hr3.out
          exact ⟨b, o, e (by simpa using hp0)⟩
        have c0 : ∀ o, (w3.alloc o).cell? ⟨w.heap.size, 0, none⟩ = some (.bool bx) := fun o => by rw [Lib.cell_of_heap (((Ext.refl w3).al o).blk (hEr.out.blk z0.out))]; rfl
        generalize hln : ps.length = ln at *
        replace hln := mkHid hln
        have hB := mkHid (Lib.fresh_isBuilder 95 5 w3)
        have hwr : IntKind.i64.wrap ((ln : Int) - 1) = (ln : Int) - 1 := by
          have := hpn.out
          have := hln.out
          rw [IntKind.wrap_i64]
          omega
        obtain ⟨wb, hwb⟩ : ∃ wb, wb = w3.alloc (.cells #[.pointer none, .slice none 0 0] 95) := ⟨_, rfl⟩
        cases bx
        · go_wp2_with fail
          obtain ⟨sgn, hsg⟩ : ∃ sgn : List UInt8, sgn = [] := ⟨_, rfl⟩
          have hit : sgn ++ txt9 ps = itoa X := by
            have h1 := hbx.out
            have h2 := hXX.out
            rw [hsg, txt9_val ps hp0 hps.out (.inr (hlast.out trivial hp0)), ← hv.out]
            unfold itoa
            rw [if_neg (by simpa using h1), List.nil_append, ← h2, show X.natAbs = X.toNat from (by have : ¬ X < 0 := (by simpa using h1); omega)]
          have hit0 : sgn ++ txt9 ps ≠ [] := by
            rw [hsg, txt9_val ps hp0 hps.out (.inr (hlast.out trivial hp0)), decDigits_eq]
            intro e
            have := congrArg List.length e
            simp at this
            have := nDigits_pos (val9 ps)
            omega
          replace hit := mkHid hit
          replace hit0 := mkHid hit0
          have st : Dig2 w3 sgn ps ln (.int .i64 ((ln : Int) - 1)) (w3.alloc (.cells #[.pointer none, .slice none 0 0] 95)) := ⟨rfl, by rw [hln.out]; exact Nat.le_refl _, by rw [hsg, ← hln.out, List.drop_length]; exact hB.out, (Ext.refl w3).al _⟩
          replace st := mkHid st
          replace hsg := mkHid hsg
          go_loopg [6] ln (fun k v6 wr => Dig2 w3 sgn ps k v6 wr)
          case atStart => exact st.out
          case round =>
            obtain ⟨e6, hk, hb, hx⟩ := hrel
            clear st c0 hB
            by_cases hk0 : gk = 0
            · subst hk0
              subst e6
              rw [List.drop_zero] at hb
              have BS := mkHid (Tryz.Builder_String w3.heap.size w3.heap.size _ wr hb hit0.out)
              go_wp2_with (go_at_call 57; refine BS.out.mono ?_; rintro e w5 ⟨rfl, hB5⟩)
              rw [hit.out]
              exact ⟨rfl, .string ⟨(itoa X).toArray⟩, by simp [results], rfl, (hE1.out.trans hEr.out).trans (ext_belowSz hx hB5)⟩
            · obtain ⟨i, rfl⟩ : ∃ i, gk = i + 1 := ⟨gk - 1, by omega⟩
              rw [show ((i + 1 : Nat) : Int) - 1 = (i : Int) by omega] at e6
              subst e6
              have hrw := hr3.out.ext hx
              have hci := row_str hrw i hk
              have hip : i < ln := by have := hln.out; omega
              obtain ⟨p, hp⟩ : ∃ p, p = ps.getD i 0 := ⟨_, rfl⟩
              rw [← hp] at hci
              have hdr : ps.drop i = p :: ps.drop (i + 1) := by
                rw [hp, List.drop_eq_getElem_cons hk, List.getD_eq_getElem?_getD, List.getElem?_eq_getElem hk]
                rfl
              have hp9 : p < 1000000000 := hps.out p (List.mem_of_mem_drop (i := i) (by rw [hdr]; simp))
              have hn9 := nDigits_nine hp9
              have htl := txt9_len (ps.drop (i + 1)) (fun x hx => hps.out x (List.mem_of_mem_drop hx))
              have hwi : IntKind.i64.wrap ((i : Int) - 1) = (i : Int) - 1 := by
                have := hpn.out
                have := hln.out
                rw [IntKind.wrap_i64]
                omega
              have hsl : sgn.length ≤ 1 := by rw [hsg.out]; simp
              have hbl : (Lib.byteCells (sgn ++ txt9 (ps.drop (i + 1)))).length ≤ 2000000 := by
                have := hpn.out
                have := hln.out
                rw [Lib.byteCells_length, List.length_append]
                simp only [List.length_drop] at htl
                omega
              have hxs := hx.size
              replace hp := mkHid hp
              replace hdr := mkHid hdr
              replace hb := mkHid hb
              replace hbl := mkHid hbl
              replace hxs := mkHid hxs
              clear htl hsl
              by_cases hi1 : i + 1 = ln
              · have d1 : ¬ ((i : Int) < (ln : Int) - 1) := by omega
                go_wp2_with (go_at_call 53; refine (bwrite_c w3.heap.size w3.heap.size _ ⟨(decDigits p).toArray⟩ _ hb.out (by have := hbl.out; rw [str_size, dec_len]; omega) hxs.out).mono ?_; rintro e w6 ⟨rfl, hb6, hB6⟩)
                go_roundg i
                case measure => omega
                case rel =>
                  refine ⟨rfl, by omega, .inr ?_, ext_belowSz hx hB6⟩
                  have he : ps.drop (i + 1) = [] := List.drop_eq_nil_of_le (by have := hln.out; omega)
                  rw [hdr.out, he, txt9, Lib.byteCells_append]
                  rw [he, txt9, List.append_nil] at hb6
                  exact hb6
              · have d1 : (i : Int) < (ln : Int) - 1 := by omega
                have hd9 : (decDigits p).length ≤ 9 := by rw [dec_len]; exact hn9
                have hz9 := mkHid (zeros9 _ hd9)
                have hzs := mkHid (show ((⟨#[48, 48, 48, 48, 48, 48, 48, 48, 48]⟩ : ByteArray).extract (decDigits p).length 9).size ≤ 9 by rw [← Lib.strCells_length, hz9.out, Lib.byteCells_length, List.length_replicate]; omega)
                have hne9 : ((decDigits p).length : Int) ≤ 9 := by omega
                go_wp2_with (first
                  | (go_at_call 53; refine (bwrite_c w3.heap.size w3.heap.size _ _ wr hb.out (by have := hbl.out; have := hzs.out; omega) hxs.out).mono ?_; rintro e w5 ⟨rfl, hb5, hB5⟩; rw [hz9.out] at hb5; replace hb5 := mkHid hb5; (have hx5 := mkHid (ext_belowSz hx hB5)); (have hci5 := row_str (hr3.out.ext hx5.out) i hk); rw [← hp.out] at hci5)
                  | (go_at_call 53; refine (bwrite_c w3.heap.size w3.heap.size _ ⟨(decDigits p).toArray⟩ w5 (.inr hb5.out) (by have := hbl.out; rw [str_size, dec_len, List.length_append, Lib.byteCells_length (List.replicate _ _), List.length_replicate]; omega) hx5.out.size).mono ?_; rintro e w6 ⟨rfl, hb6, hB6⟩))
                go_roundg i
                case measure => omega
                case rel =>
                  refine ⟨rfl, by omega, .inr ?_, ext_belowSz hx5.out hB6⟩
                  have he : ps.drop (i + 1) ≠ [] := by
                    intro e
                    have := List.drop_eq_nil_iff.1 e
                    have := hln.out
                    omega
                  have hcat : Lib.byteCells (sgn ++ txt9 (ps.drop i)) = Lib.byteCells (sgn ++ txt9 (ps.drop (i + 1))) ++ Lib.byteCells (List.replicate (9 - (decDigits p).length) 48) ++ Lib.strCells ⟨(decDigits p).toArray⟩ := by
                    rw [hdr.out, txt9_cons p he, nine_eq hp9, dec_len, Lib.strCells_eq]
                    simp [Lib.byteCells]
                  rw [hcat]
                  exact hb6
        · go_wp2_with (go_at_call 116; refine (bbyte_c w3.heap.size w3.heap.size [] 45 _ hB.out (by simp) (by simp)).mono ?_; rintro e w4 ⟨rfl, hb4, hB4⟩; replace hb4 := mkHid hb4; replace hB4 := mkHid hB4)
          obtain ⟨sgn, hsg⟩ : ∃ sgn : List UInt8, sgn = [45] := ⟨_, rfl⟩
          have hit : sgn ++ txt9 ps = itoa X := by
            have h1 := hbx.out
            have h2 := hXX.out
            rw [hsg, txt9_val ps hp0 hps.out (.inr (hlast.out trivial hp0)), ← hv.out]
            unfold itoa
            rw [if_pos (by simpa using h1), ← h2]
            rfl
          have hit0 : sgn ++ txt9 ps ≠ [] := by
            rw [hsg, txt9_val ps hp0 hps.out (.inr (hlast.out trivial hp0)), decDigits_eq]
            intro e
            have := congrArg List.length e
            simp at this
          replace hit := mkHid hit
          replace hit0 := mkHid hit0
          have st : Dig2 w3 sgn ps ln (.int .i64 ((ln : Int) - 1)) w4 := ⟨rfl, by rw [hln.out]; exact Nat.le_refl _, .inr (by rw [hsg, ← hln.out, List.drop_length]; exact hb4.out), ext_belowSz ((Ext.refl w3).al _) hB4.out⟩
          replace st := mkHid st
          replace hsg := mkHid hsg
          go_loopg [6] ln (fun k v6 wr => Dig2 w3 sgn ps k v6 wr)
          case atStart => exact st.out
          case round =>
            obtain ⟨e6, hk, hb, hx⟩ := hrel
            clear st c0 hB hb4 hB4
            by_cases hk0 : gk = 0
            · subst hk0
              subst e6
              rw [List.drop_zero] at hb
              have BS := mkHid (Tryz.Builder_String w3.heap.size w3.heap.size _ wr hb hit0.out)
              go_wp2_with (go_at_call 57; refine BS.out.mono ?_; rintro e w5 ⟨rfl, hB5⟩)
              rw [hit.out]
              exact ⟨rfl, .string ⟨(itoa X).toArray⟩, by simp [results], rfl, (hE1.out.trans hEr.out).trans (ext_belowSz hx hB5)⟩
            · obtain ⟨i, rfl⟩ : ∃ i, gk = i + 1 := ⟨gk - 1, by omega⟩
              rw [show ((i + 1 : Nat) : Int) - 1 = (i : Int) by omega] at e6
              subst e6
              have hrw := hr3.out.ext hx
              have hci := row_str hrw i hk
              have hip : i < ln := by have := hln.out; omega
              obtain ⟨p, hp⟩ : ∃ p, p = ps.getD i 0 := ⟨_, rfl⟩
              rw [← hp] at hci
              have hdr : ps.drop i = p :: ps.drop (i + 1) := by
                rw [hp, List.drop_eq_getElem_cons hk, List.getD_eq_getElem?_getD, List.getElem?_eq_getElem hk]
                rfl
              have hp9 : p < 1000000000 := hps.out p (List.mem_of_mem_drop (i := i) (by rw [hdr]; simp))
              have hn9 := nDigits_nine hp9
              have htl := txt9_len (ps.drop (i + 1)) (fun x hx => hps.out x (List.mem_of_mem_drop hx))
              have hwi : IntKind.i64.wrap ((i : Int) - 1) = (i : Int) - 1 := by
                have := hpn.out
                have := hln.out
                rw [IntKind.wrap_i64]
                omega
              have hsl : sgn.length ≤ 1 := by rw [hsg.out]; simp
              have hbl : (Lib.byteCells (sgn ++ txt9 (ps.drop (i + 1)))).length ≤ 2000000 := by
                have := hpn.out
                have := hln.out
                rw [Lib.byteCells_length, List.length_append]
                simp only [List.length_drop] at htl
                omega
              have hxs := hx.size
              replace hp := mkHid hp
              replace hdr := mkHid hdr
              replace hb := mkHid hb
              replace hbl := mkHid hbl
              replace hxs := mkHid hxs
              clear htl hsl
              by_cases hi1 : i + 1 = ln
              · have d1 : ¬ ((i : Int) < (ln : Int) - 1) := by omega
                go_wp2_with (go_at_call 53; refine (bwrite_c w3.heap.size w3.heap.size _ ⟨(decDigits p).toArray⟩ _ hb.out (by have := hbl.out; rw [str_size, dec_len]; omega) hxs.out).mono ?_; rintro e w6 ⟨rfl, hb6, hB6⟩)
                go_roundg i
                case measure => omega
                case rel =>
                  refine ⟨rfl, by omega, .inr ?_, ext_belowSz hx hB6⟩
                  have he : ps.drop (i + 1) = [] := List.drop_eq_nil_of_le (by have := hln.out; omega)
                  rw [hdr.out, he, txt9, Lib.byteCells_append]
                  rw [he, txt9, List.append_nil] at hb6
                  exact hb6
              · have d1 : (i : Int) < (ln : Int) - 1 := by omega
                have hd9 : (decDigits p).length ≤ 9 := by rw [dec_len]; exact hn9
                have hz9 := mkHid (zeros9 _ hd9)
                have hzs := mkHid (show ((⟨#[48, 48, 48, 48, 48, 48, 48, 48, 48]⟩ : ByteArray).extract (decDigits p).length 9).size ≤ 9 by rw [← Lib.strCells_length, hz9.out, Lib.byteCells_length, List.length_replicate]; omega)
                have hne9 : ((decDigits p).length : Int) ≤ 9 := by omega
                go_wp2_with (first
                  | (go_at_call 53; refine (bwrite_c w3.heap.size w3.heap.size _ _ wr hb.out (by have := hbl.out; have := hzs.out; omega) hxs.out).mono ?_; rintro e w5 ⟨rfl, hb5, hB5⟩; rw [hz9.out] at hb5; replace hb5 := mkHid hb5; (have hx5 := mkHid (ext_belowSz hx hB5)); (have hci5 := row_str (hr3.out.ext hx5.out) i hk); rw [← hp.out] at hci5)
                  | (go_at_call 53; refine (bwrite_c w3.heap.size w3.heap.size _ ⟨(decDigits p).toArray⟩ w5 (.inr hb5.out) (by have := hbl.out; rw [str_size, dec_len, List.length_append, Lib.byteCells_length (List.replicate _ _), List.length_replicate]; omega) hx5.out.size).mono ?_; rintro e w6 ⟨rfl, hb6, hB6⟩))
                go_roundg i
                case measure => omega
                case rel =>
                  refine ⟨rfl, by omega, .inr ?_, ext_belowSz hx5.out hB6⟩
                  have he : ps.drop (i + 1) ≠ [] := by
                    intro e
                    have := List.drop_eq_nil_iff.1 e
                    have := hln.out
                    omega
                  have hcat : Lib.byteCells (sgn ++ txt9 (ps.drop i)) = Lib.byteCells (sgn ++ txt9 (ps.drop (i + 1))) ++ Lib.byteCells (List.replicate (9 - (decDigits p).length) 48) ++ Lib.strCells ⟨(decDigits p).toArray⟩ := by
                    rw [hdr.out, txt9_cons p he, nine_eq hp9, dec_len, Lib.strCells_eq]
                    simp [Lib.byteCells]
                  rw [hcat]
                  exact hb6
    · have hkp : 0 < gk := Nat.pos_of_ne_zero hk0
      have hpb := parts_bound hsum hkp hXb.out
      have hll := lim_pos (show gk ≠ 0 from hk0)
      obtain ⟨g, cap, cur, rfl, hbg, hbb, hle, hcm, _⟩ : ∃ g cap cur, u4 = .slice (some ⟨g, 0, none⟩) (lim gk).length cap ∧ w1.heap.size ≤ g ∧ w3.heap[g]? = some (.cells cur 146 (0, 0)) ∧ (lim gk).length ≤ cap ∧ cap ≤ maxLen ∧ True := by
        rcases h4.2 with ⟨_, h0⟩ | ⟨g, cap, cur, e, h1, h2, h3, h5, _⟩
        · rw [hll] at h0
          simp at h0
        · exact ⟨g, cap, cur, e, h1, h2, h3, h5, trivial⟩
      obtain ⟨a3, n3, c3, rfl⟩ : ∃ a3 n3 c3, u3 = .slice a3 n3 c3 := by
        rcases h3.2 with ⟨e, _⟩ | ⟨g, cap, cur, e, _⟩
        · exact ⟨_, _, _, e⟩
        · exact ⟨_, _, _, e⟩
      have SH := short_c w1.heap.size g (lim gk).length cap 1000000000 (lim gk) w3 rfl (by omega) (lim_ok _) (by omega) (by omega) h4
      have hne3 := hne g rfl
      have hlk : 0 < (lim gk).length := by rw [hll]; simp
      replace SH := mkHid SH
      replace h3 := mkHid h3
      replace hsum := mkHid hsum
      replace hps := mkHid hps
      replace hEr := mkHid hEr
      replace hbg := mkHid hbg
      replace hll := mkHid hll
      replace hl := mkHid hl
      clear hlast h4 hne hbb
      generalize hnk : (lim gk).length = nk at *
      replace hnk := mkHid hnk
      go_wp2_with (first
        | (go_at_call 115; refine SH.out.mono ?_; rintro e w4 ⟨p, r, rfl, hSh, ho4, hg4⟩; replace hSh := mkHid hSh; replace ho4 := mkHid ho4; replace hg4 := mkHid hg4; (have hr9 := hSh.out.2.2.1); (have hE4 := mkHid (hEr.out.gr hg4.out (fun k e => by cases e; exact hbg.out))); (have h34 := mkHid (show StrsO w4 w1.heap.size (.slice a3 n3 c3) (ps.map decDigits) from h3.out.kept hg4.out (.inr hne3))); clear SH h3 hEr)
        | (go_at_call 54; refine (itoa_c r _ (by omega) (HT.out _ (hE1.out.trans hE4.out))).mono ?_; rintro e w5 ⟨rfl, hx5⟩; (have hE5 := mkHid (hE4.out.trans hx5)); (have h35 := mkHid (show StrsO w5 w1.heap.size (.slice a3 n3 c3) (ps.map decDigits) from ownsRow_ext h34.out hx5)); (have ho5 := mkHid (ownsRow_ext ho4.out hx5)); clear hx5 h34 ho4)
        | (at_builtin; refine wpList_append_own_at _ rfl _ _ 65 rfl w1.heap.size 9 i0 (.string ⟨#[]⟩) 1 16 Tryz.underlying65 hi hz0 hz1 hz2 rfl (by decide) _ _ _ rfl (h35.out.alloc _) ⟨w5.heap.size, 0, none⟩ 1 1 [.string ⟨(decDigits r).toArray⟩] rfl rfl ?zc1 ?zc2 ?zc3 ?zc4 ?zc5 ?_; (case zc1 => intro j u hj; rcases j with _ | j; (simp at hj; subst hj; simp [Addr.add]); (simp at hj)); (case zc2 => intro u hu; simp at hu; subst hu; rfl); (case zc3 => have := hlen.out; unfold maxLen; simp; omega); (case zc4 => have := hlen.out; simp; omega); (case zc5 => have := hE5.out.size; simp; omega); intro v6 w6 hown6 hgrow6 _ hloc6;
            (have hE6 := mkHid ((hE5.out.al _).gr hgrow6 (fun k e => (h35.out.lt k e).1)));
            (have ho6 := (ho5.out.alloc _).kept hgrow6 (.inr (fun e => hne3 e.symm)));
            (have hpl : p.length = nk := hSh.out.1.trans hnk.out);
            (have hM6 : MagO w6 w1.heap.size (.slice (some ⟨g, 0, none⟩) p.length cap) p := by unfold MagO; rw [hpl]; exact ho6);
            (have hloc := mkHid hloc6);
            (have hgl := mkHid (ho5.out.lt g rfl).2);
            (have TR := trim_c (some ⟨g, 0, none⟩) p cap w6 hSh.out.2.1 (by have := hl.out; omega) (by omega) (by obtain ⟨_, _, e, _, hr⟩ := hM6.r; cases e; exact hr));
            rw [hpl] at TR; replace TR := mkHid TR; replace hown6 := mkHid hown6; replace hM6 := mkHid hM6; replace hpl := mkHid hpl;
            clear hgrow6 hloc6 ho6 h35 ho5 hE5)
        | (go_at_call 114; refine TR.out.mono ?_; rintro e w7 ⟨rfl, rfl⟩))
      have hNN : p.length = (lim gk).length ∧ OkL p ∧ r < 1000000000 ∧ gk = val p * 1000000000 + r := by
        obtain ⟨q1, q2, q3, q4, q5⟩ := hSh.out
        rw [List.drop_zero, List.drop_zero, val_lim] at q5
        exact ⟨q1, q2, q3, q5⟩
      obtain ⟨hq1, hq2, hq3, hq4⟩ := hNN
      have hlt : val p < gk := by omega
      have st2 : Dig1 w1 w1.heap.size N (val p) v6 (.slice (some ⟨g, 0, none⟩) (lim (val p)).length cap) w6 := by
        refine ⟨ps ++ [r], ?_, ?_, ?_, ?_, ?_, ?_, ?_, ?_, hE6.out⟩
        · rw [val9_snoc, hsum.out, List.length_append, List.length_singleton, Nat.pow_succ, hq4]
          grind
        · intro x hx
          rcases List.mem_append.1 hx with h | h
          · exact hps.out x h
          · simp at h
            omega
        · intro h0 _
          rw [List.getLastD_concat]
          omega
        · have h := hown6.out
          unfold StrsO
          rw [List.length_map] at h
          rw [List.map_append, List.map_append, List.length_append, List.length_map]
          exact h
        · exact MagO.lim hM6.out hq2
        · intro k hk
          cases hk
          rcases hloc.out with h | h
          · rw [h]
            exact hne3
          · rw [h]
            intro e
            have := hgl.out
            simp at e
            omega
        · exact Nat.le_trans (lim_mono (Nat.le_of_lt hlt)) (by have := hnk.out; have := hl.out; omega)
        · have := hlen.out
          simp
          omega
      go_roundg (val p)
      case measure => exact hlt
      case rel => exact st2
end Go.Proofs.YtkkfgphcmnhabaaGreatDoor
namespace Go.Proofs.YtkkfgphcmnhabaaGreatDoor
set_option maxRecDepth 100000
open Go Go.RowKit Go.Proofs Go.Lib
theorem nDig_le {n k : Nat} (h : n < 2 ^ k) : nDigits n ≤ k + 1 := by
  by_cases hn : n = 0
  · subst hn
    rw [nDigits_small (by omega)]
    omega
  · have p := pow_le_nDigits n (by omega)
    have q : 2 ^ (nDigits n - 1) ≤ 10 ^ (nDigits n - 1) := Nat.pow_le_pow_left (by decide) _
    have r : 2 ^ (nDigits n - 1) < 2 ^ k := by omega
    have := (Nat.pow_lt_pow_iff_right (by decide : 1 < 2)).1 r
    omega
theorem itoa_len (X : Int) : (itoa X).length ≤ 32 * nl X + 2 := by
  have hXb : X.natAbs < 2 ^ (32 * (lim X.natAbs).length) := by
    have := val_lt (lim_ok X.natAbs)
    rw [val_lim, show (4294967296 : Nat) = 2 ^ 32 from rfl, ← Nat.pow_mul] at this
    exact this
  have h := nDig_le hXb
  unfold itoa nl
  split
  · rw [List.length_cons, decDigits_length]
    omega
  · rw [decDigits_length, show X.toNat = X.natAbs by omega]
    omega
theorem str_cat (a b : List UInt8) : ((⟨a.toArray⟩ : ByteArray) ++ ⟨b.toArray⟩) = ⟨(a ++ b).toArray⟩ := by
  apply ByteArray.ext
  simp
/-- A fraction's text. -/
def ratText (x : Rat) : List UInt8 := if x.den = 1 then itoa x.num else itoa x.num ++ 47 :: itoa (x.den : Int)
theorem ratDigits_c (v : Value) (x : Rat) (w : World) (hX : nf x ≤ 65536) (h : FracR w v x) (ht : Tab10 w) :
    Calls Tryz.prog 55 #[v] w fun e w' => e = .returned (.string ⟨(ratText x).toArray⟩) ∧ Ext w w' := by
  have H := h
  obtain ⟨x1, x2, x3, x4, y1, y2, y3, y4, rfl⟩ := h.shape
  have hn : nl x.num ≤ 65536 := Nat.le_trans (Nat.le_max_left _ _) hX
  have hd : nl (x.den : Int) ≤ 65536 := Nat.le_trans (Nat.le_max_right _ _) hX
  have L1 := mkHid (show ¬ 9223372036854775807 < (itoa x.num).length + 1 by have := itoa_len x.num; omega)
  have L2 := mkHid (show ¬ 9223372036854775807 < (itoa x.num).length + 1 + (itoa (x.den : Int)).length by have := itoa_len x.num; have := itoa_len (x.den : Int); omega)
  have HN := mkHid (fun W (e : Ext w W) => digits_c (.agg #[.bool x1, .slice x2 x3 x4]) x.num W hn (H.ext e).num (tab_ext ht e))
  have HD := mkHid (fun W (e : Ext w W) => digits_c (.agg #[.bool y1, .slice y2 y3 y4]) (x.den : Int) W hd (H.ext e).den (tab_ext ht e))
  have HR := mkHid (fun W (e : Ext w W) => (H.ext e).den)
  replace hd := mkHid hd
  clear h H ht hX hn
  go_enter Tryz.func55, Tryz.ntmps55
  go_wp2_with fail
  obtain ⟨wb, hwb⟩ : ∃ wb, wb = w.alloc (.cells #[.bool x1, .slice x2 x3 x4, .bool y1, .slice y2 y3 y4] 34) := ⟨_, rfl⟩
  have hE : Ext w wb := by rw [hwb]; exact (Ext.refl w).al _
  have c0 : ∀ W, Ext wb W → W.cell? ⟨w.heap.size, 0, none⟩ = some (.bool x1) := fun W e => e.cell (by rw [hwb]; go_simp)
  have c1 : ∀ W, Ext wb W → W.cell? ⟨w.heap.size, 1, none⟩ = some (.slice x2 x3 x4) := fun W e => e.cell (by rw [hwb]; go_simp)
  replace c0 := mkHid c0
  replace c1 := mkHid c1
  have c2 : ∀ W, Ext wb W → W.cell? ⟨w.heap.size, 2, none⟩ = some (.bool y1) := fun W e => e.cell (by rw [hwb]; go_simp)
  have c3 : ∀ W, Ext wb W → W.cell? ⟨w.heap.size, 3, none⟩ = some (.slice y2 y3 y4) := fun W e => e.cell (by rw [hwb]; go_simp)
  have ho := mkHid (fun w => of_c 1 w (by omega) (by omega))
  rw [← hwb]
  replace hE := mkHid hE
  clear hwb
  obtain ⟨sg1, hsg1⟩ : ∃ s, s = ((x.den : Int) - 1).sign := ⟨_, rfl⟩
  have hs0 : (sg1 == 0) = decide (x.den = 1) := by
    rw [hsg1, Bool.eq_iff_iff]
    simp only [beq_iff_eq, decide_eq_true_eq, Int.sign_eq_zero_iff_zero]
    omega
  replace hsg1 := mkHid hsg1
  apply region_ext [.val (.pointer (some ⟨w.heap.size, 2, none⟩)), .val (.agg #[.bool y1, .slice y2 y3 y4]), .pred (fun W v => IntO W 0 v 1), .val (.int .i64 sg1), .val (.bool (sg1 == 0))] (by kernel_rfl) (stable_vals _ (stable_vals _ (st_intO _ _ (stable_vals _ (stable_vals _ trivial)))))
  refine ⟨fun W hW _ => by go_simp; exact Ext.refl _, ?_⟩
  refine ⟨fun W hW _ => by have := c2 W hW; have := c3 W hW; go_simp; exact Ext.refl _, ?_⟩
  refine ⟨fun W hW _ => ?g0, fun v0 => ?_⟩
  case g0 =>
    go_simp
    refine (ho.out W).mono ?_
    rintro e w' ⟨v, rfl, h1, h2⟩
    exact ⟨v, rfl, h1, h2.mono (Nat.zero_le _)⟩
  refine ⟨fun W hW hF => ?g2, ?_⟩
  case g2 =>
    have h0 : IntO W 0 v0 1 := hF.1 (by kernel_rfl)
    replace h0 := mkHid h0
    clear hF
    go_simp
    refine (cmp_c _ _ (x.den : Int) 1 W (Nat.le_trans hd.out (by decide)) nl_one (HR.out W (hE.out.trans hW)) h0.out.r).mono ?_
    rintro e w' ⟨rfl, h1⟩
    rw [← hsg1.out]
    exact ⟨rfl, h1⟩
  refine ⟨fun W hW hF => by go_simp; first | exact Ext.refl _ | exact ⟨Ext.refl _, by simp⟩ | exact ⟨Ext.refl _, rfl⟩, fun W hW hF => ?fin⟩
  case fin =>
    clear hF
    have hE2 := hE.out.trans hW
    replace hE2 := mkHid hE2
    rw [hs0]
    clear hs0
    by_cases hx1 : x.den = 1
    · have hrt := mkHid (show ratText x = itoa x.num by simp [ratText, hx1])
      rw [decide_eq_true hx1]
      have d0 := c0.out W hW
      have d1 := c1.out W hW
      clear hx1 c2 c3
      go_simp
      go_wp2_with (go_at_call 85; refine (HN.out _ hE2.out).mono ?_; rintro e w2 ⟨rfl, h2⟩; replace h2 := mkHid h2)
      go_ret
      rw [hrt.out]
      exact ⟨rfl, hE2.out.trans h2.out⟩
    · have hrt := mkHid (show ratText x = itoa x.num ++ 47 :: itoa (x.den : Int) by simp [ratText, hx1])
      rw [decide_eq_false hx1]
      have d0 := mkHid (fun V (e : Ext W V) => c0.out V (hW.trans e))
      have d1 := mkHid (fun V (e : Ext W V) => c1.out V (hW.trans e))
      have d2 := mkHid (fun V (e : Ext W V) => c2 V (hW.trans e))
      have d3 := mkHid (fun V (e : Ext W V) => c3 V (hW.trans e))
      clear hx1 c2 c3 c0 c1
      go_simp
      go_wp2_with fail
      apply region_ext [.val (.pointer (some ⟨w.heap.size, 0, none⟩)), .val (.agg #[.bool x1, .slice x2 x3 x4]), .val (.string ⟨(itoa x.num).toArray⟩), .val _, .val (.pointer (some ⟨w.heap.size, 2, none⟩)), .val (.agg #[.bool y1, .slice y2 y3 y4]), .val (.string ⟨(itoa (x.den : Int)).toArray⟩), .val _] (by kernel_rfl) (stable_vals _ (stable_vals _ (stable_vals _ (stable_vals _ (stable_vals _ (stable_vals _ (stable_vals _ (stable_vals _ trivial))))))))
      refine ⟨fun V hV _ => by go_simp; exact Ext.refl _, ?_⟩
      refine ⟨fun V hV _ => by have := d0.out V hV; have := d1.out V hV; go_simp; exact Ext.refl _, ?_⟩
      refine ⟨fun V hV _ => ?n1, ?_⟩
      case n1 =>
        go_simp
        refine (HN.out V (hE2.out.trans hV)).mono ?_
        rintro e w' ⟨rfl, h1⟩
        exact ⟨rfl, h1⟩
      refine ⟨fun V hV _ => by go_simp; rw [if_neg L1.out]; exact ⟨Ext.refl _, rfl⟩, ?_⟩
      refine ⟨fun V hV _ => by go_simp; exact Ext.refl _, ?_⟩
      refine ⟨fun V hV _ => by have := d2.out V hV; have := d3.out V hV; go_simp; exact Ext.refl _, ?_⟩
      refine ⟨fun V hV _ => ?n2, ?_⟩
      case n2 =>
        go_simp
        refine (HD.out V (hE2.out.trans hV)).mono ?_
        rintro e w' ⟨rfl, h1⟩
        exact ⟨rfl, h1⟩
      refine ⟨fun V hV _ => ?n3, fun V hV _ => ?fin2⟩
      case n3 =>
        go_simp
        rw [if_neg L2.out]; exact ⟨Ext.refl _, rfl⟩
      case fin2 =>
       have hEV := mkHid (hE2.out.trans hV)
       clear hV
       go_simp
       go_wp2_with fail
       go_ret
       rw [hrt.out, show (#[47] : Array UInt8) = [47].toArray from rfl, str_cat, str_cat, List.append_assoc]
       exact ⟨rfl, hEV.out⟩
end Go.Proofs.YtkkfgphcmnhabaaGreatDoor
namespace Go.Proofs.YtkkfgphcmnhabaaGreatDoor
set_option maxRecDepth 100000
open Go Go.RowKit Go.Proofs Go.Lib
def BuiltAt (lo b : Nat) (p : Value) (bs : List Value) (w : World) : Prop := b < lo ∧ ∃ v, w.heap[b]? = some (.cells #[p, v] 95 (0, 0)) ∧ w.ownsRow lo 5 1 v bs.length bs
def IsBuilt (lo b : Nat) (bs : List Value) (w : World) : Prop := BuiltAt lo b (.pointer none) bs w ∨ BuiltAt lo b (.pointer (some ⟨b, 0, none⟩)) bs w
theorem ownsRow_ge {w : World} {lo E n : Nat} {v : Value} {xs : List Value} (h : w.ownsRow lo E 1 v n xs) : ∀ g, v.ownBlock = some g → lo ≤ g ∧ g < w.heap.size := by
  intro g hg
  rcases h.2 with ⟨e, _⟩ | ⟨k, cap, cur, e, h1, h2, _⟩
  · rw [e] at hg; cases hg
  · rw [e] at hg
    cases hg
    exact ⟨h1, (Array.getElem?_eq_some_iff.1 h2).1⟩
theorem BuiltAt.at {lo b : Nat} {p : Value} {bs : List Value} {w : World} (h : BuiltAt lo b p bs w) : Lib.BuilderAt 95 5 b b p bs w := by
  obtain ⟨h1, v, h2, h3⟩ := h
  exact ⟨Nat.le_refl _, v, h2, ownsRow_mono h3 (Nat.le_of_lt h1), fun e => by have := (ownsRow_ge h3 _ e).1; omega⟩
theorem IsBuilt.is {lo b : Nat} {bs : List Value} {w : World} (h : IsBuilt lo b bs w) : Lib.IsBuilder 95 5 b b bs w := by
  rcases h with h | h
  · exact .inl h.at
  · exact .inr h.at
theorem BuiltAt.ext {lo b : Nat} {p : Value} {bs : List Value} {w w' : World} (h : BuiltAt lo b p bs w) (e : Ext w w') : BuiltAt lo b p bs w' := by
  obtain ⟨h1, v, h2, h3⟩ := h
  exact ⟨h1, v, e.blk h2, ownsRow_ext h3 e⟩
theorem IsBuilt.ext {lo b : Nat} {bs : List Value} {w w' : World} (h : IsBuilt lo b bs w) (e : Ext w w') : IsBuilt lo b bs w' := by
  rcases h with h | h
  · exact .inl (h.ext e)
  · exact .inr (h.ext e)
/-- What a Builder's write may change. -/
def bS (b lo k : Nat) : Prop := k = b ∨ lo ≤ k
/-- What holds no bytes stays. -/
def Keeps (b : Nat) (w w' : World) : Prop := ∀ (g : Nat) (cs : Array Value) (T : TypeId) (fr : Nat × Nat), g ≠ b → T ≠ 5 → w.heap[g]? = some (.cells cs T fr) → w'.heap[g]? = some (.cells cs T fr)
theorem Keeps.ext {b : Nat} {w w' : World} (e : Ext w w') : Keeps b w w' := fun _ _ _ _ _ _ h => e.blk h
theorem Keeps.trans {b : Nat} {w w' w'' : World} (h : Keeps b w w') (k : Keeps b w' w'') : Keeps b w w'' := fun g cs T fr h1 h2 h3 => k g cs T fr h1 h2 (h g cs T fr h1 h2 h3)
theorem bcheck2 (lo b : Nat) (bs : List Value) (w : World) (h : IsBuilt lo b bs w) :
    Calls Tryz.prog 83 #[.pointer (some ⟨b, 0, none⟩)] w fun e w' => e = .returned (.tuple #[]) ∧ (BuiltAt lo b (.pointer (some ⟨b, 0, none⟩)) bs w' ∧ Chg w w' (· = b)) := by
  rcases h with h | h
  · refine (bcheck_fresh b w h.at.cell0 h.at.shape h.at.frozen0).mono ?_
    rintro e w' ⟨rfl, rfl⟩
    obtain ⟨h1, v, h2, h3⟩ := h
    have e1 := setCell_eq_setRow w b 0 _ _ _ (.pointer (some ⟨b, 0, none⟩)) h2
    rw [e1]
    refine ⟨rfl, ⟨h1, v, setRow_heap _ _ _ _ _ _ h2, ownsRow_row h3 h1 _⟩, Chg.set w b _⟩
  · refine (bcheck_used b w h.at.cell0).mono ?_
    rintro e w' ⟨rfl, rfl⟩
    exact ⟨rfl, h, Chg.refl _ _⟩
set_option maxHeartbeats 2000000 in
theorem bwrite2 (lo b : Nat) (bs : List Value) (s : ByteArray) (w : World) (h : IsBuilt lo b bs w) (hlen : bs.length + s.size ≤ 140737488355328) (hlo : lo ≤ w.heap.size) :
    Calls Tryz.prog 53 #[.pointer (some ⟨b, 0, none⟩), .string s] w fun e w' => e = .returned (.tuple #[.int .i64 s.size, .nilIface]) ∧ (IsBuilt lo b (bs ++ Lib.strCells s) w' ∧ Chg w w' (bS b lo) ∧ Keeps b w w') := by
  obtain ⟨i0, hi, hz0, hz1, hz2⟩ := info_parts infoByte
  go_enter Tryz.func53, Tryz.ntmps53
  go_wp2_with (go_at_call 83; refine (bcheck2 lo b bs _ h).mono ?_)
  rintro e w1 ⟨rfl, h1, hb1⟩
  obtain ⟨hB, v, hbk, hown⟩ := h1
  have hne : v.ownBlock ≠ some b := fun e => by have := (ownsRow_ge hown _ e).1; omega
  have c0 : w1.cell? ⟨b, 0, none⟩ = some (.pointer (some ⟨b, 0, none⟩)) := by rw [Lib.cell_of_heap hbk]; rfl
  have c1 : w1.cell? ⟨b, 1, none⟩ = some v := by rw [Lib.cell_of_heap hbk]; rfl
  go_wp2_with (at_builtin; refine Lib.wpList_append_own_string _ rfl _ _ 93 9 rfl lo 5 i0 Tryz.underlying93 Tryz.underlying9 hi hz0 hz1 hz2 _ _ _ rfl hown s rfl ?c3 ?c4 ?c5 ?_)
  case c3 => unfold maxLen; omega
  case c4 => omega
  case c5 => have := hb1.size; omega
  intro v' w2 hown' hgrow _
  have hlt : b < w1.heap.size := (Array.getElem?_eq_some_iff.1 hbk).1
  have hb2 : w2.heap[b]? = some (.cells #[.pointer (some ⟨b, 0, none⟩), v] 95 (0, 0)) := by
    rw [hgrow.block b hlt (fun e => hne e.symm)]
    exact hbk
  have d0 : w2.cell? ⟨b, 0, none⟩ = some (.pointer (some ⟨b, 0, none⟩)) := by rw [Lib.cell_of_heap hb2]; rfl
  have d1 : w2.cell? ⟨b, 1, none⟩ = some v := by rw [Lib.cell_of_heap hb2]; rfl
  have f1 : w2.frozen? ⟨b, 1, none⟩ = false := Lib.frozen_of_heap hb2 1
  obtain ⟨ao, n', cap, rfl⟩ : ∃ ao n' cap, v' = .slice ao n' cap := by
    rcases hown'.2 with ⟨hv, _⟩ | ⟨g, cap, cur, hv, _⟩
    · exact ⟨_, _, _, hv⟩
    · exact ⟨_, _, _, hv⟩
  go_wp2
  go_ret2
  have e1 := setCell_eq_setRow w2 b 1 _ _ _ (.slice ao n' cap) hb2
  rw [e1]
  refine ⟨rfl, .inr ⟨hB, _, setRow_heap _ _ _ _ _ _ hb2, ownsRow_row (by simpa [Lib.strCells_length] using hown') hB _⟩, ?_, ?_⟩
  · exact (hb1.mono fun k _ hk => .inl hk).trans (((Chg.grown hgrow).mono fun k _ hk => .inr (ownsRow_ge hown k hk.symm).1).trans ((Chg.set w2 b _).mono fun k _ hk => .inl hk))
  · intro g cs T fr hg hT hh
    rw [setRow_other _ _ _ _ hg]
    have hh1 : w1.heap[g]? = some (.cells cs T fr) := (hb1.block g (Array.getElem?_eq_some_iff.1 hh).1 hg).trans hh
    rw [hgrow.block g (Array.getElem?_eq_some_iff.1 hh1).1 fun e => ?_]
    · exact hh1
    · rcases hown.2 with ⟨e2, _⟩ | ⟨k, cap, cur, e2, _, h4, _⟩
      · rw [e2] at e; cases e
      · rw [e2] at e
        cases e
        rw [h4] at hh1
        cases hh1
        exact hT rfl
theorem built_fresh {w : World} {b lo : Nat} (hb : b < lo) (h : w.heap[b]? = some (.cells #[.pointer none, .slice none 0 0] 95 (0, 0))) : IsBuilt lo b [] w :=
  .inl ⟨hb, _, h, World.ownsRow_nil _ _ _ _⟩
/-- A kind's word, and how many fractions it has. -/
def wordB (kd : Int) : List UInt8 := if kd = 1 then [115, 112, 97, 99, 101] else if kd = 2 then [108, 101, 110, 115] else if kd = 3 then [115, 108, 97, 98] else if kd = 4 then [115, 117, 114, 102, 97, 99, 101] else if kd = 5 then [102, 108, 105, 112] else []
def wordN (kd : Int) : Nat := if kd = 1 then 1 else if kd = 2 then 1 else if kd = 3 then 2 else if kd = 4 then 2 else 0
theorem wordN_le (kd : Int) : wordN kd ≤ 2 := by unfold wordN; split <;> (try split) <;> (try split) <;> (try split) <;> omega
theorem wordB_len (kd : Int) : (wordB kd).length ≤ 7 := by unfold wordB; split <;> (try split) <;> (try split) <;> (try split) <;> (try split) <;> simp
theorem word_c (kd : Int) (w : World) : Calls Tryz.prog 52 #[.int .u8 kd] w fun e w' => e = .returned (.tuple #[.string ⟨(wordB kd).toArray⟩, .int .i64 (wordN kd)]) ∧ w = w' := by
  by_cases h1 : kd = 1
  · subst h1
    go_enter Tryz.func52, Tryz.ntmps52
    go_wp2_with fail
    go_ret2
    exact ⟨rfl, rfl⟩
  by_cases h2 : kd = 2
  · subst h2
    go_enter Tryz.func52, Tryz.ntmps52
    go_wp2_with fail
    go_ret2
    exact ⟨rfl, rfl⟩
  by_cases h3 : kd = 3
  · subst h3
    go_enter Tryz.func52, Tryz.ntmps52
    go_wp2_with fail
    go_ret2
    exact ⟨rfl, rfl⟩
  by_cases h4 : kd = 4
  · subst h4
    go_enter Tryz.func52, Tryz.ntmps52
    go_wp2_with fail
    go_ret2
    exact ⟨rfl, rfl⟩
  by_cases h5 : kd = 5
  · subst h5
    go_enter Tryz.func52, Tryz.ntmps52
    go_wp2_with fail
    go_ret2
    exact ⟨rfl, rfl⟩
  have e : wordB kd = [] ∧ wordN kd = 0 := by unfold wordB wordN; simp [h1, h2, h3, h4, h5]
  rw [e.1, e.2]
  have b1 : (kd == 1) = false := by simpa using h1
  have b2 : (kd == 2) = false := by simpa using h2
  have b3 : (kd == 3) = false := by simpa using h3
  have b4 : (kd == 4) = false := by simpa using h4
  have b5 : (kd == 5) = false := by simpa using h5
  clear h1 h2 h3 h4 h5 e
  go_enter Tryz.func52, Tryz.ntmps52
  go_wp2_with fail
  go_ret2
  exact ⟨rfl, rfl⟩
/-- A part's line. -/
def headB (d : PD) : List UInt8 := d.nm.data.toList ++ 32 :: (itoa d.co ++ 32 :: wordB d.kd)
def fracsB (d : PD) : List Rat := [d.p, d.q].take (wordN d.kd)
def tailB (l : List Rat) : List UInt8 := l.flatMap fun x => 32 :: ratText x
def lineB (d : PD) : List UInt8 := headB d ++ tailB (fracsB d) ++ [10]
def textB (L : List PD) : List UInt8 := L.flatMap lineB
end Go.Proofs.YtkkfgphcmnhabaaGreatDoor
namespace Go.Proofs.YtkkfgphcmnhabaaGreatDoor
set_option maxRecDepth 100000
open Go Go.RowKit Go.Proofs
theorem rabs_num (q : Rat) : (rabs q).num = (q.num.natAbs : Int) ∧ (rabs q).den = q.den := by
  unfold rabs
  split
  · rename_i h
    rw [Rat.neg_num, Rat.neg_den]
    exact ⟨by omega, rfl⟩
  · exact ⟨by omega, rfl⟩
theorem rabs_nf (q : Rat) : nf (rabs q) = nf q := by
  obtain ⟨h1, h2⟩ := rabs_num q
  unfold nf
  rw [h1, h2]
  unfold nl
  simp
theorem rabs_frac {w : World} {r : FV} {q : Rat} (h : FracR w (.agg #[.bool r.b1, .slice r.a1 r.n1 r.c1, .bool r.b2, .slice r.a2 r.n2 r.c2]) q) : FracR w (.agg #[.bool false, .slice r.a1 r.n1 r.c1, .bool r.b2, .slice r.a2 r.n2 r.c2]) (rabs q) := by
  obtain ⟨h1, h2⟩ := rabs_num q
  obtain ⟨b1, a1, n1, c1, b2, a2, n2, c2, e, k1, k2⟩ := h
  simp only [Value.agg.injEq, Array.mk.injEq, List.cons.injEq, and_true, Value.bool.injEq, Value.slice.injEq] at e
  obtain ⟨rfl, ⟨rfl, rfl, rfl⟩, rfl, rfl, rfl, rfl⟩ := e
  refine ⟨_, _, _, _, _, _, _, _, rfl, ?_, by rw [h2]; exact k2⟩
  obtain ⟨s, e, k⟩ := k1
  simp only [Value.agg.injEq, Array.mk.injEq, List.cons.injEq, and_true, Value.bool.injEq] at e
  obtain ⟨-, rfl⟩ := e
  refine ⟨_, ?_, by rw [h1, Int.natAbs_natCast]; exact k⟩
  rw [h1]
  simp
set_option maxHeartbeats 1600000 in
theorem off_c (d : PD) (p q pw : FV) (x : Rat) (gp : Nat) (w : World) (hp : nf d.p ≤ 2048) (hx : nf x ≤ 2048) (h1 : FracR w (.agg #[.bool p.b1, .slice p.a1 p.n1 p.c1, .bool p.b2, .slice p.a2 p.n2 p.c2]) d.p) (h2 : FracR w (.agg #[.bool pw.b1, .slice pw.a1 pw.n1 pw.c1, .bool pw.b2, .slice pw.a2 pw.n2 pw.c2]) x) (zp : w.heap[gp]? = some (.cells #[.bool pw.b1, .slice pw.a1 pw.n1 pw.c1, .bool pw.b2, .slice pw.a2 pw.n2 pw.c2] 34 (0, 0))) :
    Calls Tryz.prog 38 #[.agg #[.string d.nm, .int .u8 d.kd, .bool p.b1, .slice p.a1 p.n1 p.c1, .bool p.b2, .slice p.a2 p.n2 p.c2, .bool q.b1, .slice q.a1 q.n1 q.c1, .bool q.b2, .slice q.a2 q.n2 q.c2, .int .i64 d.co], .pointer (some ⟨gp, 0, none⟩)] w fun e w' => ∃ v, e = .returned v ∧ FracR w' v (offP x d) ∧ Ext w w' := by
  obtain ⟨w1, hw1⟩ : ∃ w1, w1 = (w.alloc (.cells #[.string d.nm, .int .u8 d.kd, .bool p.b1, .slice p.a1 p.n1 p.c1, .bool p.b2, .slice p.a2 p.n2 p.c2, .bool q.b1, .slice q.a1 q.n1 q.c1, .bool q.b2, .slice q.a2 q.n2 q.c2, .int .i64 d.co] 38)).alloc (.cells #[.bool false, .slice none 0 0, .bool false, .slice none 0 0] 34) := ⟨_, rfl⟩
  have hE : Ext w w1 := by rw [hw1]; exact ((Ext.refl w).al _).al _
  have z0 := mkHid (show w1.heap[w.heap.size]? = some (.cells #[.string d.nm, .int .u8 d.kd, .bool p.b1, .slice p.a1 p.n1 p.c1, .bool p.b2, .slice p.a2 p.n2 p.c2, .bool q.b1, .slice q.a1 q.n1 q.c1, .bool q.b2, .slice q.a2 q.n2 q.c2, .int .i64 d.co] 38 (0, 0)) by rw [hw1]; exact (heap_alloc_old _ _ (by simp)).trans (heap_alloc_new _ _))
  have zR := mkHid (show w1.heap[w.heap.size + 1]? = some (.cells #[.bool false, .slice none 0 0, .bool false, .slice none 0 0] 34 (0, 0)) by rw [hw1]; exact heap_at _ _ _ (by simp))
  have zP := mkHid (hE.blk zp)
  have hsz := mkHid (show w1.heap.size = w.heap.size + 2 by rw [hw1]; simp)
  have hM := mkHid (minus_f (.agg #[.bool p.b1, .slice p.a1 p.n1 p.c1, .bool p.b2, .slice p.a2 p.n2 p.c2]) (.agg #[.bool pw.b1, .slice pw.a1 pw.n1 pw.c1, .bool pw.b2, .slice pw.a2 pw.n2 pw.c2]) d.p x w1 (Nat.le_trans hp (by decide)) (Nat.le_trans hx (by decide)) (h1.ext hE) (h2.ext hE))
  replace hw1 := mkHid hw1
  replace hE := mkHid hE
  clear h1 h2 zp hp hx
  go_enter Tryz.func38, Tryz.ntmps38
  have tok : Tok 0 := .mk _
  go_wp2_with (first
    | ((have _t : Tok 0 := tok); clear _t; clear tok; (have tok : Tok 1 := .mk _); rw [← hw1.out]; refine wpList_load_sub (by rfl) 34 (.tmp 6) rfl w.heap.size 2 ?za 38 _ #[.bool p.b1, .slice p.a1 p.n1 p.c1, .bool p.b2, .slice p.a2 p.n2 p.c2] (0, 0) _ z0.out ?zb Tryz.underlying34 rfl (by kernel_rfl) ?_; (case za => rfl); (case zb => rfl))
    | ((have _t : Tok 1 := tok); clear _t; clear tok; (have tok : Tok 2 := .mk _); refine wpList_load_row (by rfl) 34 (.tmp 1) rfl gp rfl 34 #[.bool pw.b1, .slice pw.a1 pw.n1 pw.c1, .bool pw.b2, .slice pw.a2 pw.n2 pw.c2] (0, 0) _ zP.out Tryz.underlying34 rfl (by kernel_rfl) ?_)
    | ((have _t : Tok 2 := tok); clear _t; clear tok; (have tok : Tok 3 := .mk _); go_at_call 39; refine hM.out.mono ?_; rintro e w2 ⟨v2, rfl, hE2, hv2⟩; (obtain ⟨r, rfl⟩ := hv2.r.fv);
        (obtain ⟨w3, hw3⟩ : ∃ w3, w3 = (w2.alloc (.cells #[.bool false, .slice none 0 0, .bool false, .slice none 0 0] 34)).setRow w2.heap.size #[.bool r.b1, .slice r.a1 r.n1 r.c1, .bool r.b2, .slice r.a2 r.n2 r.c2] := ⟨_, rfl⟩);
        (have hE3 : Ext w2 w3 := by rw [hw3]; exact ((Ext.refl w2).al _).row (Nat.le_refl _) _);
        (have z3 : w3.heap[w2.heap.size]? = some (.cells #[.bool r.b1, .slice r.a1 r.n1 r.c1, .bool r.b2, .slice r.a2 r.n2 r.c2] 34 (0, 0)) := by rw [hw3]; exact setRow_heap _ _ _ _ _ _ (heap_alloc_new _ _));
        (have y3 : w3.cell? ⟨w2.heap.size, 0, none⟩ = some (.bool r.b1) := row16_cells z3 0);
        (have f3 : w3.frozen? ⟨w2.heap.size, 0, none⟩ = false := by simp [World.frozen?, z3]);
        (obtain ⟨w4, hw4⟩ : ∃ w4, w4 = w3.setCell ⟨w2.heap.size, 0, none⟩ (.bool false) := ⟨_, rfl⟩);
        (have hs4 : w4 = w3.setRow w2.heap.size #[.bool false, .slice r.a1 r.n1 r.c1, .bool r.b2, .slice r.a2 r.n2 r.c2] := by rw [hw4, setCell_eq_setRow _ _ _ _ _ _ _ z3]; rfl);
        (have z4 := mkHid (show w4.heap[w2.heap.size]? = some (.cells #[.bool false, .slice r.a1 r.n1 r.c1, .bool r.b2, .slice r.a2 r.n2 r.c2] 34 (0, 0)) by rw [hs4]; exact setRow_heap _ _ _ _ _ _ z3));
        (have hE4 : Ext w2 w4 := by rw [hs4]; exact hE3.row (Nat.le_refl _) _);
        (have zR4 := mkHid (hE4.blk (hE2.blk zR.out)));
        (have hE5 := mkHid ((hE.out.trans (hE2.trans hE4)).row (show w.heap.size ≤ w.heap.size + 1 by omega) #[.bool false, .slice r.a1 r.n1 r.c1, .bool r.b2, .slice r.a2 r.n2 r.c2]));
        (have hv5 := mkHid (rabs_frac ((hv2.ext hE4).row (g := w.heap.size + 1) (by have := hsz.out; omega) #[.bool false, .slice r.a1 r.n1 r.c1, .bool r.b2, .slice r.a2 r.n2 r.c2]).r));
        replace hw3 := mkHid hw3; replace hw4 := mkHid hw4; clear hE2 hv2 hE3 z3 hs4 hE4)
    | ((have _t : Tok 3 := tok); clear _t; clear tok; (have tok : Tok 4 := .mk _); refine wpList_store_row rfl 34 (.tmp 4) (.tmp 9) rfl w2.heap.size #[.bool r.b1, .slice r.a1 r.n1 r.c1, .bool r.b2, .slice r.a2 r.n2 r.c2] rfl rfl 34 _ (heap_alloc_new _ _) (by kernel_rfl) rfl (by kernel_rfl) ?_; rw [← hw3.out])
    | ((have _t : Tok 4 := tok); clear _t; clear tok; (have tok : Tok 5 := .mk _); rw [← hw4.out]; refine wpList_load_row (by rfl) 34 (.tmp 4) rfl w2.heap.size rfl 34 #[.bool false, .slice r.a1 r.n1 r.c1, .bool r.b2, .slice r.a2 r.n2 r.c2] (0, 0) _ z4.out Tryz.underlying34 rfl (by kernel_rfl) ?_)
    | ((have _t : Tok 5 := tok); clear _t; clear tok; (have tok : Tok 6 := .mk _); refine wpList_store_row rfl 34 (.tmp 3) (.tmp 12) rfl (w.heap.size + 1) #[.bool false, .slice r.a1 r.n1 r.c1, .bool r.b2, .slice r.a2 r.n2 r.c2] rfl rfl 34 _ zR4.out (by kernel_rfl) rfl (by kernel_rfl) ?_))
  exact bodyPost_ret (results_cell_row rfl _ _ (w.heap.size + 1) 34 #[.bool false, .slice r.a1 r.n1 r.c1, .bool r.b2, .slice r.a2 r.n2 r.c2] (0, 0) _ rfl (setRow_heap _ _ _ _ _ _ zR4.out) Tryz.underlying34 rfl (by kernel_rfl)) rfl ⟨_, rfl, hv5.out, hE5.out⟩
end Go.Proofs.YtkkfgphcmnhabaaGreatDoor
namespace Go.Proofs.YtkkfgphcmnhabaaGreatDoor
set_option maxRecDepth 100000
open Go Go.RowKit Go.Proofs
def Or3R (a b c : Int) (t8 : Value) : Prop := t8 = .int .i64 0 ∨ (t8 = .int .i64 1 ∧ a = 0) ∨ (t8 = .int .i64 2 ∧ a = 0 ∧ b = 0) ∨ (t8 = .int .i64 3 ∧ a = 0 ∧ b = 0 ∧ c = 0)
set_option maxHeartbeats 800000 in
theorem or3_c (a b c : Int) (g : Nat) (w : World) (h : w.heap[g]? = some (.cells #[.int .i64 a, .int .i64 b, .int .i64 c] 3 (0, 0))) :
    Calls Tryz.prog 44 #[.slice (some ⟨g, 0, none⟩) 3 3] w fun e w' => e = .returned (.int .i64 (orI a b c)) ∧ w = w' := by
  have y0 : w.cell? ⟨g, 0, none⟩ = some (.int .i64 a) := row16_cells h 0
  have y1 : w.cell? ⟨g, 1, none⟩ = some (.int .i64 b) := row16_cells h 1
  have y2 : w.cell? ⟨g, 2, none⟩ = some (.int .i64 c) := row16_cells h 2
  clear h
  go_enter Tryz.func44, Tryz.ntmps44
  go_wp2_with fail
  go_loop [8] (fun t8 => Or3R a b c t8) (fun t8 => 3 - (intOf t8).toNat)
  case atStart => exact .inl rfl
  case round =>
    rcases hrel with rfl | ⟨rfl, ha⟩ | ⟨rfl, ha, hb⟩ | ⟨rfl, ha, hb, hc⟩
    · by_cases h0 : a = 0
      · have hb0 : (a != 0) = false := by simp [h0]
        replace h0 := mkHid h0
        go_wp2_with fail
        exact ⟨.inr (.inl ⟨by go_num, h0.out⟩), by simp [intOf]⟩
      · have hb0 : (a != 0) = true := by simp [h0]
        replace h0 := mkHid h0
        go_wp2_with fail
        go_ret
        exact ⟨by unfold orI; rw [if_pos h0.out]; rfl, rfl⟩
    · by_cases h0 : b = 0
      · have hb0 : (b != 0) = false := by simp [h0]
        replace h0 := mkHid h0
        replace ha := mkHid ha
        go_wp2_with fail
        exact ⟨.inr (.inr (.inl ⟨by go_num, ha.out, h0.out⟩)), by simp [intOf]⟩
      · have hb0 : (b != 0) = true := by simp [h0]
        replace h0 := mkHid h0
        replace ha := mkHid ha
        go_wp2_with fail
        go_ret
        exact ⟨by unfold orI; rw [if_neg (by simp [ha.out]), if_pos h0.out]; rfl, rfl⟩
    · by_cases h0 : c = 0
      · have hb0 : (c != 0) = false := by simp [h0]
        replace h0 := mkHid h0
        replace ha := mkHid ha
        replace hb := mkHid hb
        go_wp2_with fail
        exact ⟨.inr (.inr (.inr ⟨by go_num, ha.out, hb.out, h0.out⟩)), by simp [intOf]⟩
      · have hb0 : (c != 0) = true := by simp [h0]
        replace h0 := mkHid h0
        replace ha := mkHid ha
        replace hb := mkHid hb
        go_wp2_with fail
        go_ret
        exact ⟨by unfold orI; rw [if_neg (by simp [ha.out]), if_neg (by simp [hb.out])]; rfl, rfl⟩
    · replace ha := mkHid ha
      replace hb := mkHid hb
      replace hc := mkHid hc
      go_wp2_with fail
      go_ret
      exact ⟨by unfold orI; rw [if_neg (by simp [ha.out]), if_neg (by simp [hb.out]), hc.out]; rfl, rfl⟩
def Ints3 (a b c : Int) (W : World) (v : Value) : Prop := ∃ g, v = .slice (some ⟨g, 0, none⟩) 3 3 ∧ W.heap[g]? = some (.cells #[.int .i64 a, .int .i64 b, .int .i64 c] 3 (0, 0))
theorem st_ints3 {ss : List FSpec} (a b c : Int) (h : StableAll Ext ss) : StableAll Ext (.pred (Ints3 a b c) :: ss) := ⟨fun _ _ _ e h => by obtain ⟨g, h1, h2⟩ := h; exact ⟨g, h1, e.blk h2⟩, h⟩
theorem nf_off {x : Rat} {d : PD} (hp : nf d.p ≤ 2048) (hx : nf x ≤ 2048) : nf (offP x d) ≤ 268435456 := by
  unfold offP
  rw [rabs_nf]
  have := nf_sub_le d.p x
  omega
set_option maxHeartbeats 1600000 in
theorem near3_c (d1 d2 : PD) (p1 q1 p2 q2 pw : FV) (x : Rat) (gp go : Nat) (w : World) (hp1 : nf d1.p ≤ 2048) (hp2 : nf d2.p ≤ 2048) (hx : nf x ≤ 2048) (h1 : FracR w (.agg #[.bool p1.b1, .slice p1.a1 p1.n1 p1.c1, .bool p1.b2, .slice p1.a2 p1.n2 p1.c2]) d1.p) (h2 : FracR w (.agg #[.bool p2.b1, .slice p2.a1 p2.n1 p2.c1, .bool p2.b2, .slice p2.a2 p2.n2 p2.c2]) d2.p) (h3 : FracR w (.agg #[.bool pw.b1, .slice pw.a1 pw.n1 pw.c1, .bool pw.b2, .slice pw.a2 pw.n2 pw.c2]) x)
    (zp : w.heap[gp]? = some (.cells #[.bool pw.b1, .slice pw.a1 pw.n1 pw.c1, .bool pw.b2, .slice pw.a2 pw.n2 pw.c2] 34 (0, 0))) (zo : w.heap[go]? = some (.cells #[.func (.func 38) #[] #[.pointer (some ⟨gp, 0, none⟩)]] 81 (0, 0))) :
    Calls Tryz.prog 43 #[.agg #[.string d1.nm, .int .u8 d1.kd, .bool p1.b1, .slice p1.a1 p1.n1 p1.c1, .bool p1.b2, .slice p1.a2 p1.n2 p1.c2, .bool q1.b1, .slice q1.a1 q1.n1 q1.c1, .bool q1.b2, .slice q1.a2 q1.n2 q1.c2, .int .i64 d1.co], .agg #[.string d2.nm, .int .u8 d2.kd, .bool p2.b1, .slice p2.a1 p2.n1 p2.c1, .bool p2.b2, .slice p2.a2 p2.n2 p2.c2, .bool q2.b1, .slice q2.a1 q2.n1 q2.c1, .bool q2.b2, .slice q2.a2 q2.n2 q2.c2, .int .i64 d2.co], .pointer (some ⟨go, 0, none⟩)] w fun e w' => e = .returned (.int .i64 (cmp3 x d1 d2)) ∧ Ext w w' := by
  obtain ⟨w1, hw1⟩ : ∃ w1, w1 = (w.alloc (.cells #[.string d1.nm, .int .u8 d1.kd, .bool p1.b1, .slice p1.a1 p1.n1 p1.c1, .bool p1.b2, .slice p1.a2 p1.n2 p1.c2, .bool q1.b1, .slice q1.a1 q1.n1 q1.c1, .bool q1.b2, .slice q1.a2 q1.n2 q1.c2, .int .i64 d1.co] 38)).alloc (.cells #[.string d2.nm, .int .u8 d2.kd, .bool p2.b1, .slice p2.a1 p2.n1 p2.c1, .bool p2.b2, .slice p2.a2 p2.n2 p2.c2, .bool q2.b1, .slice q2.a1 q2.n1 q2.c1, .bool q2.b2, .slice q2.a2 q2.n2 q2.c2, .int .i64 d2.co] 38) := ⟨_, rfl⟩
  have hE : Ext w w1 := by rw [hw1]; exact ((Ext.refl w).al _).al _
  have z1 := mkHid (show w1.heap[w.heap.size]? = some (.cells #[.string d1.nm, .int .u8 d1.kd, .bool p1.b1, .slice p1.a1 p1.n1 p1.c1, .bool p1.b2, .slice p1.a2 p1.n2 p1.c2, .bool q1.b1, .slice q1.a1 q1.n1 q1.c1, .bool q1.b2, .slice q1.a2 q1.n2 q1.c2, .int .i64 d1.co] 38 (0, 0)) by rw [hw1]; exact (heap_alloc_old _ _ (by simp)).trans (heap_alloc_new _ _))
  have z2 := mkHid (show w1.heap[w.heap.size + 1]? = some (.cells #[.string d2.nm, .int .u8 d2.kd, .bool p2.b1, .slice p2.a1 p2.n1 p2.c1, .bool p2.b2, .slice p2.a2 p2.n2 p2.c2, .bool q2.b1, .slice q2.a1 q2.n1 q2.c1, .bool q2.b2, .slice q2.a2 q2.n2 q2.c2, .int .i64 d2.co] 38 (0, 0)) by rw [hw1]; exact heap_at _ _ _ (by simp))
  have zF := mkHid (hE.blk zo)
  have O1 := mkHid (fun W (e : Ext w W) => off_c d1 p1 q1 pw x gp W hp1 hx (h1.ext e) (h3.ext e) (e.blk zp))
  have O2 := mkHid (fun W (e : Ext w W) => off_c d2 p2 q2 pw x gp W hp2 hx (h2.ext e) (h3.ext e) (e.blk zp))
  have C := mkHid (fun v1 v2 W (a : FracR W v1 (offP x d1)) (b : FracR W v2 (offP x d2)) => cmp_f v1 v2 _ _ W (nf_off hp1 hx) (nf_off hp2 hx) a b)
  replace hw1 := mkHid hw1
  replace hE := mkHid hE
  clear h1 h2 h3 zp zo hp1 hp2 hx
  go_enter Tryz.func43, Tryz.ntmps43
  go_wp2_with fail
  rw [← hw1.out]
  apply region_ext [.val (.func (.func 38) #[] #[.pointer (some ⟨gp, 0, none⟩)]), .val (.agg #[.string d1.nm, .int .u8 d1.kd, .bool p1.b1, .slice p1.a1 p1.n1 p1.c1, .bool p1.b2, .slice p1.a2 p1.n2 p1.c2, .bool q1.b1, .slice q1.a1 q1.n1 q1.c1, .bool q1.b2, .slice q1.a2 q1.n2 q1.c2, .int .i64 d1.co]), .pred (fun W v => FracR W v (offP x d1)), .val (.func (.func 38) #[] #[.pointer (some ⟨gp, 0, none⟩)]), .val (.agg #[.string d2.nm, .int .u8 d2.kd, .bool p2.b1, .slice p2.a1 p2.n1 p2.c1, .bool p2.b2, .slice p2.a2 p2.n2 p2.c2, .bool q2.b1, .slice q2.a1 q2.n1 q2.c1, .bool q2.b2, .slice q2.a2 q2.n2 q2.c2, .int .i64 d2.co]), .pred (fun W v => FracR W v (offP x d2)), .val (.int .i64 (cS (offP x d1) (offP x d2))), .val (.pointer (some ⟨w.heap.size, 10, none⟩)), .val (.int .i64 d1.co), .val (.pointer (some ⟨w.heap.size + 1, 10, none⟩)), .val (.int .i64 d2.co), .val (.int .i64 (cmpI d1.co d2.co)), .val (.pointer (some ⟨w.heap.size, 0, none⟩)), .val (.string d1.nm), .val (.pointer (some ⟨w.heap.size + 1, 0, none⟩)), .val (.string d2.nm), .val (.int .i64 (Lib.compareBytes d1.nm.data.toList d2.nm.data.toList)), .pred (Ints3 (cS (offP x d1) (offP x d2)) (cmpI d1.co d2.co) (Lib.compareBytes d1.nm.data.toList d2.nm.data.toList)), .val (.int .i64 (cmp3 x d1 d2))] (by kernel_rfl) (stable_vals _ (stable_vals _ (st_fracR _ (stable_vals _ (stable_vals _ (st_fracR _ (stable_vals _ (stable_vals _ (stable_vals _ (stable_vals _ (stable_vals _ (stable_vals _ (stable_vals _ (stable_vals _ (stable_vals _ (stable_vals _ (stable_vals _ (st_ints3 _ _ _ (stable_vals _ (trivial))))))))))))))))))))
  refine ⟨fun W hW _ => by have := cell0 (hW.blk zF.out); go_simp; first | exact ⟨Ext.refl _, rfl⟩ | exact Ext.refl _, ?_⟩
  refine ⟨?l1, ?_⟩
  case l1 =>
    intro W hW hF
    have hr := hW.blk z1.out
    with_reducible refine fr_load ?zhw 38 (.tmp 3) ?zho (w.heap.size) ?zhx 38 _ (0, 0) _ hr Tryz.underlying38 ?zhd ?zhi ?zh
    case zhw => kernel_rfl
    case zho => rfl
    case zhx => kernel_rfl
    case zhd => rfl
    case zhi => kernel_rfl
    case zh => exact ⟨Ext.refl _, rfl⟩
  refine ⟨fun W hW hF => ?o1, fun v2 => ?_⟩
  case o1 =>
    clear hF
    go_simp
    refine (O1.out W (hE.out.trans hW)).mono ?_
    rintro e w' ⟨v, rfl, h1, h2⟩
    exact ⟨v, rfl, h2, h1⟩
  refine ⟨fun W hW _ => by have := cell0 (hW.blk zF.out); go_simp; first | exact ⟨Ext.refl _, rfl⟩ | exact Ext.refl _, ?_⟩
  refine ⟨?l2, ?_⟩
  case l2 =>
    intro W hW hF
    have hr := hW.blk z2.out
    with_reducible refine fr_load ?zhw 38 (.tmp 4) ?zho (w.heap.size + 1) ?zhx 38 _ (0, 0) _ hr Tryz.underlying38 ?zhd ?zhi ?zh
    case zhw => kernel_rfl
    case zho => rfl
    case zhx => kernel_rfl
    case zhd => rfl
    case zhi => kernel_rfl
    case zh => exact ⟨Ext.refl _, rfl⟩
  refine ⟨fun W hW hF => ?o2, fun v5 => ?_⟩
  case o2 =>
    clear hF
    go_simp
    refine (O2.out W (hE.out.trans hW)).mono ?_
    rintro e w' ⟨v, rfl, h1, h2⟩
    exact ⟨v, rfl, h2, h1⟩
  refine ⟨fun W hW hF => ?cm, ?_⟩
  case cm =>
    have a2 : FracR W v5 (offP x d2) := hF.1 (by kernel_rfl)
    have a1 : FracR W v2 (offP x d1) := hF.2.1 (by kernel_rfl)
    replace a1 := mkHid a1
    replace a2 := mkHid a2
    clear hF
    go_simp
    refine (C.out v2 v5 W a1.out a2.out).mono ?_
    rintro e w' ⟨rfl, h1⟩
    exact ⟨rfl, h1⟩
  refine ⟨fun W hW _ => by go_simp; first | exact ⟨Ext.refl _, rfl⟩ | exact Ext.refl _, ?_⟩
  refine ⟨fun W hW _ => by have := row16_cells (hW.blk z1.out) 10; go_simp; first | exact ⟨Ext.refl _, rfl⟩ | exact Ext.refl _, ?_⟩
  refine ⟨fun W hW _ => by go_simp; first | exact ⟨Ext.refl _, rfl⟩ | exact Ext.refl _, ?_⟩
  refine ⟨fun W hW _ => by have := row16_cells (hW.blk z2.out) 10; go_simp; first | exact ⟨Ext.refl _, rfl⟩ | exact Ext.refl _, ?_⟩
  refine ⟨fun W hW hF => ?cc, ?_⟩
  case cc =>
    clear hF
    go_simp
    refine (Tryz.cmp_Compare_int d1.co d2.co W).mono ?_
    rintro e w' ⟨rfl, rfl⟩
    exact ⟨rfl, Ext.refl _⟩
  refine ⟨fun W hW _ => by go_simp; first | exact ⟨Ext.refl _, rfl⟩ | exact Ext.refl _, ?_⟩
  refine ⟨fun W hW _ => by have := row16_cells (hW.blk z1.out) 0; go_simp; first | exact ⟨Ext.refl _, rfl⟩ | exact Ext.refl _, ?_⟩
  refine ⟨fun W hW _ => by go_simp; first | exact ⟨Ext.refl _, rfl⟩ | exact Ext.refl _, ?_⟩
  refine ⟨fun W hW _ => by have := row16_cells (hW.blk z2.out) 0; go_simp; first | exact ⟨Ext.refl _, rfl⟩ | exact Ext.refl _, ?_⟩
  refine ⟨fun W hW hF => ?cs, ?_⟩
  case cs =>
    clear hF
    go_simp
    refine (Tryz.strings_Compare d1.nm d2.nm W).mono ?_
    rintro e w' ⟨rfl, rfl⟩
    exact ⟨rfl, Ext.refl _⟩
  refine ⟨fun W hW hF => ?bs, fun v17 => ?_⟩
  case bs =>
    clear hF
    go_simp
    exact ⟨(Ext.refl _).al _, _, rfl, heap_alloc_new _ _⟩
  refine ⟨fun W hW hF => ?ov, fun W hW hF => ?fin⟩
  case ov =>
    obtain ⟨g3, rfl, h3⟩ := hF.1 (by kernel_rfl)
    clear hF
    replace h3 := mkHid h3
    go_simp
    refine (or3_c _ _ _ g3 W h3.out).mono ?_
    rintro e w' ⟨rfl, rfl⟩
    exact ⟨rfl, Ext.refl _⟩
  case fin =>
    clear hF
    have FE := mkHid (hE.out.trans hW)
    clear hW
    go_simp
    go_wp2_with fail
    go_ret
    exact ⟨rfl, FE.out⟩
end Go.Proofs.YtkkfgphcmnhabaaGreatDoor
namespace Go.Proofs.YtkkfgphcmnhabaaGreatDoor
set_option maxRecDepth 100000
open Go Go.RowKit Go.Proofs
def minX (x : Rat) (m : PD × Value) (l : List (PD × Value)) : PD × Value := l.foldl (fun m d => if cmp3 x d.1 m.1 < 0 then d else m) m
theorem minX_fst (x : Rat) : ∀ (l : List (PD × Value)) (m : PD × Value), (minX x m l).1 = minF x m.1 (l.map (·.1))
  | [], _ => rfl
  | d :: r, m => by
    show (minX x (if cmp3 x d.1 m.1 < 0 then d else m) r).1 = minF x (if cmp3 x d.1 m.1 < 0 then d.1 else m.1) (r.map (·.1))
    rw [minX_fst x r]
    split <;> rfl
theorem minX_mem (x : Rat) : ∀ (l : List (PD × Value)) (m : PD × Value), minX x m l = m ∨ minX x m l ∈ l
  | [], _ => .inl rfl
  | d :: r, m => by
    have h := minX_mem x r (if cmp3 x d.1 m.1 < 0 then d else m)
    show minX x (if cmp3 x d.1 m.1 < 0 then d else m) r = m ∨ minX x (if cmp3 x d.1 m.1 < 0 then d else m) r ∈ d :: r
    rcases h with h | h
    · rw [h]
      split
      · exact .inr (List.mem_cons_self ..)
      · exact .inl rfl
    · exact .inr (List.mem_cons_of_mem _ h)
def MinR (w : World) (x : Rat) (m0 : PD × Value) (r : List (PD × Value)) (t6 : Value) (wr : World) : Prop :=
  ∃ (j k : Nat) (d : PD) (p q : FV), j = k + 1 ∧ k ≤ r.length ∧ t6 = .int .i64 j ∧ minX x m0 (r.take k) = (d, .agg #[.string d.nm, .int .u8 d.kd, .bool p.b1, .slice p.a1 p.n1 p.c1, .bool p.b2, .slice p.a2 p.n2 p.c2, .bool q.b1, .slice q.a1 q.n1 q.c1, .bool q.b2, .slice q.a2 q.n2 q.c2, .int .i64 d.co]) ∧ Ext w wr ∧
    wr.heap[w.heap.size]? = some (.cells #[.string ⟨#[]⟩, .int .u8 0, .bool false, .slice none 0 0, .bool false, .slice none 0 0, .bool false, .slice none 0 0, .bool false, .slice none 0 0, .int .i64 0] 38 (0, 0)) ∧ wr.heap[w.heap.size + 1]? = some (.cells #[.string d.nm, .int .u8 d.kd, .bool p.b1, .slice p.a1 p.n1 p.c1, .bool p.b2, .slice p.a2 p.n2 p.c2, .bool q.b1, .slice q.a1 q.n1 q.c1, .bool q.b2, .slice q.a2 q.n2 q.c2, .int .i64 d.co] 38 (0, 0))
def MinQ (w : World) (m : PD × Value) (e : Ending) (w' : World) : Prop := e = .returned m.2 ∧ Ext w w'
set_option maxHeartbeats 3200000 in
theorem min_c (m0 : PD × Value) (r : List (PD × Value)) (rest : List Value) (g c : Nat) (x : Rat) (pw : FV) (gp go : Nat) (w : World) (hv : AllV (m0 :: r)) (hl : (m0 :: r).length ≤ 64)
    (hr : w.heap[g]? = some (.cells (cellsP (m0 :: r) ++ rest).toArray 38 (0, 0))) (hpr : ∀ y ∈ m0 :: r, PartR w y.2 y.1) (hnf : ∀ y ∈ m0 :: r, nf y.1.p ≤ 2048) (hx : nf x ≤ 2048) (h3 : FracR w (.agg #[.bool pw.b1, .slice pw.a1 pw.n1 pw.c1, .bool pw.b2, .slice pw.a2 pw.n2 pw.c2]) x)
    (zp : w.heap[gp]? = some (.cells #[.bool pw.b1, .slice pw.a1 pw.n1 pw.c1, .bool pw.b2, .slice pw.a2 pw.n2 pw.c2] 34 (0, 0))) (zo : w.heap[go]? = some (.cells #[.func (.func 38) #[] #[.pointer (some ⟨gp, 0, none⟩)]] 81 (0, 0))) :
    Calls Tryz.prog 42 #[.slice (some ⟨g, 0, none⟩) (m0 :: r).length c, .func (.func 43) #[] #[.pointer (some ⟨go, 0, none⟩)]] w (MinQ w (minX x m0 r)) := by
  obtain ⟨d0, v0⟩ := m0
  obtain ⟨p0, q0, e0⟩ := hv (d0, v0) (List.mem_cons_self ..)
  have e0' : v0 = .agg #[.string d0.nm, .int .u8 d0.kd, .bool p0.b1, .slice p0.a1 p0.n1 p0.c1, .bool p0.b2, .slice p0.a2 p0.n2 p0.c2, .bool q0.b1, .slice q0.a1 q0.n1 q0.c1, .bool q0.b2, .slice q0.a2 q0.n2 q0.c2, .int .i64 d0.co] := e0
  subst e0'
  generalize hos : (d0, Value.agg #[.string d0.nm, .int .u8 d0.kd, .bool p0.b1, .slice p0.a1 p0.n1 p0.c1, .bool p0.b2, .slice p0.a2 p0.n2 p0.c2, .bool q0.b1, .slice q0.a1 q0.n1 q0.c1, .bool q0.b2, .slice q0.a2 q0.n2 q0.c2, .int .i64 d0.co]) :: r = os at *
  have hln : os.length = r.length + 1 := by rw [← hos]; rfl
  have h0 : os[0]? = some (d0, Value.agg #[.string d0.nm, .int .u8 d0.kd, .bool p0.b1, .slice p0.a1 p0.n1 p0.c1, .bool p0.b2, .slice p0.a2 p0.n2 p0.c2, .bool q0.b1, .slice q0.a1 q0.n1 q0.c1, .bool q0.b2, .slice q0.a2 q0.n2 q0.c2, .int .i64 d0.co]) := by rw [← hos]; rfl
  have hlt0 : 0 < os.length := by omega
  have hx0 := mkHid (row_extract hv hlt0 rest (sub := #[.string d0.nm, .int .u8 d0.kd, .bool p0.b1, .slice p0.a1 p0.n1 p0.c1, .bool p0.b2, .slice p0.a2 p0.n2 p0.c2, .bool q0.b1, .slice q0.a1 q0.n1 q0.c1, .bool q0.b2, .slice q0.a2 q0.n2 q0.c2, .int .i64 d0.co]) (by have := List.getElem?_eq_some_iff.1 h0; rw [this.2]))
  have hos' := mkHid hos
  obtain ⟨w1, hw1⟩ : ∃ w1, w1 = w.alloc (.cells #[.string ⟨#[]⟩, .int .u8 0, .bool false, .slice none 0 0, .bool false, .slice none 0 0, .bool false, .slice none 0 0, .bool false, .slice none 0 0, .int .i64 0] 38) := ⟨_, rfl⟩
  have hE1 : Ext w w1 := by rw [hw1]; exact (Ext.refl w).al _
  have zR := mkHid (show w1.heap[w.heap.size]? = some (.cells #[.string ⟨#[]⟩, .int .u8 0, .bool false, .slice none 0 0, .bool false, .slice none 0 0, .bool false, .slice none 0 0, .bool false, .slice none 0 0, .int .i64 0] 38 (0, 0)) by rw [hw1]; exact heap_alloc_new _ _)
  have hsz : w1.heap.size = w.heap.size + 1 := by rw [hw1]; simp
  have hr1 := mkHid (hE1.blk hr)
  obtain ⟨w2, hw2⟩ : ∃ w2, w2 = (w1.alloc (.cells #[.string ⟨#[]⟩, .int .u8 0, .bool false, .slice none 0 0, .bool false, .slice none 0 0, .bool false, .slice none 0 0, .bool false, .slice none 0 0, .int .i64 0] 38)).setRow w1.heap.size #[.string d0.nm, .int .u8 d0.kd, .bool p0.b1, .slice p0.a1 p0.n1 p0.c1, .bool p0.b2, .slice p0.a2 p0.n2 p0.c2, .bool q0.b1, .slice q0.a1 q0.n1 q0.c1, .bool q0.b2, .slice q0.a2 q0.n2 q0.c2, .int .i64 d0.co] := ⟨_, rfl⟩
  have hE2 : Ext w1 w2 := by rw [hw2]; exact ((Ext.refl w1).al _).row (Nat.le_refl _) _
  have zM := mkHid (show w2.heap[w.heap.size + 1]? = some (.cells #[.string d0.nm, .int .u8 d0.kd, .bool p0.b1, .slice p0.a1 p0.n1 p0.c1, .bool p0.b2, .slice p0.a2 p0.n2 p0.c2, .bool q0.b1, .slice q0.a1 q0.n1 q0.c1, .bool q0.b2, .slice q0.a2 q0.n2 q0.c2, .int .i64 d0.co] 38 (0, 0)) by rw [hw2, ← hsz]; exact setRow_heap _ _ _ _ _ _ (heap_alloc_new _ _))
  have st : MinR w x (d0, .agg #[.string d0.nm, .int .u8 d0.kd, .bool p0.b1, .slice p0.a1 p0.n1 p0.c1, .bool p0.b2, .slice p0.a2 p0.n2 p0.c2, .bool q0.b1, .slice q0.a1 q0.n1 q0.c1, .bool q0.b2, .slice q0.a2 q0.n2 q0.c2, .int .i64 d0.co]) r (.int .i64 1) w2 := ⟨1, 0, d0, p0, q0, rfl, Nat.zero_le _, rfl, rfl, hE1.trans hE2, hE2.blk zR.out, zM.out⟩
  have NC := mkHid (fun (y z : PD × Value) (py qy pz qz : FV) (W : World) (hy : y ∈ os) (hz : z ∈ os) (ey : y.2 = .agg #[.string y.1.nm, .int .u8 y.1.kd, .bool py.b1, .slice py.a1 py.n1 py.c1, .bool py.b2, .slice py.a2 py.n2 py.c2, .bool qy.b1, .slice qy.a1 qy.n1 qy.c1, .bool qy.b2, .slice qy.a2 qy.n2 qy.c2, .int .i64 y.1.co]) (ez : z.2 = .agg #[.string z.1.nm, .int .u8 z.1.kd, .bool pz.b1, .slice pz.a1 pz.n1 pz.c1, .bool pz.b2, .slice pz.a2 pz.n2 pz.c2, .bool qz.b1, .slice qz.a1 qz.n1 qz.c1, .bool qz.b2, .slice qz.a2 qz.n2 qz.c2, .int .i64 z.1.co]) (e : Ext w W) =>
    near3_c y.1 z.1 py qy pz qz pw x gp go W (hnf y hy) (hnf z hz) hx (by have := (hpr y hy).ext e; rw [ey] at this; obtain ⟨_, _, _, _, _, _, _, _, _, _, _, _, _, _, _, _, e2, k, _⟩ := this; simp only [Value.agg.injEq, Array.mk.injEq, List.cons.injEq, and_true, Value.bool.injEq, Value.slice.injEq, true_and] at e2; obtain ⟨rfl, ⟨rfl, rfl, rfl⟩, rfl, ⟨rfl, rfl, rfl⟩, -⟩ := e2; exact k) (by have := (hpr z hz).ext e; rw [ez] at this; obtain ⟨_, _, _, _, _, _, _, _, _, _, _, _, _, _, _, _, e2, k, _⟩ := this; simp only [Value.agg.injEq, Array.mk.injEq, List.cons.injEq, and_true, Value.bool.injEq, Value.slice.injEq, true_and] at e2; obtain ⟨rfl, ⟨rfl, rfl, rfl⟩, rfl, ⟨rfl, rfl, rfl⟩, -⟩ := e2; exact k) (h3.ext e) (e.blk zp) (e.blk zo))
  have hll : (1 : Int) ≤ (os.length : Int) := by omega
  have hll2 : (os.length : Int) ≤ 64 := by omega
  have hll3 : (0 : Int) < (os.length : Int) := by omega
  replace st := mkHid st
  replace hv := mkHid hv
  replace hr := mkHid hr
  replace hw1 := mkHid hw1
  replace hw2 := mkHid hw2
  replace hE1 := mkHid hE1
  replace hE2 := mkHid hE2
  replace hln := mkHid hln
  replace h0 := mkHid h0
  replace hsz := mkHid hsz
  clear hpr hnf hx h3 zp zo e0 hos zM
  unfold MinQ
  go_enter Tryz.func42, Tryz.ntmps42
  have tok : Tok 0 := .mk _
  go_wp2_with (first
    | ((have _t : Tok 0 := tok); clear _t; clear tok; (have tok : Tok 1 := .mk _); rw [← hw1.out]; refine wpList_load_sub (by rfl) 38 (.tmp 12) rfl g (0 * 11) ?zz 38 _ #[.string d0.nm, .int .u8 d0.kd, .bool p0.b1, .slice p0.a1 p0.n1 p0.c1, .bool p0.b2, .slice p0.a2 p0.n2 p0.c2, .bool q0.b1, .slice q0.a1 q0.n1 q0.c1, .bool q0.b2, .slice q0.a2 q0.n2 q0.c2, .int .i64 d0.co] (0, 0) _ hr1.out hx0.out Tryz.underlying38 rfl (by kernel_rfl) ?_; (case zz => rfl))
    | ((have _t : Tok 1 := tok); clear _t; clear tok; (have tok : Tok 2 := .mk _); refine wpList_store_row rfl 38 (.tmp 5) (.tmp 13) rfl w1.heap.size #[.string d0.nm, .int .u8 d0.kd, .bool p0.b1, .slice p0.a1 p0.n1 p0.c1, .bool p0.b2, .slice p0.a2 p0.n2 p0.c2, .bool q0.b1, .slice q0.a1 q0.n1 q0.c1, .bool q0.b2, .slice q0.a2 q0.n2 q0.c2, .int .i64 d0.co] rfl rfl 38 _ (heap_alloc_new _ _) (by kernel_rfl) rfl (by kernel_rfl) ?_; rw [← hw2.out, hsz.out]))
  clear tok hll hll3
  go_loopw [6] (fun t6 wr => MinR w x (d0, .agg #[.string d0.nm, .int .u8 d0.kd, .bool p0.b1, .slice p0.a1 p0.n1 p0.c1, .bool p0.b2, .slice p0.a2 p0.n2 p0.c2, .bool q0.b1, .slice q0.a1 q0.n1 q0.c1, .bool q0.b2, .slice q0.a2 q0.n2 q0.c2, .int .i64 d0.co]) r t6 wr) (fun t6 _ => os.length - (intOf t6).toNat)
  case atStart => exact st.out
  case round =>
    clear st
    obtain ⟨j, k, d, p, q, hjk, hk, rfl, hmin, hEw, hz, hm⟩ := hrel
    obtain ⟨w3, rfl⟩ : ∃ w3 : World, w3 = wr := ⟨_, rfl⟩
    have hln2 := hln.out
    have hmm : (d, Value.agg #[.string d.nm, .int .u8 d.kd, .bool p.b1, .slice p.a1 p.n1 p.c1, .bool p.b2, .slice p.a2 p.n2 p.c2, .bool q.b1, .slice q.a1 q.n1 q.c1, .bool q.b2, .slice q.a2 q.n2 q.c2, .int .i64 d.co]) ∈ os := by
      rw [← hmin, ← hos'.out]
      rcases minX_mem x (r.take k) (d0, .agg #[.string d0.nm, .int .u8 d0.kd, .bool p0.b1, .slice p0.a1 p0.n1 p0.c1, .bool p0.b2, .slice p0.a2 p0.n2 p0.c2, .bool q0.b1, .slice q0.a1 q0.n1 q0.c1, .bool q0.b2, .slice q0.a2 q0.n2 q0.c2, .int .i64 d0.co]) with h | h
      · rw [h]; exact List.mem_cons_self ..
      · exact List.mem_cons_of_mem _ (List.mem_of_mem_take h)
    by_cases hlt : j < os.length
    · obtain ⟨d2, v2, hdv⟩ : ∃ d2 v2, os[j] = (d2, v2) := ⟨_, _, rfl⟩
      have hmj : (d2, v2) ∈ os := by rw [← hdv]; exact List.getElem_mem hlt
      obtain ⟨p2, q2, e0⟩ := hv.out _ hmj
      have e0' : v2 = .agg #[.string d2.nm, .int .u8 d2.kd, .bool p2.b1, .slice p2.a1 p2.n1 p2.c1, .bool p2.b2, .slice p2.a2 p2.n2 p2.c2, .bool q2.b1, .slice q2.a1 q2.n1 q2.c1, .bool q2.b2, .slice q2.a2 q2.n2 q2.c2, .int .i64 d2.co] := e0
      subst e0'
      have hrk : r[k]? = some (d2, .agg #[.string d2.nm, .int .u8 d2.kd, .bool p2.b1, .slice p2.a1 p2.n1 p2.c1, .bool p2.b2, .slice p2.a2 p2.n2 p2.c2, .bool q2.b1, .slice q2.a1 q2.n1 q2.c1, .bool q2.b2, .slice q2.a2 q2.n2 q2.c2, .int .i64 d2.co]) := by
        have : os[j]? = some (d2, .agg #[.string d2.nm, .int .u8 d2.kd, .bool p2.b1, .slice p2.a1 p2.n1 p2.c1, .bool p2.b2, .slice p2.a2 p2.n2 p2.c2, .bool q2.b1, .slice q2.a1 q2.n1 q2.c1, .bool q2.b2, .slice q2.a2 q2.n2 q2.c2, .int .i64 d2.co]) := by rw [List.getElem?_eq_getElem hlt, hdv]
        rw [← hos'.out, hjk, List.getElem?_cons_succ] at this
        exact this
      have hxk := mkHid (row_extract hv.out hlt rest (sub := #[.string d2.nm, .int .u8 d2.kd, .bool p2.b1, .slice p2.a1 p2.n1 p2.c1, .bool p2.b2, .slice p2.a2 p2.n2 p2.c2, .bool q2.b1, .slice q2.a1 q2.n1 q2.c1, .bool q2.b2, .slice q2.a2 q2.n2 q2.c2, .int .i64 d2.co]) (by rw [hdv]))
      have hr3 := mkHid (hEw.blk hr.out)
      have hN := fun W (e : Ext w3 W) => NC.out (d2, _) (d, _) p2 q2 p q W hmj hmm rfl rfl (hEw.trans e)
      have hjl : (j : Int) < (os.length : Int) := by omega
      have hj64 : (j : Int) ≤ 64 := by omega
      generalize hC : cmp3 x d2 d = C at hN
      replace hN : Hid _ := mkHid hN
      have hmin2 : minX x (d0, .agg #[.string d0.nm, .int .u8 d0.kd, .bool p0.b1, .slice p0.a1 p0.n1 p0.c1, .bool p0.b2, .slice p0.a2 p0.n2 p0.c2, .bool q0.b1, .slice q0.a1 q0.n1 q0.c1, .bool q0.b2, .slice q0.a2 q0.n2 q0.c2, .int .i64 d0.co]) (r.take (k + 1)) = if C < 0 then (d2, .agg #[.string d2.nm, .int .u8 d2.kd, .bool p2.b1, .slice p2.a1 p2.n1 p2.c1, .bool p2.b2, .slice p2.a2 p2.n2 p2.c2, .bool q2.b1, .slice q2.a1 q2.n1 q2.c1, .bool q2.b2, .slice q2.a2 q2.n2 q2.c2, .int .i64 d2.co]) else (d, .agg #[.string d.nm, .int .u8 d.kd, .bool p.b1, .slice p.a1 p.n1 p.c1, .bool p.b2, .slice p.a2 p.n2 p.c2, .bool q.b1, .slice q.a1 q.n1 q.c1, .bool q.b2, .slice q.a2 q.n2 q.c2, .int .i64 d.co]) := by
        have hkl := (List.getElem?_eq_some_iff.1 hrk).1
        rw [List.take_succ_eq_append_getElem hkl, (List.getElem?_eq_some_iff.1 hrk).2]
        show List.foldl _ _ _ = _
        rw [List.foldl_append]
        show (if cmp3 x d2 (minX x _ (r.take k)).1 < 0 then _ else minX x _ (r.take k)) = _
        rw [hmin]
        show (if cmp3 x d2 d < 0 then _ else _) = _
        rw [hC]
      have hkr : k + 1 ≤ r.length := by omega
      have hgl := mkHid (Array.getElem?_eq_some_iff.1 hm).1
      replace hjk := mkHid hjk
      replace hmin := mkHid hmin
      replace hmin2 := mkHid hmin2
      replace hEw := mkHid hEw
      replace hz := mkHid hz
      replace hm := mkHid hm
      replace hdv := mkHid hdv
      replace hC := mkHid hC
      clear e0 hrk hmm hmj hln2
      go_wp2_with fail
      apply region_ext [.val (.func (.func 43) #[] #[.pointer (some ⟨go, 0, none⟩)]), .val (.slice (some ⟨g, 0, none⟩) os.length c), .val (.int .i64 j), .val (.pointer (some ⟨g, j * 11, none⟩)), .val (.agg #[.string d2.nm, .int .u8 d2.kd, .bool p2.b1, .slice p2.a1 p2.n1 p2.c1, .bool p2.b2, .slice p2.a2 p2.n2 p2.c2, .bool q2.b1, .slice q2.a1 q2.n1 q2.c1, .bool q2.b2, .slice q2.a2 q2.n2 q2.c2, .int .i64 d2.co]), .val (.agg #[.string d.nm, .int .u8 d.kd, .bool p.b1, .slice p.a1 p.n1 p.c1, .bool p.b2, .slice p.a2 p.n2 p.c2, .bool q.b1, .slice q.a1 q.n1 q.c1, .bool q.b2, .slice q.a2 q.n2 q.c2, .int .i64 d.co]), .val (.int .i64 C), .val (.bool (decide (C < 0)))] (by kernel_rfl) (stable_vals _ (stable_vals _ (stable_vals _ (stable_vals _ (stable_vals _ (stable_vals _ (stable_vals _ (stable_vals _ trivial))))))))
      iterate 4 (refine ⟨fun W hW _ => by go_simp; first | exact ⟨Ext.refl _, rfl⟩ | exact Ext.refl _, ?_⟩)
      refine ⟨?l1, ?_⟩
      case l1 =>
        intro W hW hF
        have hrw := hW.blk hr3.out
        with_reducible refine fr_load_sub ?zhw 38 (.tmp 23) ?zho g (j * 11) ?zhx 38 _ #[.string d2.nm, .int .u8 d2.kd, .bool p2.b1, .slice p2.a1 p2.n1 p2.c1, .bool p2.b2, .slice p2.a2 p2.n2 p2.c2, .bool q2.b1, .slice q2.a1 q2.n1 q2.c1, .bool q2.b2, .slice q2.a2 q2.n2 q2.c2, .int .i64 d2.co] (0, 0) _ hrw hxk.out Tryz.underlying38 ?zhd ?zhi ?zh
        case zhw => kernel_rfl
        case zho => rfl
        case zhx => rfl
        case zhd => rfl
        case zhi => kernel_rfl
        case zh => exact ⟨Ext.refl _, rfl⟩
      refine ⟨?l2, ?_⟩
      case l2 =>
        intro W hW hF
        have hrw := hW.blk hm.out
        with_reducible refine fr_load ?zhw 38 (.tmp 5) ?zho (w.heap.size + 1) ?zhx 38 _ (0, 0) _ hrw Tryz.underlying38 ?zhd ?zhi ?zh
        case zhw => kernel_rfl
        case zho => rfl
        case zhx => rfl
        case zhd => rfl
        case zhi => kernel_rfl
        case zh => exact ⟨Ext.refl _, rfl⟩
      refine ⟨fun W hW hF => ?cm, ?_⟩
      case cm =>
        clear hF
        go_simp
        refine (hN.out W hW).mono ?_
        rintro e w' ⟨rfl, h1⟩
        exact ⟨rfl, h1⟩
      refine ⟨fun W hW _ => by go_simp; first | exact ⟨Ext.refl _, rfl⟩ | exact Ext.refl _, fun W hW hF => ?fin⟩
      case fin =>
        clear hF
        have hEW := mkHid (hEw.out.trans hW)
        have hzW := mkHid (hW.blk hz.out)
        have hmW := mkHid (hW.blk hm.out)
        have hrW := mkHid (hW.blk hr3.out)
        clear hW
        by_cases hc : C < 0
        · rw [decide_eq_true hc]
          have hm3 := hmin2.out
          rw [if_pos hc] at hm3
          replace hm3 := mkHid hm3
          clear hc
          go_simp
          have tok : Tok 0 := .mk _
          go_wp2_with (first
            | ((have _t : Tok 0 := tok); clear _t; clear tok; (have tok : Tok 1 := .mk _); refine wpList_load_sub (by rfl) 38 (.tmp 30) rfl g (j * 11) ?zz 38 _ #[.string d2.nm, .int .u8 d2.kd, .bool p2.b1, .slice p2.a1 p2.n1 p2.c1, .bool p2.b2, .slice p2.a2 p2.n2 p2.c2, .bool q2.b1, .slice q2.a1 q2.n1 q2.c1, .bool q2.b2, .slice q2.a2 q2.n2 q2.c2, .int .i64 d2.co] (0, 0) _ hrW.out hxk.out Tryz.underlying38 rfl (by kernel_rfl) ?_; (case zz => rfl))
            | ((have _t : Tok 1 := tok); clear _t; clear tok; (have tok : Tok 2 := .mk _); refine wpList_store_row rfl 38 (.tmp 5) (.tmp 31) rfl (w.heap.size + 1) #[.string d2.nm, .int .u8 d2.kd, .bool p2.b1, .slice p2.a1 p2.n1 p2.c1, .bool p2.b2, .slice p2.a2 p2.n2 p2.c2, .bool q2.b1, .slice q2.a1 q2.n1 q2.c1, .bool q2.b2, .slice q2.a2 q2.n2 q2.c2, .int .i64 d2.co] rfl rfl 38 _ hmW.out (by kernel_rfl) rfl (by kernel_rfl) ?_))
          go_roundw
          case measure => simp [intOf]; omega
          case rel =>
            exact ⟨j + 1, k + 1, d2, p2, q2, by rw [hjk.out], hkr, by go_num, hm3.out, hEW.out.row (by omega) _, (setRow_other _ _ _ _ (by omega)).trans hzW.out, setRow_heap _ _ _ _ _ _ hmW.out⟩
        · rw [decide_eq_false hc]
          have hm3 := hmin2.out
          rw [if_neg hc] at hm3
          replace hm3 := mkHid hm3
          clear hc
          go_simp
          go_wp2_with fail
          go_roundw
          case measure => simp [intOf]; omega
          case rel =>
            exact ⟨j + 1, k + 1, d, p, q, by rw [hjk.out], hkr, by go_num, hm3.out, hEW.out, hzW.out, hmW.out⟩
    · have hjn : j = os.length := by omega
      have hkn : k = r.length := by omega
      rw [hkn, List.take_length] at hmin
      subst hjn
      replace hmin := mkHid hmin
      have hE4 := mkHid (hEw.row (show w.heap.size ≤ w.heap.size from Nat.le_refl _) #[.string d.nm, .int .u8 d.kd, .bool p.b1, .slice p.a1 p.n1 p.c1, .bool p.b2, .slice p.a2 p.n2 p.c2, .bool q.b1, .slice q.a1 q.n1 q.c1, .bool q.b2, .slice q.a2 q.n2 q.c2, .int .i64 d.co])
      replace hz := mkHid hz
      replace hm := mkHid hm
      replace hEw := mkHid hEw
      clear hjk hkn hk hln2 hmm
      have tok : Tok 0 := .mk _
      go_wp2_with (first
        | ((have _t : Tok 0 := tok); clear _t; clear tok; (have tok : Tok 1 := .mk _); refine wpList_load_row (by rfl) 38 (.tmp 5) rfl (w.heap.size + 1) rfl 38 #[.string d.nm, .int .u8 d.kd, .bool p.b1, .slice p.a1 p.n1 p.c1, .bool p.b2, .slice p.a2 p.n2 p.c2, .bool q.b1, .slice q.a1 q.n1 q.c1, .bool q.b2, .slice q.a2 q.n2 q.c2, .int .i64 d.co] (0, 0) _ hm.out Tryz.underlying38 rfl (by kernel_rfl) ?_)
        | ((have _t : Tok 1 := tok); clear _t; clear tok; (have tok : Tok 2 := .mk _); refine wpList_store_row rfl 38 (.tmp 4) (.tmp 32) rfl w.heap.size #[.string d.nm, .int .u8 d.kd, .bool p.b1, .slice p.a1 p.n1 p.c1, .bool p.b2, .slice p.a2 p.n2 p.c2, .bool q.b1, .slice q.a1 q.n1 q.c1, .bool q.b2, .slice q.a2 q.n2 q.c2, .int .i64 d.co] rfl rfl 38 _ hz.out (by kernel_rfl) rfl (by kernel_rfl) ?_))
      rw [hmin.out]
      exact bodyPost_ret (results_cell_row rfl _ _ w.heap.size 38 #[.string d.nm, .int .u8 d.kd, .bool p.b1, .slice p.a1 p.n1 p.c1, .bool p.b2, .slice p.a2 p.n2 p.c2, .bool q.b1, .slice q.a1 q.n1 q.c1, .bool q.b2, .slice q.a2 q.n2 q.c2, .int .i64 d.co] (0, 0) _ rfl (setRow_heap _ _ _ _ _ _ hz.out) Tryz.underlying38 rfl (by kernel_rfl)) rfl ⟨rfl, hE4.out⟩
end Go.Proofs.YtkkfgphcmnhabaaGreatDoor
namespace Go.Proofs.YtkkfgphcmnhabaaGreatDoor
set_option maxRecDepth 100000
open Go Go.RowKit Go.Proofs
theorem PartK.row {lo g : Nat} {w : World} {v : Value} {d : PD} (h : PartK lo w v d) (hg : g < lo) (cs : Array Value) : PartK lo (w.setRow g cs) v d :=
  h.near fun k hk => setRow_other _ _ _ _ (by have := (h.span k hk).1; omega)
set_option maxHeartbeats 1600000 in
theorem get_ok (s : ByteArray) (w : World) (g M : Nat) (es : List (PD × Value)) (h : Cat w g M es) (hs : s.size ≤ 9223372036854775807) (x : PD × Value) (hf : findP s es = some x) :
    Calls Tryz.prog 9 #[.pointer (some ⟨g, 0, none⟩), .string s] w fun e w' => ∃ v, e = .returned (.tuple #[v, .bool true]) ∧ PartK w.heap.size w' v x.1 ∧ Ext w w' := by
  obtain ⟨d, v⟩ := x
  have hx : (d, v) ∈ es := List.mem_of_find?_eq_some hf
  obtain ⟨p, q, e0, -, -⟩ := (h.part _ hx).fv
  have e0' : v = .agg #[.string d.nm, .int .u8 d.kd, .bool p.b1, .slice p.a1 p.n1 p.c1, .bool p.b2, .slice p.a2 p.n2 p.c2, .bool q.b1, .slice q.a1 q.n1 q.c1, .bool q.b2, .slice q.a2 q.n2 q.c2, .int .i64 d.co] := e0
  subst e0'
  obtain ⟨wa, hwa⟩ : ∃ wa, wa = w.alloc (.cells #[.string ⟨#[]⟩, .int .u8 0, .bool false, .slice none 0 0, .bool false, .slice none 0 0, .bool false, .slice none 0 0, .bool false, .slice none 0 0, .int .i64 0] 38) := ⟨_, rfl⟩
  have hEa : Ext w wa := by rw [hwa]; exact (Ext.refl w).al _
  have zR : wa.heap[w.heap.size]? = some (.cells #[.string ⟨#[]⟩, .int .u8 0, .bool false, .slice none 0 0, .bool false, .slice none 0 0, .bool false, .slice none 0 0, .bool false, .slice none 0 0, .int .i64 0] 38 (0, 0)) := by rw [hwa]; exact heap_alloc_new _ _
  have hsa : wa.heap.size = w.heap.size + 1 := by rw [hwa]; simp
  have hL := (h.ext hEa).map.look s hs
  rw [hf] at hL
  replace hL : (Instr.lookup 70 (.map (some M)) (.string s) true).run Tryz.prog wa = .ok (.tuple #[.agg #[.string d.nm, .int .u8 d.kd, .bool p.b1, .slice p.a1 p.n1 p.c1, .bool p.b2, .slice p.a2 p.n2 p.c2, .bool q.b1, .slice q.a1 q.n1 q.c1, .bool q.b2, .slice q.a2 q.n2 q.c2, .int .i64 d.co], .bool true]) wa := hL
  have hG := mkHid (gone_l g M wa (h.ext hEa).str)
  have cg := cell0 (h.ext hEa).str
  obtain ⟨w1, hw1⟩ : ∃ w1, w1 = (wa.alloc (.cells #[.string ⟨#[]⟩, .int .u8 0, .bool false, .slice none 0 0, .bool false, .slice none 0 0, .bool false, .slice none 0 0, .bool false, .slice none 0 0, .int .i64 0] 38)).setRow wa.heap.size #[.string d.nm, .int .u8 d.kd, .bool p.b1, .slice p.a1 p.n1 p.c1, .bool p.b2, .slice p.a2 p.n2 p.c2, .bool q.b1, .slice q.a1 q.n1 q.c1, .bool q.b2, .slice q.a2 q.n2 q.c2, .int .i64 d.co] := ⟨_, rfl⟩
  have hE1 : Ext wa w1 := by rw [hw1]; exact ((Ext.refl wa).al _).row (Nat.le_refl _) _
  have z1 : w1.heap[wa.heap.size]? = some (.cells #[.string d.nm, .int .u8 d.kd, .bool p.b1, .slice p.a1 p.n1 p.c1, .bool p.b2, .slice p.a2 p.n2 p.c2, .bool q.b1, .slice q.a1 q.n1 q.c1, .bool q.b2, .slice q.a2 q.n2 q.c2, .int .i64 d.co] 38 (0, 0)) := by rw [hw1]; exact setRow_heap _ _ _ _ _ _ (heap_alloc_new _ _)
  have hK := mkHid (copied_k (.agg #[.string d.nm, .int .u8 d.kd, .bool p.b1, .slice p.a1 p.n1 p.c1, .bool p.b2, .slice p.a2 p.n2 p.c2, .bool q.b1, .slice q.a1 q.n1 q.c1, .bool q.b2, .slice q.a2 q.n2 q.c2, .int .i64 d.co]) d w1 (Nat.le_trans (h.ok _ hx).1 (by decide)) (Nat.le_trans (h.ok _ hx).2.1 (by decide)) ((h.ext (hEa.trans hE1)).part _ hx))
  replace hw1 := mkHid hw1
  replace hwa := mkHid hwa
  replace zR := mkHid zR
  replace z1 := mkHid z1
  replace hsa := mkHid hsa
  replace hEa := mkHid hEa
  replace hE1 := mkHid hE1
  clear h hf hx hs e0
  go_enter Tryz.func9, Tryz.ntmps9
  have tok : Tok 0 := .mk _
  go_wp2_with (first
    | ((have _t : Tok 0 := tok); clear _t; clear tok; (have tok : Tok 1 := .mk _); go_at_call 27; rw [← hwa.out]; refine hG.out.mono ?_; rintro e w' ⟨rfl, rfl⟩)
    | ((have _t : Tok 1 := tok); clear _t; clear tok; (have tok : Tok 2 := .mk _); refine wpList_store_row rfl 38 (.tmp 6) (.tmp 18) rfl wa.heap.size #[.string d.nm, .int .u8 d.kd, .bool p.b1, .slice p.a1 p.n1 p.c1, .bool p.b2, .slice p.a2 p.n2 p.c2, .bool q.b1, .slice q.a1 q.n1 q.c1, .bool q.b2, .slice q.a2 q.n2 q.c2, .int .i64 d.co] rfl rfl 38 _ (heap_alloc_new _ _) (by kernel_rfl) rfl (by kernel_rfl) ?_; rw [← hw1.out])
    | ((have _t : Tok 2 := tok); clear _t; clear tok; (have tok : Tok 3 := .mk _); refine wpList_load_row (by rfl) 38 (.tmp 6) rfl wa.heap.size rfl 38 #[.string d.nm, .int .u8 d.kd, .bool p.b1, .slice p.a1 p.n1 p.c1, .bool p.b2, .slice p.a2 p.n2 p.c2, .bool q.b1, .slice q.a1 q.n1 q.c1, .bool q.b2, .slice q.a2 q.n2 q.c2, .int .i64 d.co] (0, 0) _ z1.out Tryz.underlying38 rfl (by kernel_rfl) ?_)
    | ((have _t : Tok 3 := tok); clear _t; clear tok; (have tok : Tok 4 := .mk _); go_at_call 30; refine hK.out.mono ?_; rintro e w2 ⟨v2, rfl, hE2, hv2⟩; (obtain ⟨p', q', rfl, -, -⟩ := hv2.r.fv); (have zR2 := mkHid (hE2.blk (hE1.out.blk zR.out))); (have hE3 := mkHid ((hEa.out.trans (hE1.out.trans hE2)).row (show w.heap.size ≤ w.heap.size from Nat.le_refl _) #[.string d.nm, .int .u8 d.kd, .bool p'.b1, .slice p'.a1 p'.n1 p'.c1, .bool p'.b2, .slice p'.a2 p'.n2 p'.c2, .bool q'.b1, .slice q'.a1 q'.n1 q'.c1, .bool q'.b2, .slice q'.a2 q'.n2 q'.c2, .int .i64 d.co])); (have hv3 := mkHid ((hv2.row (g := w.heap.size) (by have := hE1.out.size; have := hsa.out; omega) #[.string d.nm, .int .u8 d.kd, .bool p'.b1, .slice p'.a1 p'.n1 p'.c1, .bool p'.b2, .slice p'.a2 p'.n2 p'.c2, .bool q'.b1, .slice q'.a1 q'.n1 q'.c1, .bool q'.b2, .slice q'.a2 q'.n2 q'.c2, .int .i64 d.co]).mono (show w.heap.size ≤ w1.heap.size by have := hE1.out.size; have := hsa.out; omega))); clear hE2 hv2)
    | ((have _t : Tok 4 := tok); clear _t; clear tok; refine wpList_store_row rfl 38 (.tmp 4) (.tmp 24) rfl w.heap.size #[.string d.nm, .int .u8 d.kd, .bool p'.b1, .slice p'.a1 p'.n1 p'.c1, .bool p'.b2, .slice p'.a2 p'.n2 p'.c2, .bool q'.b1, .slice q'.a1 q'.n1 q'.c1, .bool q'.b2, .slice q'.a2 q'.n2 q'.c2, .int .i64 d.co] rfl rfl 38 _ zR2.out (by kernel_rfl) rfl (by kernel_rfl) ?_))
  exact bodyPost_ret (results_row_tmp rfl _ _ w.heap.size 38 #[.string d.nm, .int .u8 d.kd, .bool p'.b1, .slice p'.a1 p'.n1 p'.c1, .bool p'.b2, .slice p'.a2 p'.n2 p'.c2, .bool q'.b1, .slice q'.a1 q'.n1 q'.c1, .bool q'.b2, .slice q'.a2 q'.n2 q'.c2, .int .i64 d.co] _ _ rfl rfl (setRow_heap _ _ _ _ _ _ zR2.out) Tryz.underlying38 rfl (by kernel_rfl)) rfl ⟨_, rfl, hv3.out, hE3.out⟩
end Go.Proofs.YtkkfgphcmnhabaaGreatDoor
