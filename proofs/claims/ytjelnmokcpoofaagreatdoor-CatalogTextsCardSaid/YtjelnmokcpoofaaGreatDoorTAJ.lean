/-
  A list of parts in one row: loads, stores, what is cleared; the closure that tells what is no lens; slices.IndexFunc. slices.DeleteFunc at parts: what is no lens goes. strings.Builder at this dump: copyCheck, WriteString, WriteByte (after the shelf's own proofs, whose texts do not fit this dump's copyCheck: its panic bears another word). exact.Digits: the text of a whole number. ratio.Digits: the text of a fraction. A strings.Builder whose buffer lies above a bound, its struct below; a kind's word; a part's line. Plain law of a catalogue's text: words, numbers, fractions; what is told is read as it was, and the other way round. The reference's Name. The reference's own, Own: a part in new rows: printed by tools/gen_own.py. catalog: number, read of two lines, Parse of one text (that which law25's alive asks). ratio.Whole, frac.answered (what is handed out lies in memory of its own), ratio.Read, frac.Parse.
-/
import Derived.Test.YtjelnmokcpoofaaGreatDoorTAI
import Derived.Test.YtjelnmokcpoofaaGreatDoorTAF
import Derived.Test.YtjelnmokcpoofaaGreatDoorTAA
import Derived.Shelf.Strings.Builder1
import Derived.Test.YtjelnmokcpoofaaGreatDoorTAC
import Derived.Test.YtjelnmokcpoofaaGreatDoorTAB
import Derived.Maps.AppendAt
import Derived.LoopN
import Derived.Test.YtjelnmokcpoofaaGreatDoorTAD
import Derived.Lib.SplitLaws
import Derived.Test.YtjelnmokcpoofaaGreatDoorTAH
import Derived.Test.YtjelnmokcpoofaaGreatDoorTAG
import Derived.Lib.SmallJoins
import Derived.Test.YtjelnmokcpoofaaGreatDoorTAE
namespace Go.Proofs.YtjelnmokcpoofaaGreatDoor
set_option maxRecDepth 100000
open Go Go.RowKit Go.Proofs
def AllV (os : List (PD × Value)) : Prop := ∀ x ∈ os, ∃ p q : FV, x.2 = .agg #[.string x.1.nm, .int .u8 x.1.kd, .bool p.b1, .slice p.a1 p.n1 p.c1, .bool p.b2, .slice p.a2 p.n2 p.c2, .bool q.b1, .slice q.a1 q.n1 q.c1, .bool q.b2, .slice q.a2 q.n2 q.c2, .int .i64 x.1.co]
theorem OutP.allV {lo : Nat} {w : World} {s : Value} {os : List (PD × Value)} (h : OutP lo w s os) : AllV os := fun x hx => by
 obtain ⟨p, q, e, -, -⟩ := (h.part x hx).r.fv
 exact ⟨p, q, e⟩
theorem cellsP_append (a b : List (PD × Value)) : cellsP (a ++ b) = cellsP a ++ cellsP b := by simp [cellsP]
theorem cellsP_len : ∀ {os : List (PD × Value)}, AllV os → (cellsP os).length = os.length * 11
 | [], _ => rfl
 | x :: r, h => by
  obtain ⟨p, q, e⟩ := h x (List.mem_cons_self ..)
  have ih := cellsP_len (os := r) fun y hy => h y (List.mem_cons_of_mem _ hy)
  have : cellsP (x :: r) = x.2.cells.toList ++ cellsP r := rfl
  rw [this, List.length_append, ih, e, List.length_cons]
  show 11 + _ = _
  omega
theorem AllV.take {os : List (PD × Value)} (h : AllV os) (i : Nat) : AllV (os.take i) := fun x hx => h x (List.mem_of_mem_take hx)
theorem cellsP_split {os : List (PD × Value)} (h : AllV os) {i : Nat} (hi : i < os.length) : cellsP os = cellsP (os.take i) ++ (os[i].2.cells.toList ++ cellsP (os.drop (i + 1))) ∧ (cellsP (os.take i)).length = i * 11 := by
 refine ⟨?_, ?_⟩
 ·rw [show os[i].2.cells.toList ++ cellsP (os.drop (i + 1)) = cellsP (os.drop i) by rw [List.drop_eq_getElem_cons hi]; rfl, ← cellsP_append, List.take_append_drop]
 ·rw [cellsP_len (h.take i), List.length_take, Nat.min_eq_left (Nat.le_of_lt hi)]
theorem row_extract {os : List (PD × Value)} (h : AllV os) {i : Nat} (hi : i < os.length) (rest : List Value) {sub : Array Value} (e : os[i].2 = .agg sub) :
  (cellsP os ++ rest).toArray.extract (i * 11) (i * 11 + sub.size) = sub := by
 obtain ⟨h1, h2⟩ := cellsP_split h hi
 rw [e] at h1
 have h1' : cellsP os = cellsP (os.take i) ++ (sub.toList ++ cellsP (os.drop (i + 1))) := h1
 apply Array.toList_inj.1
 rw [Array.toList_extract, List.extract_eq_take_drop, h1', List.append_assoc, List.drop_append_of_le_length (by omega), List.drop_of_length_le (by omega), List.nil_append, List.append_assoc]
 rw [show i * 11 + sub.size - i * 11 = sub.toList.length by simp, List.take_left]
theorem OutP.rowC {lo : Nat} {w : World} {g n c : Nat} {os : List (PD × Value)} (h : OutP lo w (.slice (some ⟨g, 0, none⟩) n c) os) : n = os.length ∧ os.length ≤ c ∧ c ≤ maxLen ∧ lo ≤ g ∧ ∃ rest : List Value, rest.length = (c - os.length) * 11 ∧ w.heap[g]? = some (.cells (cellsP os ++ rest).toArray 56 (0, 0)) := by
 obtain ⟨h1, h2 | ⟨k, cap, cur, e, h3, h4, h5, h6, h7, h8⟩⟩ := h.row
 ·cases h2.1
 ·simp only [Value.slice.injEq, Option.some.injEq, Addr.mk.injEq] at e
  obtain ⟨⟨rfl, _⟩, rfl, rfl⟩ := e
  refine ⟨rfl, h5, h6, h3, cur.toList.drop (os.length * 11), ?_, ?_⟩
  ·rw [List.length_drop, Array.length_toList, h7, ← Nat.sub_mul]
  ·rw [← h8, List.take_append_drop, Array.toArray_toList]
   exact h4
theorem Chg.set (w : World) (g : Nat) (cs : Array Value) : Chg w (w.setRow g cs) (· = g) :=
 ⟨rfl, rfl, rfl, by simp, fun k _ hk => setRow_other _ _ _ _ hk⟩
theorem sizeBuilder : (Tryz.prog.info? 65).map (·.size) = some 2 := by kernel_rfl
theorem liesBuilder : liesAt Tryz.prog Tryz.prog.depth 65 (2 / Tryz.prog.cellsOf 65) 0 65 1 = true := by kernel_rfl
theorem infoByte : (Tryz.prog.info? 5).map (fun i => (i.zero, i.size, i.bytes)) = some (some (.int .u8 0), 1, 1) := by kernel_rfl
set_option maxHeartbeats 1000000 in
theorem bcheck_used (b : Nat) (w : World) (h0 : w.cell? ⟨b, 0, none⟩ = some (.pointer (some ⟨b, 0, none⟩))) :
  Calls Tryz.prog 49 #[.pointer (some ⟨b, 0, none⟩)] w fun e w' => e = .returned (.tuple #[]) ∧ w' = w := by
 obtain ⟨j, hj, _⟩ := Option.map_eq_some_iff.1 sizeBuilder
 go_enter Tryz.func49, Tryz.ntmps49
 go_wp2
 rw [Lib.run_neq_ptr_same w _ Tryz.underlying62 hj]
 go_wp2
 go_end0
 exact ⟨rfl, rfl⟩
set_option maxHeartbeats 1000000 in
theorem bcheck_fresh (b : Nat) (w : World) (h0 : w.cell? ⟨b, 0, none⟩ = some (.pointer none)) (hsh : w.shape? b = some (65, 2)) (hfz : w.frozen? ⟨b, 0, none⟩ = false) :
  Calls Tryz.prog 49 #[.pointer (some ⟨b, 0, none⟩)] w fun e w' => e = .returned (.tuple #[]) ∧ w' = w.setCell ⟨b, 0, none⟩ (.pointer (some ⟨b, 0, none⟩)) := by
 obtain ⟨j, hj, hjs⟩ := Option.map_eq_some_iff.1 sizeBuilder
 go_enter Tryz.func49, Tryz.ntmps49
 go_wp2
 rw [Lib.run_to_unsafe w ⟨b, 0, none⟩ Tryz.underlying62 Tryz.underlying133 hj (by rw [hjs]; decide) hsh (Nat.zero_lt_succ 1)]
 simp only [Result.andThen]
 rw [Oper.upon_value]
 go_wp2
 rw [run_callFunc_extern Tryz.func85 (by kernel_rfl) (by kernel_rfl) (by kernel_rfl) (e := Extern.AbiNoEscape.same) (by kernel_rfl)]
 rw [Lib.run_noEscape]
 simp only [Result.andThen]
 rw [Oper.upon_value]
 go_wp2
 rw [Lib.run_from_unsafe w ⟨b, 0, none⟩ Tryz.underlying133 Tryz.underlying62 hj hsh liesBuilder]
 simp only [Result.andThen]
 rw [Oper.upon_value]
 go_wp2
 go_end0
 exact ⟨rfl, rfl⟩
theorem bcheck_c (B b : Nat) (bs : List Value) (w : World) (h : Lib.IsBuilder 65 5 B b bs w) :
  Calls Tryz.prog 49 #[.pointer (some ⟨b, 0, none⟩)] w fun e w' => e = .returned (.tuple #[]) ∧ (Lib.BuilderAt 65 5 B b (.pointer (some ⟨b, 0, none⟩)) bs w' ∧ Below B w w') := by
 rcases h with h | h
 ·refine (bcheck_fresh b w h.cell0 h.shape h.frozen0).mono ?_
  rintro e w' ⟨rfl, rfl⟩
  exact ⟨rfl, h.used _, (Below.refl B w).setCell (p := ⟨b, 0, none⟩) h.1 _⟩
 ·refine (bcheck_used b w h.cell0).mono ?_
  rintro e w' ⟨rfl, rfl⟩
  exact ⟨rfl, h, Below.refl B _⟩
set_option maxHeartbeats 2000000 in
theorem bwrite_c (B b : Nat) (bs : List Value) (s : ByteArray) (w : World) (h : Lib.IsBuilder 65 5 B b bs w) (hlen : bs.length + s.size ≤ 140737488355328) (hBw : B ≤ w.heap.size) :
  Calls Tryz.prog 20 #[.pointer (some ⟨b, 0, none⟩), .string s] w fun e w' => e = .returned (.tuple #[.int .i64 s.size, .nilIface]) ∧ (Lib.BuilderAt 65 5 B b (.pointer (some ⟨b, 0, none⟩)) (bs ++ Lib.strCells s) w' ∧ Below B w w') := by
 obtain ⟨i0, hi, hz0, hz1, hz2⟩ := info_parts infoByte
 go_enter Tryz.func20, Tryz.ntmps20
 go_wp2_with (go_at_call 49; refine (bcheck_c B b bs _ h).mono ?_)
 rintro e w1 ⟨rfl, h1, hb1⟩
 obtain ⟨hB, v, hbk, hown, hne⟩ := h1
 have c0 : w1.cell? ⟨b, 0, none⟩ = some (.pointer (some ⟨b, 0, none⟩)) := by rw [Lib.cell_of_heap hbk]; rfl
 have c1 : w1.cell? ⟨b, 1, none⟩ = some v := by rw [Lib.cell_of_heap hbk]; rfl
 go_wp2_with (at_builtin; refine Lib.wpList_append_own_string _ rfl _ _ 63 9 rfl B 5 i0 Tryz.underlying63 Tryz.underlying9 hi hz0 hz1 hz2 _ _ _ rfl hown s rfl ?c3 ?c4 ?c5 ?_)
 case c3 => unfold maxLen; omega
 case c4 => omega
 case c5 => have := hb1.size; omega
 intro v' w2 hown' hgrow _
 have hlt : b < w1.heap.size := by
  rcases Nat.lt_or_ge b w1.heap.size with h' | h'
  ·exact h'
  ·simp [Array.getElem?_eq_none h'] at hbk
 have hb2 : w2.heap[b]? = some (.cells #[.pointer (some ⟨b, 0, none⟩), v] 65 (0, 0)) := by
  rw [hgrow.block b hlt (fun e => hne e.symm)]
  exact hbk
 have d0 : w2.cell? ⟨b, 0, none⟩ = some (.pointer (some ⟨b, 0, none⟩)) := by rw [Lib.cell_of_heap hb2]; rfl
 have d1 : w2.cell? ⟨b, 1, none⟩ = some v := by rw [Lib.cell_of_heap hb2]; rfl
 have f1 : w2.frozen? ⟨b, 1, none⟩ = false := Lib.frozen_of_heap hb2 1
 obtain ⟨ao, n', cap, rfl⟩ : ∃ ao n' cap, v' = .slice ao n' cap := by
  rcases hown'.2 with ⟨hv, _⟩ | ⟨g, cap, cur, hv, _⟩
  ·exact ⟨_, _, _, hv⟩
  ·exact ⟨_, _, _, hv⟩
 go_wp2
 go_ret2
 refine ⟨rfl, ?_, ?_⟩
 ·exact Lib.BuilderAt.put (T := 65) (e := 5) hB hb2 (bs' := bs ++ Lib.strCells s) (by simpa [Lib.strCells_length] using hown') (by decide)
 ·exact (hb1.grown hgrow (by have := hb1.size; omega) (fun k hk => (hown.lt k hk).1)).setCell (p := ⟨b, 1, none⟩) hB _
set_option maxHeartbeats 2000000 in
theorem bbyte_c (B b : Nat) (bs : List Value) (c : Int) (w : World) (h : Lib.IsBuilder 65 5 B b bs w) (hlen : bs.length + 1 ≤ 140737488355328) (hBw : B ≤ w.heap.size) :
  Calls Tryz.prog 93 #[.pointer (some ⟨b, 0, none⟩), .int .u8 c] w fun e w' => e = .returned .nilIface ∧ (Lib.BuilderAt 65 5 B b (.pointer (some ⟨b, 0, none⟩)) (bs ++ [.int .u8 c]) w' ∧ Below B w w') := by
 obtain ⟨i0, hi, hz0, hz1, hz2⟩ := info_parts infoByte
 go_enter Tryz.func93, Tryz.ntmps93
 go_wp2_with (go_at_call 49; refine (bcheck_c B b bs _ h).mono ?_)
 rintro e w1 ⟨rfl, h1, hb1⟩
 obtain ⟨hB, v, hbk, hown, hne⟩ := h1
 have c0 : w1.cell? ⟨b, 0, none⟩ = some (.pointer (some ⟨b, 0, none⟩)) := by rw [Lib.cell_of_heap hbk]; rfl
 have c1 : w1.cell? ⟨b, 1, none⟩ = some v := by rw [Lib.cell_of_heap hbk]; rfl
 go_wp2_with (at_builtin; refine wpList_append_own _ rfl _ _ 63 rfl B 5 i0 (.int .u8 0) 1 1 Tryz.underlying63 hi hz0 hz1 hz2 rfl (by decide) _ _ _ rfl (hown.alloc _) ⟨w1.heap.size, 0, none⟩ 1 1 [.int .u8 c] rfl rfl ?c1 ?c2 ?c3 ?c4 ?c5 ?_)
 case c1 =>
  intro j u hj
  match j, hj with
  | 0, hj => simp at hj; subst hj; simp [Addr.add]
 case c2 => intro u hu; simp at hu; subst hu; rfl
 case c3 => unfold maxLen; omega
 case c4 => omega
 case c5 => have := hb1.size; simp; omega
 intro v' w2 hown' hgrow _
 have hlt : b < w1.heap.size := by
  rcases Nat.lt_or_ge b w1.heap.size with h' | h'
  ·exact h'
  ·simp [Array.getElem?_eq_none h'] at hbk
 have hb2 : w2.heap[b]? = some (.cells #[.pointer (some ⟨b, 0, none⟩), v] 65 (0, 0)) := by
  rw [hgrow.block b (by simp; omega) (fun e => hne e.symm), Lib.alloc_old w1 _ b hlt]
  exact hbk
 have d0 : w2.cell? ⟨b, 0, none⟩ = some (.pointer (some ⟨b, 0, none⟩)) := by rw [Lib.cell_of_heap hb2]; rfl
 have d1 : w2.cell? ⟨b, 1, none⟩ = some v := by rw [Lib.cell_of_heap hb2]; rfl
 have f1 : w2.frozen? ⟨b, 1, none⟩ = false := Lib.frozen_of_heap hb2 1
 obtain ⟨g, cap, rfl⟩ : ∃ g cap, v' = .slice (some ⟨g, 0, none⟩) (bs.length + 1) cap := by
  rcases hown'.2 with ⟨_, h0⟩ | ⟨g, cap, cur, hv, _⟩
  ·omega
  ·exact ⟨g, cap, hv⟩
 go_wp2
 go_ret
 refine ⟨rfl, ?_, ?_⟩
 ·exact Lib.BuilderAt.put (T := 65) (e := 5) hB hb2 (bs' := bs ++ [.int .u8 c]) (by simpa using hown') (by decide)
 ·exact ((hb1.alloc (by have := hb1.size; omega) _).grown hgrow (by have := hb1.size; simp; omega) (fun k hk => (hown.lt k hk).1)).setCell (p := ⟨b, 1, none⟩) hB _
end Go.Proofs.YtjelnmokcpoofaaGreatDoor
namespace Go.Proofs.YtjelnmokcpoofaaGreatDoor
set_option maxRecDepth 100000
open Go Go.RowKit Go.Proofs Go.Lib
theorem tab_ext {w w' : World} {nm : String} {k : IntKind} {zs : List Int} (h : Lib.TabIs Tryz.prog w nm k zs) (e : Ext w w') : Lib.TabIs Tryz.prog w' nm k zs := by
 unfold Lib.TabIs World.var? at *
 cases hg : Tryz.prog.globalNamed nm with
 | none => rw [hg] at h; cases h
 | some g =>
  rw [hg] at h
  simp only [Option.bind_some] at h ⊢
  cases hb : w.heap[g]? with
  | none => rw [hb] at h; cases h
  | some o => rw [e.blk hb]; rw [hb] at h; exact h
theorem infoString : (Tryz.prog.info? 9).map (fun i => (i.zero, i.size, i.bytes)) = some (some (.string ⟨#[]⟩), 1, 16) := by kernel_rfl
abbrev Tab10 (w : World) : Prop := Lib.TabIs Tryz.prog w "internal/strconv.uint64pow10" .u64 Lib.pow10Tab
theorem itoa_c (n : Nat) (w : World) (hn : n < 4294967296) (ht : Tab10 w) :
  Calls Tryz.prog 21 #[.int .i64 n] w fun e w' => e = .returned (.string ⟨(decDigits n).toArray⟩) ∧ Ext w w' := by
 refine (Tryz.strconv_Itoa n (by omega) (by omega) w ht).mono fun e w' h => ?_
 obtain ⟨rfl, k, os, rfl⟩ := h
 refine ⟨by unfold itoa; rw [if_neg (by omega)]; rfl, ?_⟩
 exact ⟨rfl, rfl, rfl, by simp [Go.Sort.grow, World.drewN], fun j hj => by simp [Go.Sort.grow, World.drewN, Array.getElem?_append, hj]⟩
def StrsO (w : World) (base : Nat) (v : Value) (ss : List (List UInt8)) : Prop := w.ownsRow base 9 1 v ss.length (ss.map fun s => .string ⟨s.toArray⟩)
def Dig1 (w0 : World) (base X k : Nat) (v3 v4 : Value) (wr : World) : Prop :=
 ∃ ps : List Nat, X = val9 ps + 1000000000 ^ ps.length * k ∧ (∀ p ∈ ps, p < 1000000000) ∧ (k = 0 → ps ≠ [] → 0 < ps.getLastD 0) ∧ StrsO wr base v3 (ps.map decDigits) ∧ MagO wr base v4 (lim k) ∧
  (∀ g, v4.ownBlock = some g → v3.ownBlock ≠ some g) ∧ (lim k).length ≤ 65536 ∧ ps.length ≤ 131073 ∧ Ext w0 wr
theorem ext_belowSz {w wr w5 : World} (h : Ext w wr) (hb : Below w.heap.size wr w5) : Ext w w5 := by
 obtain ⟨a1, a2, a3, a4, a5⟩ := h
 exact ⟨hb.os.trans a1, hb.tape.trans a2, hb.output.trans a3, nT a4 hb.size, fun j hj => (hb.block j hj).trans (a5 j hj)⟩
theorem row_str {w : World} {b o : Nat} {ps : List Nat} (h : Row w (some ⟨b, o, none⟩) ((ps.map decDigits).map fun s => Value.string ⟨s.toArray⟩)) (j : Nat) (hj : j < ps.length) :
  w.cell? ⟨b, o + j, none⟩ = some (.string ⟨(decDigits (ps.getD j 0)).toArray⟩) := by
 obtain ⟨b', o', e, hc⟩ := h
 have e := e (by intro e; simp at e; simp [e] at hj)
 cases e
 rw [hc j (by simpa using hj)]
 congr 1
 rw [List.getD_eq_getElem?_getD, List.getD_eq_getElem?_getD]
 simp [hj]
theorem nDigits_nine {p : Nat} (hp : p < 1000000000) : nDigits p ≤ 9 := by
 rcases Nat.lt_or_ge 9 (nDigits p) with h | h
 ·rcases Nat.eq_zero_or_pos p with h0 | h0
  ·subst h0
   rw [nDigits_small (by omega)] at h
   omega
  ·have h1 := pow_le_nDigits p h0
   have h2 : 10 ^ 9 ≤ 10 ^ (nDigits p - 1) := Nat.pow_le_pow_right (by omega) (by omega)
   omega
 ·exact h
theorem dec_len (p : Nat) : (decDigits p).length = nDigits p := by rw [decDigits_eq]; simp
theorem txt9_len : ∀ ps : List Nat, (∀ p ∈ ps, p < 1000000000) → (txt9 ps).length ≤ 9 * ps.length
 | [], _ => by simp [txt9]
 | [p], h => by
  have := nDigits_nine (h p (by simp))
  rw [txt9, dec_len]
  simpa using this
 | p :: q :: r, h => by
  have ih := txt9_len (q :: r) (fun x hx => h x (by simp [hx]))
  rw [txt9, List.length_append]
  have : (nine p).length = 9 := by simp [nine]
  simp only [List.length_cons] at ih ⊢
  omega
theorem str_size (l : List UInt8) : (⟨l.toArray⟩ : ByteArray).size = l.length := by simp [ByteArray.size]
theorem zeros9 (n : Nat) (hn : n ≤ 9) : Lib.strCells ((⟨#[48, 48, 48, 48, 48, 48, 48, 48, 48]⟩ : ByteArray).extract n 9) = Lib.byteCells (List.replicate (9 - n) 48) := by
 have : n = 0 ∨ n = 1 ∨ n = 2 ∨ n = 3 ∨ n = 4 ∨ n = 5 ∨ n = 6 ∨ n = 7 ∨ n = 8 ∨ n = 9 := by omega
 rcases this with rfl | rfl | rfl | rfl | rfl | rfl | rfl | rfl | rfl | rfl <;> rfl
def Dig2 (w3 : World) (sgn : List UInt8) (ps : List Nat) (k : Nat) (v6 : Value) (wr : World) : Prop :=
 v6 = .int .i64 ((k : Int) - 1) ∧ k ≤ ps.length ∧ Lib.IsBuilder 65 5 w3.heap.size w3.heap.size (Lib.byteCells (sgn ++ txt9 (ps.drop k))) wr ∧ Ext w3 wr
theorem parts_bound {X N k m : Nat} {a : Nat} (h : X = a + 1000000000 ^ m * k) (hk : 0 < k) (hX : X < 2 ^ (32 * N)) : m ≤ 2 * N := by
 have h1 : 2 ^ (29 * m) ≤ 1000000000 ^ m := by
  rw [Nat.pow_mul]
  exact Nat.pow_le_pow_left (by decide) m
 have h2 : 1000000000 ^ m ≤ X := by
  rw [h]
  exact nT (Nat.le_mul_of_pos_right _ hk) (Nat.le_add_left _ _)
 have h3 : 2 ^ (29 * m) < 2 ^ (32 * N) := Nat.lt_of_le_of_lt (nT h1 h2) hX
 have := (Nat.pow_lt_pow_iff_right (by decide : 1 < 2)).1 h3
 omega
set_option maxHeartbeats 800000 in
theorem digits_c (v : Value) (X : Int) (w : World) (hX : nl X ≤ 65536) (h : IntR w v X) (ht : Tab10 w) :
  Calls Tryz.prog 53 #[v] w fun e w' => e = .returned (.string ⟨(itoa X).toArray⟩) ∧ Ext w w' := by
 obtain ⟨i0, hi, hz0, hz1, hz2⟩ := info_parts infoString
 obtain ⟨s, rfl, a, c, rfl, hcap, hrow⟩ := h
 obtain ⟨bx, hbx⟩ : ∃ b, b = decide (X < 0) := ⟨_, rfl⟩
 rw [← hbx]
 obtain ⟨w1, hw1⟩ : ∃ w1, w1 = w.alloc (.cells #[.bool bx, .slice a (lim X.natAbs).length c] 50) := ⟨_, rfl⟩
 have hE1 : Ext w w1 := by rw [hw1]; exact (xR w).al _
 have z0 : w1.heap[w.heap.size]? = some (.cells #[.bool bx, .slice a (lim X.natAbs).length c] 50 (0, 0)) := by rw [hw1]; exact heap_alloc_new _ _
 have hlen : (lim X.natAbs).length ≤ 65536 := hX
 have CL := mK (clone_c a (lim X.natAbs) c w1 (by omega) (hrow.ext hE1))
 have hXb : X.natAbs < 2 ^ (32 * (lim X.natAbs).length) := by
  have := val_lt (lim_ok X.natAbs)
  rw [val_lim, show (4294967296 : Nat) = 2 ^ 32 from rfl, ← Nat.pow_mul] at this
  exact this
 have HT := mK (fun W (e : Ext w W) => tab_ext ht e)
 replace hbx := mK hbx
 replace hw1 := mK hw1
 replace z0 := mK z0
 replace hE1 := mK hE1
 replace hXb := mK hXb
 clear hrow hcap ht hX
 generalize hXX : X.natAbs = N at *
 replace hXX := mK hXX
 replace hlen := mK hlen
 go_enter Tryz.func53, Tryz.ntmps53
 go_wp2_with (go_at_call 90; rw [← hw1.out]; refine CL.out.mono ?_; rintro e w2 ⟨v4, rfl, hv4, hx⟩; replace hv4 := mK hv4; replace hx := mK hx)
 have st : Dig1 w1 w1.heap.size N N (.slice none 0 0) v4 w2 := ⟨[], by simp [val9], by simp, fun _ h => absurd rfl h, World.ownsRow_nil _ _ _ _, hv4.out, (fun g _ e => by cases e), hlen.out, by simp, hx.out⟩
 replace st := mK st
 clear hv4 hx CL
 go_loopg [3, 4] N (fun k v3 v4 wr => Dig1 w1 w1.heap.size N k v3 v4 wr)
 case atStart => exact st.out
 case round =>
  clear st
  obtain ⟨ps, hsum, hps, hlast, h3, h4, hne, hl, hpn, hEr⟩ := hrel
  obtain ⟨w3, rfl⟩ : ∃ w3 : World, w3 = wr := ⟨_, rfl⟩
  by_cases hk0 : gk = 0
  ·subst hk0
   have hv : N = val9 ps := by rw [hsum]; simp
   obtain ⟨a4, c4, rfl⟩ : ∃ a4 c4, u4 = .slice a4 0 c4 := by
    rcases h4.2 with ⟨e, _⟩ | ⟨g, cap, cur, e, _⟩
    ·exact ⟨_, _, e⟩
    ·exact ⟨_, _, by rw [e, lim_zero]; rfl⟩
   obtain ⟨a3, c3, rfl⟩ : ∃ a3 c3, u3 = .slice a3 ps.length c3 := by
    rcases h3.2 with ⟨e, h⟩ | ⟨g, cap, cur, e, _⟩
    ·refine ⟨none, 0, ?_⟩
     rw [e]
     have : ps.length = 0 := by simpa using h
     rw [this]
    ·exact ⟨some ⟨g, 0, none⟩, cap, by rw [e, List.length_map]⟩
   obtain ⟨hc3, hr3⟩ : ps.length ≤ c3 ∧ Row w3 a3 ((ps.map decDigits).map fun s => Value.string ⟨s.toArray⟩) := by
    obtain ⟨_, _, e3, hc3, hr3⟩ := row_of_owns h3
    rw [List.length_map] at e3 hc3
    cases e3
    exact ⟨hc3, hr3⟩
   replace hr3 := mK hr3
   replace hlast := mK hlast
   replace hpn := mK hpn
   replace hps := mK hps
   replace hEr := mK hEr
   replace hv := mK hv
   clear h3 h4 hne hl hsum
   by_cases hp0 : ps = []
   ·subst hp0
    go_wp2_with fail
    have hX0 : X = 0 := by
     have h1 := hXX.out
     have h2 := hv.out
     simp [val9] at h2
     omega
    subst hX0
    have h48 : itoa 0 = [48] := by
     unfold itoa
     rw [if_neg (by omega), show ((0 : Int).toNat) = 0 from rfl, decDigits_eq, nDigits_small (by omega)]
     rfl
    rw [h48]
    exact ⟨rfl, .string ⟨#[48]⟩, by simp [results], rfl, hE1.out.trans hEr.out⟩
   ·have hpl : 0 < ps.length := List.length_pos_iff.2 hp0
    obtain ⟨b3, o3, rfl⟩ : ∃ b o, a3 = some ⟨b, o, none⟩ := by
     obtain ⟨b, o, e, _⟩ := hr3.out
     exact ⟨b, o, e (by simpa using hp0)⟩
    have c0 : ∀ o, (w3.alloc o).cell? ⟨w.heap.size, 0, none⟩ = some (.bool bx) := fun o => by rw [Lib.cell_of_heap (((xR w3).al o).blk (hEr.out.blk z0.out))]; rfl
    generalize hln : ps.length = ln at *
    replace hln := mK hln
    have hB := mK (Lib.fresh_isBuilder 65 5 w3)
    have hwr : IntKind.i64.wrap ((ln : Int) - 1) = (ln : Int) - 1 := by
     have := hpn.out
     have := hln.out
     rw [IntKind.wrap_i64]
     omega
    obtain ⟨wb, hwb⟩ : ∃ wb, wb = w3.alloc (.cells #[.pointer none, .slice none 0 0] 65) := ⟨_, rfl⟩
    cases bx
    ·go_wp2_with fail
     obtain ⟨sgn, hsg⟩ : ∃ sgn : List UInt8, sgn = [] := ⟨_, rfl⟩
     have hit : sgn ++ txt9 ps = itoa X := by
      have h1 := hbx.out
      have h2 := hXX.out
      rw [hsg, txt9_val ps hp0 hps.out (.inr (hlast.out trivial hp0)), ← hv.out]
      unfold itoa
      rw [if_neg (by simpa using h1), List.nil_append, ← h2, show X.natAbs = X.toNat from (by have : ¬ X < 0 := (by simpa using h1); omega)]
     have hit0 : sgn ++ txt9 ps ≠ [] := by
      rw [hsg, txt9_val ps hp0 hps.out (.inr (hlast.out trivial hp0)), decDigits_eq]
      intro e
      have := congrArg List.length e
      simp at this
      have := nDigits_pos (val9 ps)
      omega
     replace hit := mK hit
     replace hit0 := mK hit0
     have st : Dig2 w3 sgn ps ln (.int .i64 ((ln : Int) - 1)) (w3.alloc (.cells #[.pointer none, .slice none 0 0] 65)) := ⟨rfl, by rw [hln.out]; exact nR _, by rw [hsg, ← hln.out, List.drop_length]; exact hB.out, (xR w3).al _⟩
     replace st := mK st
     replace hsg := mK hsg
     go_loopg [6] ln (fun k v6 wr => Dig2 w3 sgn ps k v6 wr)
     case atStart => exact st.out
     case round =>
      obtain ⟨e6, hk, hb, hx⟩ := hrel
      clear st c0 hB
      by_cases hk0 : gk = 0
      ·subst hk0
       subst e6
       rw [List.drop_zero] at hb
       have BS := mK (Tryz.Builder_String w3.heap.size w3.heap.size _ wr hb hit0.out)
       go_wp2_with (go_at_call 24; refine BS.out.mono ?_; rintro e w5 ⟨rfl, hB5⟩)
       rw [hit.out]
       exact ⟨rfl, .string ⟨(itoa X).toArray⟩, by simp [results], rfl, (hE1.out.trans hEr.out).trans (ext_belowSz hx hB5)⟩
      ·obtain ⟨i, rfl⟩ : ∃ i, gk = i + 1 := ⟨gk - 1, by omega⟩
       rw [show ((i + 1 : Nat) : Int) - 1 = (i : Int) by omega] at e6
       subst e6
       have hrw := hr3.out.ext hx
       have hci := row_str hrw i hk
       have hip : i < ln := by have := hln.out; omega
       obtain ⟨p, hp⟩ : ∃ p, p = ps.getD i 0 := ⟨_, rfl⟩
       rw [← hp] at hci
       have hdr : ps.drop i = p :: ps.drop (i + 1) := by
        rw [hp, List.drop_eq_getElem_cons hk, List.getD_eq_getElem?_getD, List.getElem?_eq_getElem hk]
        rfl
       have hp9 : p < 1000000000 := hps.out p (List.mem_of_mem_drop (i := i) (by rw [hdr]; simp))
       have hn9 := nDigits_nine hp9
       have htl := txt9_len (ps.drop (i + 1)) (fun x hx => hps.out x (List.mem_of_mem_drop hx))
       have hwi : IntKind.i64.wrap ((i : Int) - 1) = (i : Int) - 1 := by
        have := hpn.out
        have := hln.out
        rw [IntKind.wrap_i64]
        omega
       have hsl : sgn.length ≤ 1 := by rw [hsg.out]; simp
       have hbl : (Lib.byteCells (sgn ++ txt9 (ps.drop (i + 1)))).length ≤ 2000000 := by
        have := hpn.out
        have := hln.out
        rw [Lib.byteCells_length, List.length_append]
        simp only [List.length_drop] at htl
        omega
       have hxs := hx.size
       replace hp := mK hp
       replace hdr := mK hdr
       replace hb := mK hb
       replace hbl := mK hbl
       replace hxs := mK hxs
       clear htl hsl
       by_cases hi1 : i + 1 = ln
       ·have d1 : ¬ ((i : Int) < (ln : Int) - 1) := by omega
        go_wp2_with (go_at_call 20; refine (bwrite_c w3.heap.size w3.heap.size _ ⟨(decDigits p).toArray⟩ _ hb.out (by have := hbl.out; rw [str_size, dec_len]; omega) hxs.out).mono ?_; rintro e w6 ⟨rfl, hb6, hB6⟩)
        go_roundg i
        case measure => omega
        case rel =>
         refine ⟨rfl, by omega, .inr ?_, ext_belowSz hx hB6⟩
         have he : ps.drop (i + 1) = [] := List.drop_eq_nil_of_le (by have := hln.out; omega)
         rw [hdr.out, he, txt9, Lib.byteCells_append]
         rw [he, txt9, List.append_nil] at hb6
         exact hb6
       ·have d1 : (i : Int) < (ln : Int) - 1 := by omega
        have hd9 : (decDigits p).length ≤ 9 := by rw [dec_len]; exact hn9
        have hz9 := mK (zeros9 _ hd9)
        have hzs := mK (show ((⟨#[48, 48, 48, 48, 48, 48, 48, 48, 48]⟩ : ByteArray).extract (decDigits p).length 9).size ≤ 9 by rw [← Lib.strCells_length, hz9.out, Lib.byteCells_length, List.length_replicate]; omega)
        have hne9 : ((decDigits p).length : Int) ≤ 9 := by omega
        go_wp2_with (first
         | (go_at_call 20; refine (bwrite_c w3.heap.size w3.heap.size _ _ wr hb.out (by have := hbl.out; have := hzs.out; omega) hxs.out).mono ?_; rintro e w5 ⟨rfl, hb5, hB5⟩; rw [hz9.out] at hb5; replace hb5 := mK hb5; (have hx5 := mK (ext_belowSz hx hB5)); (have hci5 := row_str (hr3.out.ext hx5.out) i hk); rw [← hp.out] at hci5)
         | (go_at_call 20; refine (bwrite_c w3.heap.size w3.heap.size _ ⟨(decDigits p).toArray⟩ w5 (.inr hb5.out) (by have := hbl.out; rw [str_size, dec_len, List.length_append, Lib.byteCells_length (List.replicate _ _), List.length_replicate]; omega) hx5.out.size).mono ?_; rintro e w6 ⟨rfl, hb6, hB6⟩))
        go_roundg i
        case measure => omega
        case rel =>
         refine ⟨rfl, by omega, .inr ?_, ext_belowSz hx5.out hB6⟩
         have he : ps.drop (i + 1) ≠ [] := by
          intro e
          have := List.drop_eq_nil_iff.1 e
          have := hln.out
          omega
         have hcat : Lib.byteCells (sgn ++ txt9 (ps.drop i)) = Lib.byteCells (sgn ++ txt9 (ps.drop (i + 1))) ++ Lib.byteCells (List.replicate (9 - (decDigits p).length) 48) ++ Lib.strCells ⟨(decDigits p).toArray⟩ := by
          rw [hdr.out, txt9_cons p he, nine_eq hp9, dec_len, Lib.strCells_eq]
          simp [Lib.byteCells]
         rw [hcat]
         exact hb6
    ·go_wp2_with (go_at_call 93; refine (bbyte_c w3.heap.size w3.heap.size [] 45 _ hB.out (by simp) (by simp)).mono ?_; rintro e w4 ⟨rfl, hb4, hB4⟩; replace hb4 := mK hb4; replace hB4 := mK hB4)
     obtain ⟨sgn, hsg⟩ : ∃ sgn : List UInt8, sgn = [45] := ⟨_, rfl⟩
     have hit : sgn ++ txt9 ps = itoa X := by
      have h1 := hbx.out
      have h2 := hXX.out
      rw [hsg, txt9_val ps hp0 hps.out (.inr (hlast.out trivial hp0)), ← hv.out]
      unfold itoa
      rw [if_pos (by simpa using h1), ← h2]
      rfl
     have hit0 : sgn ++ txt9 ps ≠ [] := by
      rw [hsg, txt9_val ps hp0 hps.out (.inr (hlast.out trivial hp0)), decDigits_eq]
      intro e
      have := congrArg List.length e
      simp at this
     replace hit := mK hit
     replace hit0 := mK hit0
     have st : Dig2 w3 sgn ps ln (.int .i64 ((ln : Int) - 1)) w4 := ⟨rfl, by rw [hln.out]; exact nR _, .inr (by rw [hsg, ← hln.out, List.drop_length]; exact hb4.out), ext_belowSz ((xR w3).al _) hB4.out⟩
     replace st := mK st
     replace hsg := mK hsg
     go_loopg [6] ln (fun k v6 wr => Dig2 w3 sgn ps k v6 wr)
     case atStart => exact st.out
     case round =>
      obtain ⟨e6, hk, hb, hx⟩ := hrel
      clear st c0 hB hb4 hB4
      by_cases hk0 : gk = 0
      ·subst hk0
       subst e6
       rw [List.drop_zero] at hb
       have BS := mK (Tryz.Builder_String w3.heap.size w3.heap.size _ wr hb hit0.out)
       go_wp2_with (go_at_call 24; refine BS.out.mono ?_; rintro e w5 ⟨rfl, hB5⟩)
       rw [hit.out]
       exact ⟨rfl, .string ⟨(itoa X).toArray⟩, by simp [results], rfl, (hE1.out.trans hEr.out).trans (ext_belowSz hx hB5)⟩
      ·obtain ⟨i, rfl⟩ : ∃ i, gk = i + 1 := ⟨gk - 1, by omega⟩
       rw [show ((i + 1 : Nat) : Int) - 1 = (i : Int) by omega] at e6
       subst e6
       have hrw := hr3.out.ext hx
       have hci := row_str hrw i hk
       have hip : i < ln := by have := hln.out; omega
       obtain ⟨p, hp⟩ : ∃ p, p = ps.getD i 0 := ⟨_, rfl⟩
       rw [← hp] at hci
       have hdr : ps.drop i = p :: ps.drop (i + 1) := by
        rw [hp, List.drop_eq_getElem_cons hk, List.getD_eq_getElem?_getD, List.getElem?_eq_getElem hk]
        rfl
       have hp9 : p < 1000000000 := hps.out p (List.mem_of_mem_drop (i := i) (by rw [hdr]; simp))
       have hn9 := nDigits_nine hp9
       have htl := txt9_len (ps.drop (i + 1)) (fun x hx => hps.out x (List.mem_of_mem_drop hx))
       have hwi : IntKind.i64.wrap ((i : Int) - 1) = (i : Int) - 1 := by
        have := hpn.out
        have := hln.out
        rw [IntKind.wrap_i64]
        omega
       have hsl : sgn.length ≤ 1 := by rw [hsg.out]; simp
       have hbl : (Lib.byteCells (sgn ++ txt9 (ps.drop (i + 1)))).length ≤ 2000000 := by
        have := hpn.out
        have := hln.out
        rw [Lib.byteCells_length, List.length_append]
        simp only [List.length_drop] at htl
        omega
       have hxs := hx.size
       replace hp := mK hp
       replace hdr := mK hdr
       replace hb := mK hb
       replace hbl := mK hbl
       replace hxs := mK hxs
       clear htl hsl
       by_cases hi1 : i + 1 = ln
       ·have d1 : ¬ ((i : Int) < (ln : Int) - 1) := by omega
        go_wp2_with (go_at_call 20; refine (bwrite_c w3.heap.size w3.heap.size _ ⟨(decDigits p).toArray⟩ _ hb.out (by have := hbl.out; rw [str_size, dec_len]; omega) hxs.out).mono ?_; rintro e w6 ⟨rfl, hb6, hB6⟩)
        go_roundg i
        case measure => omega
        case rel =>
         refine ⟨rfl, by omega, .inr ?_, ext_belowSz hx hB6⟩
         have he : ps.drop (i + 1) = [] := List.drop_eq_nil_of_le (by have := hln.out; omega)
         rw [hdr.out, he, txt9, Lib.byteCells_append]
         rw [he, txt9, List.append_nil] at hb6
         exact hb6
       ·have d1 : (i : Int) < (ln : Int) - 1 := by omega
        have hd9 : (decDigits p).length ≤ 9 := by rw [dec_len]; exact hn9
        have hz9 := mK (zeros9 _ hd9)
        have hzs := mK (show ((⟨#[48, 48, 48, 48, 48, 48, 48, 48, 48]⟩ : ByteArray).extract (decDigits p).length 9).size ≤ 9 by rw [← Lib.strCells_length, hz9.out, Lib.byteCells_length, List.length_replicate]; omega)
        have hne9 : ((decDigits p).length : Int) ≤ 9 := by omega
        go_wp2_with (first
         | (go_at_call 20; refine (bwrite_c w3.heap.size w3.heap.size _ _ wr hb.out (by have := hbl.out; have := hzs.out; omega) hxs.out).mono ?_; rintro e w5 ⟨rfl, hb5, hB5⟩; rw [hz9.out] at hb5; replace hb5 := mK hb5; (have hx5 := mK (ext_belowSz hx hB5)); (have hci5 := row_str (hr3.out.ext hx5.out) i hk); rw [← hp.out] at hci5)
         | (go_at_call 20; refine (bwrite_c w3.heap.size w3.heap.size _ ⟨(decDigits p).toArray⟩ w5 (.inr hb5.out) (by have := hbl.out; rw [str_size, dec_len, List.length_append, Lib.byteCells_length (List.replicate _ _), List.length_replicate]; omega) hx5.out.size).mono ?_; rintro e w6 ⟨rfl, hb6, hB6⟩))
        go_roundg i
        case measure => omega
        case rel =>
         refine ⟨rfl, by omega, .inr ?_, ext_belowSz hx5.out hB6⟩
         have he : ps.drop (i + 1) ≠ [] := by
          intro e
          have := List.drop_eq_nil_iff.1 e
          have := hln.out
          omega
         have hcat : Lib.byteCells (sgn ++ txt9 (ps.drop i)) = Lib.byteCells (sgn ++ txt9 (ps.drop (i + 1))) ++ Lib.byteCells (List.replicate (9 - (decDigits p).length) 48) ++ Lib.strCells ⟨(decDigits p).toArray⟩ := by
          rw [hdr.out, txt9_cons p he, nine_eq hp9, dec_len, Lib.strCells_eq]
          simp [Lib.byteCells]
         rw [hcat]
         exact hb6
  ·have hkp : 0 < gk := Nat.pos_of_ne_zero hk0
   have hpb := parts_bound hsum hkp hXb.out
   have hll := lim_pos (show gk ≠ 0 from hk0)
   obtain ⟨g, cap, cur, rfl, hbg, hbb, hle, hcm, _⟩ : ∃ g cap cur, u4 = .slice (some ⟨g, 0, none⟩) (lim gk).length cap ∧ w1.heap.size ≤ g ∧ w3.heap[g]? = some (.cells cur 140 (0, 0)) ∧ (lim gk).length ≤ cap ∧ cap ≤ maxLen ∧ True := by
    rcases h4.2 with ⟨_, h0⟩ | ⟨g, cap, cur, e, h1, h2, h3, h5, _⟩
    ·rw [hll] at h0
     simp at h0
    ·exact ⟨g, cap, cur, e, h1, h2, h3, h5, trivial⟩
   obtain ⟨a3, n3, c3, rfl⟩ : ∃ a3 n3 c3, u3 = .slice a3 n3 c3 := by
    rcases h3.2 with ⟨e, _⟩ | ⟨g, cap, cur, e, _⟩
    ·exact ⟨_, _, _, e⟩
    ·exact ⟨_, _, _, e⟩
   have SH := short_c w1.heap.size g (lim gk).length cap 1000000000 (lim gk) w3 rfl (by omega) (lim_ok _) (by omega) (by omega) h4
   have hne3 := hne g rfl
   have hlk : 0 < (lim gk).length := by rw [hll]; simp
   replace SH := mK SH
   replace h3 := mK h3
   replace hsum := mK hsum
   replace hps := mK hps
   replace hEr := mK hEr
   replace hbg := mK hbg
   replace hll := mK hll
   replace hl := mK hl
   clear hlast h4 hne hbb
   generalize hnk : (lim gk).length = nk at *
   replace hnk := mK hnk
   go_wp2_with (first
    | (go_at_call 92; refine SH.out.mono ?_; rintro e w4 ⟨p, r, rfl, hSh, ho4, hg4⟩; replace hSh := mK hSh; replace ho4 := mK ho4; replace hg4 := mK hg4; (have hr9 := hSh.out.2.2.1); (have hE4 := mK (hEr.out.gr hg4.out (fun k e => by cases e; exact hbg.out))); (have h34 := mK (show StrsO w4 w1.heap.size (.slice a3 n3 c3) (ps.map decDigits) from h3.out.kept hg4.out (.inr hne3))); clear SH h3 hEr)
    | (go_at_call 21; refine (itoa_c r _ (by omega) (HT.out _ (hE1.out.trans hE4.out))).mono ?_; rintro e w5 ⟨rfl, hx5⟩; (have hE5 := mK (hE4.out.trans hx5)); (have h35 := mK (show StrsO w5 w1.heap.size (.slice a3 n3 c3) (ps.map decDigits) from ownsRow_ext h34.out hx5)); (have ho5 := mK (ownsRow_ext ho4.out hx5)); clear hx5 h34 ho4)
    | (at_builtin; refine wpList_append_own_at _ rfl _ _ 78 rfl w1.heap.size 9 i0 (.string ⟨#[]⟩) 1 16 Tryz.underlying78 hi hz0 hz1 hz2 rfl (by decide) _ _ _ rfl (h35.out.alloc _) ⟨w5.heap.size, 0, none⟩ 1 1 [.string ⟨(decDigits r).toArray⟩] rfl rfl ?zc1 ?zc2 ?zc3 ?zc4 ?zc5 ?_; (case zc1 => intro j u hj; rcases j with _ | j; (simp at hj; subst hj; simp [Addr.add]); (simp at hj)); (case zc2 => intro u hu; simp at hu; subst hu; rfl); (case zc3 => have := hlen.out; unfold maxLen; simp; omega); (case zc4 => have := hlen.out; simp; omega); (case zc5 => have := hE5.out.size; simp; omega); intro v6 w6 hown6 hgrow6 _ hloc6; (have hE6 := mK ((hE5.out.al _).gr hgrow6 (fun k e => (h35.out.lt k e).1))); (have ho6 := (ho5.out.alloc _).kept hgrow6 (.inr (fun e => hne3 e.symm))); (have hpl : p.length = nk := hSh.out.1.trans hnk.out); (have hM6 : MagO w6 w1.heap.size (.slice (some ⟨g, 0, none⟩) p.length cap) p := by unfold MagO; rw [hpl]; exact ho6); (have hloc := mK hloc6); (have hgl := mK (ho5.out.lt g rfl).2); (have TR := trim_c (some ⟨g, 0, none⟩) p cap w6 hSh.out.2.1 (by have := hl.out; omega) (by omega) (by obtain ⟨_, _, e, _, hr⟩ := hM6.r; cases e; exact hr)); rw [hpl] at TR; replace TR := mK TR; replace hown6 := mK hown6; replace hM6 := mK hM6; replace hpl := mK hpl; clear hgrow6 hloc6 ho6 h35 ho5 hE5)
    | (go_at_call 91; refine TR.out.mono ?_; rintro e w7 ⟨rfl, rfl⟩))
   have hNN : p.length = (lim gk).length ∧ OkL p ∧ r < 1000000000 ∧ gk = val p * 1000000000 + r := by
    obtain ⟨q1, q2, q3, q4, q5⟩ := hSh.out
    rw [List.drop_zero, List.drop_zero, val_lim] at q5
    exact ⟨q1, q2, q3, q5⟩
   obtain ⟨hq1, hq2, hq3, hq4⟩ := hNN
   have hlt : val p < gk := by omega
   have st2 : Dig1 w1 w1.heap.size N (val p) v6 (.slice (some ⟨g, 0, none⟩) (lim (val p)).length cap) w6 := by
    refine ⟨ps ++ [r], ?_, ?_, ?_, ?_, ?_, ?_, ?_, ?_, hE6.out⟩
    ·rw [val9_snoc, hsum.out, List.length_append, List.length_singleton, Nat.pow_succ, hq4]
     grind
    ·intro x hx
     rcases List.mem_append.1 hx with h | h
     ·exact hps.out x h
     ·simp at h
      omega
    ·intro h0 _
     rw [List.getLastD_concat]
     omega
    ·have h := hown6.out
     unfold StrsO
     rw [List.length_map] at h
     rw [List.map_append, List.map_append, List.length_append, List.length_map]
     exact h
    ·exact MagO.lim hM6.out hq2
    ·intro k hk
     cases hk
     rcases hloc.out with h | h
     ·rw [h]
      exact hne3
     ·rw [h]
      intro e
      have := hgl.out
      simp at e
      omega
    ·exact nT (lim_mono (Nat.le_of_lt hlt)) (by have := hnk.out; have := hl.out; omega)
    ·have := hlen.out
     simp
     omega
   go_roundg (val p)
   case measure => exact hlt
   case rel => exact st2
theorem nDig_le {n k : Nat} (h : n < 2 ^ k) : nDigits n ≤ k + 1 := by
 by_cases hn : n = 0
 ·subst hn
  rw [nDigits_small (by omega)]
  omega
 ·have p := pow_le_nDigits n (by omega)
  have q : 2 ^ (nDigits n - 1) ≤ 10 ^ (nDigits n - 1) := Nat.pow_le_pow_left (by decide) _
  have r : 2 ^ (nDigits n - 1) < 2 ^ k := by omega
  have := (Nat.pow_lt_pow_iff_right (by decide : 1 < 2)).1 r
  omega
theorem itoa_len (X : Int) : (itoa X).length ≤ 32 * nl X + 2 := by
 have hXb : X.natAbs < 2 ^ (32 * (lim X.natAbs).length) := by
  have := val_lt (lim_ok X.natAbs)
  rw [val_lim, show (4294967296 : Nat) = 2 ^ 32 from rfl, ← Nat.pow_mul] at this
  exact this
 have h := nDig_le hXb
 unfold itoa nl
 split
 ·rw [List.length_cons, decDigits_length]
  omega
 ·rw [decDigits_length, show X.toNat = X.natAbs by omega]
  omega
theorem str_cat (a b : List UInt8) : ((⟨a.toArray⟩ : ByteArray) ++ ⟨b.toArray⟩) = ⟨(a ++ b).toArray⟩ := by
 apply ByteArray.ext
 simp
def ratText (x : Rat) : List UInt8 := if x.den = 1 then itoa x.num else itoa x.num ++ 47 :: itoa (x.den : Int)
theorem ratDigits_c (v : Value) (x : Rat) (w : World) (hX : nf x ≤ 65536) (h : FracR w v x) (ht : Tab10 w) :
  Calls Tryz.prog 22 #[v] w fun e w' => e = .returned (.string ⟨(ratText x).toArray⟩) ∧ Ext w w' := by
 have H := h
 obtain ⟨x1, x2, x3, x4, y1, y2, y3, y4, rfl⟩ := h.shape
 have hn : nl x.num ≤ 65536 := nT (Nat.le_max_left _ _) hX
 have hd : nl (x.den : Int) ≤ 65536 := nT (Nat.le_max_right _ _) hX
 have L1 := mK (show ¬ 9223372036854775807 < (itoa x.num).length + 1 by have := itoa_len x.num; omega)
 have L2 := mK (show ¬ 9223372036854775807 < (itoa x.num).length + 1 + (itoa (x.den : Int)).length by have := itoa_len x.num; have := itoa_len (x.den : Int); omega)
 have HN := mK (fun W (e : Ext w W) => digits_c (.agg #[.bool x1, .slice x2 x3 x4]) x.num W hn (H.ext e).num (tab_ext ht e))
 have HD := mK (fun W (e : Ext w W) => digits_c (.agg #[.bool y1, .slice y2 y3 y4]) (x.den : Int) W hd (H.ext e).den (tab_ext ht e))
 have HR := mK (fun W (e : Ext w W) => (H.ext e).den)
 replace hd := mK hd
 clear h H ht hX hn
 go_enter Tryz.func22, Tryz.ntmps22
 go_wp2_with fail
 obtain ⟨wb, hwb⟩ : ∃ wb, wb = w.alloc (.cells #[.bool x1, .slice x2 x3 x4, .bool y1, .slice y2 y3 y4] 52) := ⟨_, rfl⟩
 have hE : Ext w wb := by rw [hwb]; exact (xR w).al _
 have c0 : ∀ W, Ext wb W → W.cell? ⟨w.heap.size, 0, none⟩ = some (.bool x1) := fun W e => e.cell (by rw [hwb]; go_simp)
 have c1 : ∀ W, Ext wb W → W.cell? ⟨w.heap.size, 1, none⟩ = some (.slice x2 x3 x4) := fun W e => e.cell (by rw [hwb]; go_simp)
 replace c0 := mK c0
 replace c1 := mK c1
 have c2 : ∀ W, Ext wb W → W.cell? ⟨w.heap.size, 2, none⟩ = some (.bool y1) := fun W e => e.cell (by rw [hwb]; go_simp)
 have c3 : ∀ W, Ext wb W → W.cell? ⟨w.heap.size, 3, none⟩ = some (.slice y2 y3 y4) := fun W e => e.cell (by rw [hwb]; go_simp)
 have ho := mK (fun w => of_c 1 w (by omega) (by omega))
 rw [← hwb]
 replace hE := mK hE
 clear hwb
 obtain ⟨sg1, hsg1⟩ : ∃ s, s = ((x.den : Int) - 1).sign := ⟨_, rfl⟩
 have hs0 : (sg1 == 0) = decide (x.den = 1) := by
  rw [hsg1, Bool.eq_iff_iff]
  simp only [beq_iff_eq, decide_eq_true_eq, Int.sign_eq_zero_iff_zero]
  omega
 replace hsg1 := mK hsg1
 apply region_ext [.val (.pointer (some ⟨w.heap.size, 2, none⟩)), .val (.agg #[.bool y1, .slice y2 y3 y4]), .pred (fun W v => IntO W 0 v 1), .val (.int .i64 sg1), .val (.bool (sg1 == 0))] (by kernel_rfl) (stable_vals _ (stable_vals _ (st_intO _ _ (stable_vals _ (stable_vals _ trivial)))))
 refine ⟨fun W hW _ => by go_simp; exact xR _, ?_⟩
 refine ⟨fun W hW _ => by have := c2 W hW; have := c3 W hW; go_simp; exact xR _, ?_⟩
 refine ⟨fun W hW _ => ?g0, fun v0 => ?_⟩
 case g0 =>
  go_simp
  refine (ho.out W).mono ?_
  rintro e w' ⟨v, rfl, h1, h2⟩
  exact ⟨v, rfl, h1, h2.mono (Nat.zero_le _)⟩
 refine ⟨fun W hW hF => ?g2, ?_⟩
 case g2 =>
  have h0 : IntO W 0 v0 1 := hF.1 (by kernel_rfl)
  replace h0 := mK h0
  clear hF
  go_simp
  refine (cmp_c _ _ (x.den : Int) 1 W (nT hd.out (by decide)) nl_one (HR.out W (hE.out.trans hW)) h0.out.r).mono ?_
  rintro e w' ⟨rfl, h1⟩
  rw [← hsg1.out]
  exact ⟨rfl, h1⟩
 refine ⟨fun W hW hF => by go_simp; first | exact xR _ | exact ⟨xR _, by simp⟩ | exact ⟨xR _, rfl⟩, fun W hW hF => ?fin⟩
 case fin =>
  clear hF
  have hE2 := hE.out.trans hW
  replace hE2 := mK hE2
  rw [hs0]
  clear hs0
  by_cases hx1 : x.den = 1
  ·have hrt := mK (show ratText x = itoa x.num by simp [ratText, hx1])
   rw [decide_eq_true hx1]
   have d0 := c0.out W hW
   have d1 := c1.out W hW
   clear hx1 c2 c3
   go_simp
   go_wp2_with (go_at_call 53; refine (HN.out _ hE2.out).mono ?_; rintro e w2 ⟨rfl, h2⟩; replace h2 := mK h2)
   go_ret
   rw [hrt.out]
   exact ⟨rfl, hE2.out.trans h2.out⟩
  ·have hrt := mK (show ratText x = itoa x.num ++ 47 :: itoa (x.den : Int) by simp [ratText, hx1])
   rw [decide_eq_false hx1]
   have d0 := mK (fun V (e : Ext W V) => c0.out V (hW.trans e))
   have d1 := mK (fun V (e : Ext W V) => c1.out V (hW.trans e))
   have d2 := mK (fun V (e : Ext W V) => c2 V (hW.trans e))
   have d3 := mK (fun V (e : Ext W V) => c3 V (hW.trans e))
   clear hx1 c2 c3 c0 c1
   go_simp
   go_wp2_with fail
   apply region_ext [.val (.pointer (some ⟨w.heap.size, 0, none⟩)), .val (.agg #[.bool x1, .slice x2 x3 x4]), .val (.string ⟨(itoa x.num).toArray⟩), .val _, .val (.pointer (some ⟨w.heap.size, 2, none⟩)), .val (.agg #[.bool y1, .slice y2 y3 y4]), .val (.string ⟨(itoa (x.den : Int)).toArray⟩), .val _] (by kernel_rfl) (stable_vals _ (stable_vals _ (stable_vals _ (stable_vals _ (stable_vals _ (stable_vals _ (stable_vals _ (stable_vals _ trivial))))))))
   refine ⟨fun V hV _ => by go_simp; exact xR _, ?_⟩
   refine ⟨fun V hV _ => by have := d0.out V hV; have := d1.out V hV; go_simp; exact xR _, ?_⟩
   refine ⟨fun V hV _ => ?n1, ?_⟩
   case n1 =>
    go_simp
    refine (HN.out V (hE2.out.trans hV)).mono ?_
    rintro e w' ⟨rfl, h1⟩
    exact ⟨rfl, h1⟩
   refine ⟨fun V hV _ => by go_simp; rw [if_neg L1.out]; exact ⟨xR _, rfl⟩, ?_⟩
   refine ⟨fun V hV _ => by go_simp; exact xR _, ?_⟩
   refine ⟨fun V hV _ => by have := d2.out V hV; have := d3.out V hV; go_simp; exact xR _, ?_⟩
   refine ⟨fun V hV _ => ?n2, ?_⟩
   case n2 =>
    go_simp
    refine (HD.out V (hE2.out.trans hV)).mono ?_
    rintro e w' ⟨rfl, h1⟩
    exact ⟨rfl, h1⟩
   refine ⟨fun V hV _ => ?n3, fun V hV _ => ?fin2⟩
   case n3 =>
    go_simp
    rw [if_neg L2.out]; exact ⟨xR _, rfl⟩
   case fin2 =>
   have hEV := mK (hE2.out.trans hV)
   clear hV
   go_simp
   go_wp2_with fail
   go_ret
   rw [hrt.out, show (#[47] : Array UInt8) = [47].toArray from rfl, str_cat, str_cat, List.append_assoc]
   exact ⟨rfl, hEV.out⟩
def BuiltAt (lo b : Nat) (p : Value) (bs : List Value) (w : World) : Prop := b < lo ∧ ∃ v, w.heap[b]? = some (.cells #[p, v] 65 (0, 0)) ∧ w.ownsRow lo 5 1 v bs.length bs
def IsBuilt (lo b : Nat) (bs : List Value) (w : World) : Prop := BuiltAt lo b (.pointer none) bs w ∨ BuiltAt lo b (.pointer (some ⟨b, 0, none⟩)) bs w
theorem ownsRow_ge {w : World} {lo E n : Nat} {v : Value} {xs : List Value} (h : w.ownsRow lo E 1 v n xs) : ∀ g, v.ownBlock = some g → lo ≤ g ∧ g < w.heap.size := by
 intro g hg
 rcases h.2 with ⟨e, _⟩ | ⟨k, cap, cur, e, h1, h2, _⟩
 ·rw [e] at hg; cases hg
 ·rw [e] at hg
  cases hg
  exact ⟨h1, (Array.getElem?_eq_some_iff.1 h2).1⟩
theorem BuiltAt.at {lo b : Nat} {p : Value} {bs : List Value} {w : World} (h : BuiltAt lo b p bs w) : Lib.BuilderAt 65 5 b b p bs w := by
 obtain ⟨h1, v, h2, h3⟩ := h
 exact ⟨nR _, v, h2, ownsRow_mono h3 (Nat.le_of_lt h1), fun e => by have := (ownsRow_ge h3 _ e).1; omega⟩
theorem IsBuilt.is {lo b : Nat} {bs : List Value} {w : World} (h : IsBuilt lo b bs w) : Lib.IsBuilder 65 5 b b bs w := by
 rcases h with h | h
 ·exact .inl h.at
 ·exact .inr h.at
theorem BuiltAt.ext {lo b : Nat} {p : Value} {bs : List Value} {w w' : World} (h : BuiltAt lo b p bs w) (e : Ext w w') : BuiltAt lo b p bs w' := by
 obtain ⟨h1, v, h2, h3⟩ := h
 exact ⟨h1, v, e.blk h2, ownsRow_ext h3 e⟩
theorem IsBuilt.ext {lo b : Nat} {bs : List Value} {w w' : World} (h : IsBuilt lo b bs w) (e : Ext w w') : IsBuilt lo b bs w' := by
 rcases h with h | h
 ·exact .inl (h.ext e)
 ·exact .inr (h.ext e)
def bS (b lo k : Nat) : Prop := k = b ∨ lo ≤ k
def Keeps (b : Nat) (w w' : World) : Prop := ∀ (g : Nat) (cs : Array Value) (T : TypeId) (fr : Nat × Nat), g ≠ b → T ≠ 5 → w.heap[g]? = some (.cells cs T fr) → w'.heap[g]? = some (.cells cs T fr)
theorem Keeps.ext {b : Nat} {w w' : World} (e : Ext w w') : Keeps b w w' := fun _ _ _ _ _ _ h => e.blk h
theorem Keeps.trans {b : Nat} {w w' w'' : World} (h : Keeps b w w') (k : Keeps b w' w'') : Keeps b w w'' := fun g cs T fr h1 h2 h3 => k g cs T fr h1 h2 (h g cs T fr h1 h2 h3)
theorem bcheck2 (lo b : Nat) (bs : List Value) (w : World) (h : IsBuilt lo b bs w) :
  Calls Tryz.prog 49 #[.pointer (some ⟨b, 0, none⟩)] w fun e w' => e = .returned (.tuple #[]) ∧ (BuiltAt lo b (.pointer (some ⟨b, 0, none⟩)) bs w' ∧ Chg w w' (· = b)) := by
 rcases h with h | h
 ·refine (bcheck_fresh b w h.at.cell0 h.at.shape h.at.frozen0).mono ?_
  rintro e w' ⟨rfl, rfl⟩
  obtain ⟨h1, v, h2, h3⟩ := h
  have e1 := setCell_eq_setRow w b 0 _ _ _ (.pointer (some ⟨b, 0, none⟩)) h2
  rw [e1]
  refine ⟨rfl, ⟨h1, v, setRow_heap _ _ _ _ _ _ h2, ownsRow_row h3 h1 _⟩, Chg.set w b _⟩
 ·refine (bcheck_used b w h.at.cell0).mono ?_
  rintro e w' ⟨rfl, rfl⟩
  exact ⟨rfl, h, Chg.refl _ _⟩
set_option maxHeartbeats 2000000 in
theorem bwrite2 (lo b : Nat) (bs : List Value) (s : ByteArray) (w : World) (h : IsBuilt lo b bs w) (hlen : bs.length + s.size ≤ 140737488355328) (hlo : lo ≤ w.heap.size) :
  Calls Tryz.prog 20 #[.pointer (some ⟨b, 0, none⟩), .string s] w fun e w' => e = .returned (.tuple #[.int .i64 s.size, .nilIface]) ∧ (IsBuilt lo b (bs ++ Lib.strCells s) w' ∧ Chg w w' (bS b lo) ∧ Keeps b w w') := by
 obtain ⟨i0, hi, hz0, hz1, hz2⟩ := info_parts infoByte
 go_enter Tryz.func20, Tryz.ntmps20
 go_wp2_with (go_at_call 49; refine (bcheck2 lo b bs _ h).mono ?_)
 rintro e w1 ⟨rfl, h1, hb1⟩
 obtain ⟨hB, v, hbk, hown⟩ := h1
 have hne : v.ownBlock ≠ some b := fun e => by have := (ownsRow_ge hown _ e).1; omega
 have c0 : w1.cell? ⟨b, 0, none⟩ = some (.pointer (some ⟨b, 0, none⟩)) := by rw [Lib.cell_of_heap hbk]; rfl
 have c1 : w1.cell? ⟨b, 1, none⟩ = some v := by rw [Lib.cell_of_heap hbk]; rfl
 go_wp2_with (at_builtin; refine Lib.wpList_append_own_string _ rfl _ _ 63 9 rfl lo 5 i0 Tryz.underlying63 Tryz.underlying9 hi hz0 hz1 hz2 _ _ _ rfl hown s rfl ?c3 ?c4 ?c5 ?_)
 case c3 => unfold maxLen; omega
 case c4 => omega
 case c5 => have := hb1.size; omega
 intro v' w2 hown' hgrow _
 have hlt : b < w1.heap.size := (Array.getElem?_eq_some_iff.1 hbk).1
 have hb2 : w2.heap[b]? = some (.cells #[.pointer (some ⟨b, 0, none⟩), v] 65 (0, 0)) := by
  rw [hgrow.block b hlt (fun e => hne e.symm)]
  exact hbk
 have d0 : w2.cell? ⟨b, 0, none⟩ = some (.pointer (some ⟨b, 0, none⟩)) := by rw [Lib.cell_of_heap hb2]; rfl
 have d1 : w2.cell? ⟨b, 1, none⟩ = some v := by rw [Lib.cell_of_heap hb2]; rfl
 have f1 : w2.frozen? ⟨b, 1, none⟩ = false := Lib.frozen_of_heap hb2 1
 obtain ⟨ao, n', cap, rfl⟩ : ∃ ao n' cap, v' = .slice ao n' cap := by
  rcases hown'.2 with ⟨hv, _⟩ | ⟨g, cap, cur, hv, _⟩
  ·exact ⟨_, _, _, hv⟩
  ·exact ⟨_, _, _, hv⟩
 go_wp2
 go_ret2
 have e1 := setCell_eq_setRow w2 b 1 _ _ _ (.slice ao n' cap) hb2
 rw [e1]
 refine ⟨rfl, .inr ⟨hB, _, setRow_heap _ _ _ _ _ _ hb2, ownsRow_row (by simpa [Lib.strCells_length] using hown') hB _⟩, ?_, ?_⟩
 ·exact (hb1.mono fun k _ hk => .inl hk).trans (((Chg.grown hgrow).mono fun k _ hk => .inr (ownsRow_ge hown k hk.symm).1).trans ((Chg.set w2 b _).mono fun k _ hk => .inl hk))
 ·intro g cs T fr hg hT hh
  rw [setRow_other _ _ _ _ hg]
  have hh1 : w1.heap[g]? = some (.cells cs T fr) := (hb1.block g (Array.getElem?_eq_some_iff.1 hh).1 hg).trans hh
  rw [hgrow.block g (Array.getElem?_eq_some_iff.1 hh1).1 fun e => ?_]
  ·exact hh1
  ·rcases hown.2 with ⟨e2, _⟩ | ⟨k, cap, cur, e2, _, h4, _⟩
   ·rw [e2] at e; cases e
   ·rw [e2] at e
    cases e
    rw [h4] at hh1
    cases hh1
    exact hT rfl
theorem built_fresh {w : World} {b lo : Nat} (hb : b < lo) (h : w.heap[b]? = some (.cells #[.pointer none, .slice none 0 0] 65 (0, 0))) : IsBuilt lo b [] w :=
 .inl ⟨hb, _, h, World.ownsRow_nil _ _ _ _⟩
def wordB (kd : Int) : List UInt8 := if kd = 1 then [115, 112, 97, 99, 101] else if kd = 2 then [108, 101, 110, 115] else if kd = 3 then [115, 108, 97, 98] else if kd = 4 then [115, 117, 114, 102, 97, 99, 101] else if kd = 5 then [102, 108, 105, 112] else []
def wordN (kd : Int) : Nat := if kd = 1 then 1 else if kd = 2 then 1 else if kd = 3 then 2 else if kd = 4 then 2 else 0
theorem wordN_le (kd : Int) : wordN kd ≤ 2 := by unfold wordN; split <;> (try split) <;> (try split) <;> (try split) <;> omega
theorem wordB_len (kd : Int) : (wordB kd).length ≤ 7 := by unfold wordB; split <;> (try split) <;> (try split) <;> (try split) <;> (try split) <;> simp
theorem word_c (kd : Int) (w : World) : Calls Tryz.prog 19 #[.int .u8 kd] w fun e w' => e = .returned (.tuple #[.string ⟨(wordB kd).toArray⟩, .int .i64 (wordN kd)]) ∧ w = w' := by
 by_cases h1 : kd = 1
 ·subst h1
  go_enter Tryz.func19, Tryz.ntmps19
  go_wp2_with fail
  go_ret2
  exact ⟨rfl, rfl⟩
 by_cases h2 : kd = 2
 ·subst h2
  go_enter Tryz.func19, Tryz.ntmps19
  go_wp2_with fail
  go_ret2
  exact ⟨rfl, rfl⟩
 by_cases h3 : kd = 3
 ·subst h3
  go_enter Tryz.func19, Tryz.ntmps19
  go_wp2_with fail
  go_ret2
  exact ⟨rfl, rfl⟩
 by_cases h4 : kd = 4
 ·subst h4
  go_enter Tryz.func19, Tryz.ntmps19
  go_wp2_with fail
  go_ret2
  exact ⟨rfl, rfl⟩
 by_cases h5 : kd = 5
 ·subst h5
  go_enter Tryz.func19, Tryz.ntmps19
  go_wp2_with fail
  go_ret2
  exact ⟨rfl, rfl⟩
 have e : wordB kd = [] ∧ wordN kd = 0 := by unfold wordB wordN; simp [h1, h2, h3, h4, h5]
 rw [e.1, e.2]
 have b1 : (kd == 1) = false := by simpa using h1
 have b2 : (kd == 2) = false := by simpa using h2
 have b3 : (kd == 3) = false := by simpa using h3
 have b4 : (kd == 4) = false := by simpa using h4
 have b5 : (kd == 5) = false := by simpa using h5
 clear h1 h2 h3 h4 h5 e
 go_enter Tryz.func19, Tryz.ntmps19
 go_wp2_with fail
 go_ret2
 exact ⟨rfl, rfl⟩
def headB (d : PD) : List UInt8 := d.nm.data.toList ++ 32 :: (itoa d.co ++ 32 :: wordB d.kd)
def fracsB (d : PD) : List Rat := [d.p, d.q].take (wordN d.kd)
def tailB (l : List Rat) : List UInt8 := l.flatMap fun x => 32 :: ratText x
def lineB (d : PD) : List UInt8 := headB d ++ tailB (fracsB d) ++ [10]
def textB (L : List PD) : List UInt8 := L.flatMap lineB
def wordsL (c : UInt8) : List UInt8 → List (List UInt8)
 | [] => [[]]
 | b :: r => if b = c then [] :: wordsL c r else (b :: (wordsL c r).headD []) :: (wordsL c r).tail
theorem wordsL_ne (c : UInt8) (l : List UInt8) : wordsL c l ≠ [] := by
 cases l with
 | nil => simp [wordsL]
 | cons b r => unfold wordsL; split <;> simp
theorem wordsL_hit (c : UInt8) (y : List UInt8) : wordsL c (c :: y) = [] :: wordsL c y := by rw [wordsL, if_pos rfl]
theorem wordsL_miss {b c : UInt8} (h : b ≠ c) (r : List UInt8) : wordsL c (b :: r) = (b :: (wordsL c r).headD []) :: (wordsL c r).tail := by rw [wordsL, if_neg h]
theorem wordsL_none {c : UInt8} : ∀ {x : List UInt8}, c ∉ x → wordsL c x = [x]
 | [], _ => rfl
 | b :: r, h => by
  have hb : b ≠ c := fun e => h (by simp [e])
  have hr : c ∉ r := fun e => h (List.mem_cons_of_mem _ e)
  unfold wordsL
  rw [if_neg hb, wordsL_none hr]
  rfl
theorem wordsL_cons {c : UInt8} {y : List UInt8} : ∀ {x : List UInt8}, c ∉ x → wordsL c (x ++ c :: y) = x :: wordsL c y
 | [], _ => wordsL_hit c y
 | b :: r, h => by
  have hb : b ≠ c := fun e => h (by simp [e])
  have hr : c ∉ r := fun e => h (List.mem_cons_of_mem _ e)
  show wordsL c (b :: (r ++ c :: y)) = _
  rw [wordsL_miss hb, wordsL_cons hr]
  rfl
def joinL (c : UInt8) : List (List UInt8) → List UInt8
 | [] => []
 | [x] => x
 | x :: y :: r => x ++ c :: joinL c (y :: r)
theorem joinL_words (c : UInt8) : ∀ l : List UInt8, joinL c (wordsL c l) = l
 | [] => rfl
 | b :: r => by
  have ih := joinL_words c r
  have hn := wordsL_ne c r
  unfold wordsL
  obtain ⟨x, xs, hx⟩ : ∃ x xs, wordsL c r = x :: xs := by
   cases h : wordsL c r with
   | nil => exact absurd h hn
   | cons x xs => exact ⟨x, xs, rfl⟩
  rw [hx] at ih ⊢
  split
  ·rename_i h
   subst h
   show [] ++ b :: joinL b (x :: xs) = _
   rw [ih]
   rfl
  ·cases xs with
   | nil =>
    simp only [List.headD_cons, List.tail_cons, joinL] at ih ⊢
    rw [ih]
   | cons y ys =>
    simp only [List.headD_cons, List.tail_cons, joinL] at ih ⊢
    rw [List.cons_append, ih]
theorem splitK_eq (c : UInt8) (k : Nat) (l : List UInt8) : splitK [c] 0 (k + 1) (c :: l) = [] :: splitK [c] 0 k l := by
 have hix : index (c :: l) [c] = 0 := by rw [index]; simp [List.isPrefixOf]
 rw [splitK, hix]
 simp
theorem splitK_ne {b c : UInt8} (h : b ≠ c) (k : Nat) (l : List UInt8) : splitK [c] 0 k (b :: l) = (b :: (splitK [c] 0 k l).headD []) :: (splitK [c] 0 k l).tail := by
 cases k with
 | zero => rfl
 | succ k =>
  have hp : ([c] : List UInt8).isPrefixOf (b :: l) = false := by simp [List.isPrefixOf, Ne.symm h]
  have hix : index (b :: l) [c] = if index l [c] == -1 then -1 else index l [c] + 1 := by rw [index, hp]; simp
  by_cases hm : index l [c] = -1
  ·rw [splitK, splitK, hix]
   simp [hm]
  ·have hge := index_ge l [c]
   obtain ⟨j, hj⟩ : ∃ j : Nat, index l [c] = j := ⟨(index l [c]).toNat, by omega⟩
   have hj1 : ((j : Int) == -1) = false := by simp
   have hj2 : ((j : Int) + 1 == -1) = false := by simpa using (by omega : ¬ (j : Int) + 1 = -1)
   rw [splitK, splitK, hix, hj]
   simp only [hj1, hj2, Bool.false_eq_true, if_false]
   rw [show ((j : Int) + 1).toNat = j + 1 by omega, show ((j : Int)).toNat = j by omega]
   simp
theorem splitK_words (c : UInt8) : ∀ (l : List UInt8) (k : Nat), l.count c ≤ k → splitK [c] 0 k l = wordsL c l
 | [], 0, _ => rfl
 | [], k + 1, _ => by
  rw [splitK, if_pos (by simp [index])]
  rfl
 | b :: r, k, h => by
  by_cases hb : b = c
  ·subst hb
   rw [List.count_cons_self] at h
   obtain ⟨k', rfl⟩ : ∃ k', k = k' + 1 := ⟨k - 1, by omega⟩
   rw [splitK_eq, splitK_words b r k' (by omega)]
   conv => rhs; unfold wordsL
   rw [if_pos rfl]
  ·rw [List.count_cons_of_ne (by simpa using hb)] at h
   rw [splitK_ne hb, splitK_words c r k h]
   conv => rhs; unfold wordsL
   rw [if_neg hb]
theorem splitB_words (c : UInt8) (s : ByteArray) : (splitB ⟨#[c]⟩ 0 (countB s ⟨#[c]⟩) s).map (·.data.toList) = wordsL c s.data.toList := by
 rw [splitB_data]
 show splitK [c] 0 (count s.data.toList [c]) s.data.toList = _
 rw [count_one, splitK_words c _ _ (nR _)]
def cutL (c : UInt8) : List UInt8 → Option (List UInt8 × List UInt8)
 | [] => none
 | b :: r => if b = c then some ([], r) else (cutL c r).map fun p => (b :: p.1, p.2)
theorem cutL_hit {c : UInt8} {y : List UInt8} : ∀ {x : List UInt8}, c ∉ x → cutL c (x ++ c :: y) = some (x, y)
 | [], _ => by
  show cutL c (c :: y) = _
  unfold cutL
  rw [if_pos rfl]
 | b :: r, h => by
  have hb : b ≠ c := fun e => h (by simp [e])
  have hr : c ∉ r := fun e => h (List.mem_cons_of_mem _ e)
  show cutL c (b :: (r ++ c :: y)) = _
  unfold cutL
  rw [if_neg hb, cutL_hit hr]
  rfl
theorem cutL_miss {c : UInt8} : ∀ {x : List UInt8}, c ∉ x → cutL c x = none
 | [], _ => rfl
 | b :: r, h => by
  have hb : b ≠ c := fun e => h (by simp [e])
  have hr : c ∉ r := fun e => h (List.mem_cons_of_mem _ e)
  unfold cutL
  rw [if_neg hb, cutL_miss hr]
  rfl
theorem cutL_some {c : UInt8} : ∀ {l x y : List UInt8}, cutL c l = some (x, y) → l = x ++ c :: y ∧ c ∉ x
 | [], x, y, h => by cases h
 | b :: r, x, y, h => by
  unfold cutL at h
  split at h
  ·rename_i hb
   cases h
   exact ⟨by simp [hb], by simp⟩
  ·rename_i hb
   cases hc : cutL c r with
   | none => rw [hc] at h; cases h
   | some p =>
    obtain ⟨x', y'⟩ := p
    rw [hc] at h
    simp only [Option.map_some, Option.some.injEq, Prod.mk.injEq] at h
    obtain ⟨rfl, rfl⟩ := h
    obtain ⟨h1, h2⟩ := cutL_some hc
    refine ⟨by rw [h1]; rfl, ?_⟩
    intro hm
    rcases List.mem_cons.1 hm with e | e
    ·exact hb e.symm
    ·exact h2 e
theorem first_of {c : UInt8} : ∀ {l : List UInt8}, c ∈ l → ∃ x y, l = x ++ c :: y ∧ c ∉ x
 | b :: r, hm => by
  by_cases hb : b = c
  ·exact ⟨[], r, by simp [hb], by simp⟩
  ·have hr : c ∈ r := by
    rcases List.mem_cons.1 hm with e | e
    ·exact absurd e.symm hb
    ·exact e
   obtain ⟨x, y, h1, h2⟩ := first_of hr
   refine ⟨b :: x, y, by rw [h1]; rfl, ?_⟩
   intro hm
   rcases List.mem_cons.1 hm with e | e
   ·exact hb e.symm
   ·exact h2 e
theorem cutL_none {c : UInt8} {l : List UInt8} (h : cutL c l = none) : c ∉ l := by
 intro hm
 obtain ⟨x, y, rfl, hx⟩ := first_of hm
 rw [cutL_hit hx] at h
 cases h
theorem cut_eq (c : UInt8) : ∀ l : List UInt8, cut l [c] = match cutL c l with | some p => (p.1, p.2, true) | none => (l, [], false)
 | [] => by simp [cut, index, cutL]
 | b :: r => by
  have ih := cut_eq c r
  by_cases hb : b = c
  ·subst hb
   have hix : index (b :: r) [b] = 0 := by rw [index]; simp [List.isPrefixOf]
   unfold cut cutL
   rw [hix]
   simp
  ·have hp : ([c] : List UInt8).isPrefixOf (b :: r) = false := by simp [List.isPrefixOf, Ne.symm hb]
   have hix : index (b :: r) [c] = if index r [c] == -1 then -1 else index r [c] + 1 := by rw [index, hp]; simp
   unfold cutL
   rw [if_neg hb]
   by_cases hm : index r [c] = -1
   ·have hn : cutL c r = none := by
     cases hc : cutL c r with
     | none => rfl
     | some p =>
      rw [hc] at ih
      unfold cut at ih
      rw [if_neg (by omega)] at ih
      cases congrArg (fun z => z.2.2) ih
    rw [hn]
    unfold cut
    rw [hix, hm]
    simp
   ·have hge := index_ge r [c]
    obtain ⟨j, hj⟩ : ∃ j : Nat, index r [c] = j := ⟨(index r [c]).toNat, by omega⟩
    have hj1 : ((j : Int) == -1) = false := by simp
    have hix : index (b :: r) [c] = ((j + 1 : Nat) : Int) := by rw [hix, hj, if_neg (by rw [hj1]; simp)]; rfl
    unfold cut at ih ⊢
    rw [hix, if_pos (by omega), show (((j + 1 : Nat) : Int)).toNat = j + 1 by omega]
    rw [hj, if_pos (by omega), show ((j : Int)).toNat = j by omega] at ih
    cases hc : cutL c r with
    | none => rw [hc] at ih; cases congrArg (fun z => z.2.2) ih
    | some p =>
     rw [hc] at ih
     simp only [Prod.mk.injEq, and_true] at ih
     obtain ⟨h1, h2⟩ := ih
     simp only [Option.map_some, ← h1, ← h2]
     simp
/-! Numbers. -/
theorem decFrom_app : ∀ (x y : List UInt8) (a b : Nat), decFrom a x = some b → decFrom a (x ++ y) = decFrom b y
 | [], y, a, b, h => by
  simp only [decFrom, Option.some.injEq] at h
  subst h
  rfl
 | c :: r, y, a, b, h => by
  rw [List.cons_append]
  show (match digitVal c with | some d => decFrom (a * 10 + d) (r ++ y) | none => none) = _
  have h : (match digitVal c with | some d => decFrom (a * 10 + d) r | none => none) = some b := h
  cases hd : digitVal c with
  | none => rw [hd] at h; cases h
  | some d =>
   rw [hd] at h
   exact decFrom_app r y _ b h
theorem digit_of {d : Nat} (h : d < 10) : digitVal (UInt8.ofNat (48 + d)) = some d := by
 have : ∀ d : Fin 10, digitVal (UInt8.ofNat (48 + d.val)) = some d.val := by decide
 exact this ⟨d, h⟩
theorem decFrom_dec (n : Nat) : decFrom 0 (decDigits n) = some n := by
 induction n using Nat.strongRecOn with
 | _ n ih =>
  rw [decDigits]
  by_cases h : n < 10
  ·rw [dif_pos h]
   unfold decFrom
   rw [digit_of h]
   simp [decFrom]
  ·rw [dif_neg h, decFrom_app _ _ _ _ (ih (n / 10) (by omega))]
   unfold decFrom
   rw [digit_of (by omega)]
   simp only [decFrom]
   congr 1
   omega
theorem digit_back {b : UInt8} {d : Nat} (h : digitVal b = some d) : d < 10 ∧ UInt8.ofNat (48 + d) = b := by
 obtain ⟨h1, h2, rfl⟩ := digitVal_eq h
 refine ⟨by omega, ?_⟩
 rw [show 48 + (b.toNat - 48) = b.toNat by omega]
 simp
theorem dec_of_from : ∀ (k : Nat) (l : List UInt8), l.length = k → ∀ n, decFrom 0 l = some n → l ≠ [] → (l.head? ≠ some 48 ∨ l.length = 1) → decDigits n = l ∧ (l.head? ≠ some 48 → 0 < n)
 | 0, l, hk, n, _, h0, _ => absurd (List.eq_nil_of_length_eq_zero hk) h0
 | k + 1, l, hk, n, h, h0, hh => by
  obtain ⟨x, b, rfl⟩ : ∃ x b, l = x ++ [b] := ⟨l.dropLast, l.getLast h0, (List.dropLast_concat_getLast h0).symm⟩
  rw [List.length_append, List.length_singleton] at hk hh
  obtain ⟨m, hm⟩ := decFrom_prefix _ _ _ h x.length
  rw [List.take_left] at hm
  rw [decFrom_app _ _ _ _ hm] at h
  unfold decFrom at h
  cases hd : digitVal b with
  | none => rw [hd] at h; cases h
  | some d =>
   rw [hd] at h
   simp only [decFrom, Option.some.injEq] at h
   obtain ⟨h1, h2⟩ := digit_back hd
   subst h
   by_cases hx : x = []
   ·subst hx
    simp only [decFrom, Option.some.injEq] at hm
    subst hm
    rw [decDigits, dif_pos (by omega)]
    refine ⟨by simp [h2], fun e => ?_⟩
    rcases Nat.eq_zero_or_pos d with e0 | e0
    ·subst e0
     exact absurd (by rw [← h2]; rfl) e
    ·omega
   ·have hxh : x.head? = (x ++ [b]).head? := by
     cases x with
     | nil => exact absurd rfl hx
     | cons a r => rfl
    have hx48 : x.head? ≠ some 48 := by
     rw [hxh]
     rcases hh with hh | hh
     ·exact hh
     ·have := List.length_pos_iff.2 hx
      omega
    obtain ⟨i1, i2⟩ := dec_of_from k x (by omega) m hm hx (.inl hx48)
    have hm0 := i2 hx48
    rw [decDigits, dif_neg (by omega), show (m * 10 + d) / 10 = m by omega, show (m * 10 + d) % 10 = d by omega, i1, h2]
    exact ⟨rfl, fun _ => by omega⟩
theorem dec_ne (n : Nat) : decDigits n ≠ [] := fun e => by
 have := congrArg List.length e
 rw [decDigits_length] at this
 have := nDigits_pos n
 simp at *
 omega
theorem dec_head45 (n : Nat) : (decDigits n).head? ≠ some 45 := by
 intro h
 cases hd : decDigits n with
 | nil => rw [hd] at h; cases h
 | cons b r =>
  rw [hd] at h
  cases h
  have h1 := decFrom_dec n
  rw [hd] at h1
  unfold decFrom at h1
  have : digitVal 45 = none := by decide
  rw [this] at h1
  cases h1
theorem dec_head48 {n : Nat} (h : (decDigits n).head? = some 48) : n = 0 := by
 rcases Nat.eq_zero_or_pos n with e | e
 ·exact e
 ·obtain ⟨x, r, h1, h2⟩ := dec_head n e
  rw [h1] at h
  cases h
  exact absurd rfl h2
theorem itoa_parts (X : Int) : bodyI (itoa X) = decDigits X.natAbs ∧ negI (itoa X) = decide (X < 0) := by
 unfold itoa
 by_cases h : X < 0
 ·rw [if_pos h]
  simp [bodyI, negI, h]
 ·rw [if_neg h, show X.toNat = X.natAbs by omega]
  have := dec_head45 X.natAbs
  simp [bodyI, negI, this, h]
theorem readI_itoa (X : Int) : readI (itoa X) = some X := by
 obtain ⟨h1, h2⟩ := itoa_parts X
 unfold readI badI
 rw [h1, h2, decFrom_dec]
 have hn := dec_ne X.natAbs
 have hb : (decide (decDigits X.natAbs = []) || decide ((decDigits X.natAbs).head? = some 48) && (decide (1 < (decDigits X.natAbs).length) || decide (X < 0))) = false := by
  rw [decide_eq_false hn, Bool.false_or]
  by_cases h : (decDigits X.natAbs).head? = some 48
  ·have h0 := dec_head48 h
   have : X = 0 := by omega
   subst this
   have e0 : decDigits (Int.natAbs 0) = [48] := by rw [decDigits, dif_pos (by decide)]; rfl
   rw [e0]
   decide
  ·rw [decide_eq_false h, Bool.false_and]
 rw [hb]
 simp only [Bool.false_eq_true, if_false, Option.map_some]
 congr 1
 unfold sg
 by_cases h : X < 0
 ·rw [decide_eq_true h]
  simp
  omega
 ·rw [decide_eq_false h]
  simp
  omega
theorem itoa_readI {s : List UInt8} {X : Int} (h : readI s = some X) : itoa X = s := by
 unfold readI at h
 split at h
 ·cases h
 ·rename_i hb
  have hb : badI s = false := by simpa using hb
  cases hd : decFrom 0 (bodyI s) with
  | none => rw [hd] at h; cases h
  | some n =>
   rw [hd] at h
   simp only [Option.map_some, Option.some.injEq] at h
   unfold badI at hb
   simp only [Bool.or_eq_false_iff, Bool.and_eq_false_iff, decide_eq_false_iff_not] at hb
   obtain ⟨b1, b2⟩ := hb
   have hc : (bodyI s).head? ≠ some 48 ∨ (bodyI s).length = 1 := by
    rcases b2 with b2 | b2
    ·exact .inl b2
    ·refine .inr ?_
     have := List.length_pos_iff.2 b1
     omega
   obtain ⟨d1, d2⟩ := dec_of_from _ _ rfl n hd b1 hc
   unfold sg at h
   by_cases hs : s.head? = some 45
   ·have hneg : negI s = true := by simp [negI, hs]
    rw [hneg] at h b2
    have hbody : s = 45 :: bodyI s := by
     cases s with
     | nil => cases hs
     | cons c r =>
      cases hs
      rfl
    have hn0 : 0 < n := by
     refine d2 ?_
     rcases b2 with b2 | b2
     ·exact b2
     ·cases b2.2
    simp only [if_true] at h
    subst h
    unfold itoa
    rw [if_pos (by omega), show (-(n : Int)).natAbs = n by omega, d1, ← hbody]
   ·have hneg : negI s = false := by simp [negI, hs]
    rw [hneg] at h
    have hbody : s = bodyI s := by simp [bodyI, hs]
    simp only [Bool.false_eq_true, if_false] at h
    subst h
    unfold itoa
    rw [if_neg (by omega), show ((n : Int)).toNat = n by omega, d1, ← hbody]
theorem itoa_free {X : Int} {c : UInt8} (h1 : c ≠ 45) (h2 : digitVal c = none) : c ∉ itoa X := by
 have hd : ∀ n, c ∉ decDigits n := fun n hm => by
  obtain ⟨k, hk⟩ := List.getElem?_of_mem hm
  obtain ⟨d, hd⟩ := digit_of_decFrom _ _ _ (decFrom_dec n) k c hk
  rw [h2] at hd
  cases hd
 unfold itoa
 split
 ·intro hm
  rcases List.mem_cons.1 hm with e | e
  ·exact h1 e
  ·exact hd _ e
 ·exact hd _
/-! Fractions. -/
def readF (s : List UInt8) : Option Rat :=
 match cutL 47 s with
 | none => (readI s).map fun (n : Int) => (n : Rat)
 | some p => match readI p.1, readI p.2 with
  | some n, some d => if 1 < d ∧ Int.gcd n d = 1 then some (Rat.divInt n d) else none
  | _, _ => none
theorem rat_parts {n d : Int} (hd : 0 < d) (hg : Int.gcd n d = 1) : (Rat.divInt n d).num = n ∧ ((Rat.divInt n d).den : Int) = d := by
 obtain ⟨k, rfl⟩ : ∃ k : Nat, d = (k : Int) := ⟨d.toNat, by omega⟩
 have hk : k ≠ 0 := by omega
 have hc : n.natAbs.Coprime k := by
  have : Int.gcd n (k : Int) = Nat.gcd n.natAbs k := by simp [Int.gcd]
  rw [this] at hg
  exact hg
 have e : Rat.divInt n (k : Int) = ⟨n, k, hk, hc⟩ := by
  rw [Rat.divInt_ofNat]
  exact (Rat.mk_eq_mkRat n k hk hc).symm
 rw [e]
 exact ⟨rfl, rfl⟩
theorem readF_text (x : Rat) : readF (ratText x) = some x := by
 have h47 : digitVal 47 = none := by decide
 have hf : (47 : UInt8) ∉ itoa x.num := itoa_free (by decide) h47
 unfold readF ratText
 by_cases h : x.den = 1
 ·rw [if_pos h, cutL_miss hf]
  simp only [readI_itoa, Option.map_some]
  congr 1
  apply Rat.ext
  ·simp
  ·simp [h]
 ·rw [if_neg h, cutL_hit hf]
  simp only [readI_itoa]
  have hp := x.den_pos
  have hg : Int.gcd x.num (x.den : Int) = 1 := by
   have := x.reduced
   unfold Int.gcd
   simpa using this
  rw [if_pos ⟨by omega, hg⟩]
  congr 1
  have := Rat.num_divInt_den x
  exact this
theorem text_readF {s : List UInt8} {x : Rat} (h : readF s = some x) : ratText x = s := by
 unfold readF at h
 cases hc : cutL 47 s with
 | none =>
  rw [hc] at h
  simp only at h
  cases hr : readI s with
  | none => rw [hr] at h; cases h
  | some n =>
   rw [hr] at h
   simp only [Option.map_some, Option.some.injEq] at h
   subst h
   unfold ratText
   rw [if_pos (by simp)]
   have := itoa_readI hr
   simpa using this
 | some p =>
  rw [hc] at h
  simp only at h
  obtain ⟨f, b⟩ := p
  cases hr : readI f with
  | none => rw [hr] at h; cases h
  | some n =>
   cases hq : readI b with
   | none => rw [hr, hq] at h; cases h
   | some d =>
    rw [hr, hq] at h
    simp only at h
    split at h
    ·rename_i hd
     cases h
     obtain ⟨e1, e2⟩ := rat_parts (by omega) hd.2
     unfold ratText
     rw [if_neg (by omega), e1, e2, itoa_readI hr, itoa_readI hq]
     exact (cutL_some hc).1.symm
    ·cases h
end Go.Proofs.YtjelnmokcpoofaaGreatDoor
namespace Go.Proofs.YtjelnmokcpoofaaGreatDoor
set_option maxRecDepth 100000
open Go Go.RowKit Go.Proofs
theorem nameC_iff (c : UInt8) : nameC c = true ↔ (97 ≤ c.toNat ∧ c.toNat ≤ 122) ∨ (48 ≤ c.toNat ∧ c.toNat ≤ 57) ∨ c.toNat = 45 := by
 unfold nameC
 simp only [Bool.or_eq_true, Bool.and_eq_true, decide_eq_true_eq, beq_iff_eq]
 omega
theorem take_snocB (s : ByteArray) (k : Nat) (h : k < s.size) : s.data.toList.take (k + 1) = s.data.toList.take k ++ [s[k]] := by
 rw [List.take_succ_eq_append_getElem (by simpa using h)]; rfl
theorem nameB_first (s : ByteArray) (c1 : 0 < s.size) : nameB s.data.toList = (decide (s.size ≤ 32) && (decide (97 ≤ s[0].toNat) && (decide (s[0].toNat ≤ 122) && s.data.toList.all nameC))) := by
 have hsz : s.data.toList.length = s.size := Array.length_toList
 have hd : s.data.toList.headD 0 = s[0] := by
  obtain ⟨⟨l⟩⟩ := s
  cases l with
  | nil => simp [ByteArray.size] at c1
  | cons a l => rfl
 unfold nameB
 rw [hsz, hd]
 simp [c1]
set_option maxHeartbeats 800000 in
theorem rName_c (s : ByteArray) (w : World) (hs : s.size ≤ 9223372036854775807) :
  Calls Tryz.prog 45 #[.string s] w fun e w' => e = .returned (.bool (nameB s.data.toList)) ∧ Ext w w' := by
 by_cases c1 : 0 < s.size
 ·rw [nameB_first s c1]
  by_cases c2 : s.size ≤ 32
  ·by_cases c3 : 97 ≤ s[0].toNat
   ·by_cases c4 : s[0].toNat ≤ 122
    ·have ev : (decide (s.size ≤ 32) && (decide (97 ≤ s[0].toNat) && (decide (s[0].toNat ≤ 122) && s.data.toList.all nameC))) = s.data.toList.all nameC := by simp [c2, c3, c4]
     rw [ev]
     clear ev
     obtain ⟨B, hB⟩ : ∃ B : Bool, s.data.toList.all nameC = B := ⟨_, rfl⟩
     rw [hB]
     replace hB := mK hB
     go_enter Tryz.func45, Tryz.ntmps45
     go_wp2_with fail
     go_loop [3, 4, 5] (fun i _ _ => ∃ k : Nat, k ≤ s.size ∧ i = .int .i64 k ∧ (s.data.toList.take k).all nameC = true) (fun i _ _ => s.size - (intOf i).toNat)
     case atStart => exact ⟨0, Nat.zero_le _, rfl, rfl⟩
     case round =>
      obtain ⟨k, hk, rfl, hall⟩ := hrel
      by_cases hlt : k < s.size
      ·have hn := nameC_iff s[k]
       have hsn := take_snocB s k hlt
       have hno : nameC s[k] = false → B = false := fun h => by
        rw [← hB.out, Bool.eq_false_iff]
        intro h2
        have := List.all_eq_true.1 h2 s[k] (by rw [← Array.mem_def]; exact Array.getElem_mem (by simpa using hlt))
        rw [h] at this
        cases this
       have hyes : nameC s[k] = true → (s.data.toList.take (k + 1)).all nameC = true := fun h => by rw [hsn, List.all_append, hall]; simp [h]
       replace hall := mK hall
       clear hsn
       have hcase : (s[k].toNat < 45) ∨ s[k].toNat = 45 ∨ (45 < s[k].toNat ∧ s[k].toNat < 48) ∨ (48 ≤ s[k].toNat ∧ s[k].toNat ≤ 57) ∨ (58 ≤ s[k].toNat ∧ s[k].toNat < 97) ∨ (97 ≤ s[k].toNat ∧ s[k].toNat ≤ 122) ∨ (122 < s[k].toNat) := by omega
       cases hb : nameC s[k]
       ·have hno := mK (hno hb)
        rw [hb] at hn
        clear hyes hb
        have h45 : ((s[k].toNat : Int) != 45) = true := by
         have : s[k].toNat ≠ 45 := fun e => by have := hn.2 (by omega); cases this
         simp only [bne_iff_ne, ne_eq]
         omega
        rcases hcase with h | h | h | h | h | h | h
        all_goals first | (exfalso; have := hn.2 (by omega); cases this) | skip
        all_goals
         clear hn
         go_wp2_with fail
         all_goals first
          | ((go_ret); (exact ⟨by have := hno.out; subst this; rfl, xR _⟩))
          | ((exfalso); (rename_i hx); (have n45 : (s[k].toNat : Int) ≠ 45 := by simpa using h45); (simp at hx); (omega))
       ·have hyes := mK (hyes hb)
        rw [hb] at hn
        clear hno hb
        rcases hcase with h | h | h | h | h | h | h
        all_goals first | (exfalso; have := hn.1 rfl; omega) | skip
        all_goals
         clear hn
         go_wp2_with fail
         all_goals first
          | exact ⟨⟨k + 1, by omega, by go_num, hyes.out⟩, by simp [intOf]; omega⟩
          | ((go_round); case rel => (exact ⟨k + 1, by omega, by go_num, hyes.out⟩); case measure => (simp [intOf]; omega))
      ·have hk2 : k = s.size := by omega
       subst hk2
       have hsz : s.data.toList.length = s.size := Array.length_toList
       rw [List.take_of_length_le (by omega), hB.out] at hall
       replace hall := mK hall
       clear hsz
       go_wp2_with fail
       go_ret
       exact ⟨by have := hall.out; subst this; rfl, xR _⟩
    ·go_enter Tryz.func45, Tryz.ntmps45
     go_wp2_with fail
     go_ret
     exact ⟨by simp [c4], xR _⟩
   ·go_enter Tryz.func45, Tryz.ntmps45
    go_wp2_with fail
    go_ret
    exact ⟨by first | simp | simp [c3], xR _⟩
  ·go_enter Tryz.func45, Tryz.ntmps45
   go_wp2_with fail
   go_ret
   exact ⟨by first | simp | simp [c2], xR _⟩
 ·have hsz : s.data.toList.length = s.size := Array.length_toList
  have ev : nameB s.data.toList = false := by unfold nameB; rw [hsz]; simp [c1]
  rw [ev]
  clear ev hsz
  go_enter Tryz.func45, Tryz.ntmps45
  go_wp2_with fail
  go_ret
  exact ⟨rfl, xR _⟩
theorem nf_none : nf 0 ≤ 2048 := by unfold nf; rw [show (0 : Rat).num = 0 from rfl, show (((0 : Rat).den : Nat) : Int) = 1 from rfl]; unfold nl; rw [show (1 : Int).natAbs = 1 from rfl, show (0 : Int).natAbs = 0 from rfl, lim_zero, lim_one (by omega) (by omega)]; decide
def Max0 (w : World) : Prop := ∃ m : Int, w.cell? ⟨0, 0, none⟩ = some (.int .i64 m)
theorem Max0.ext {w w' : World} (h : Max0 w) (e : Ext w w') : Max0 w' := by
 obtain ⟨m, hm⟩ := h
 exact ⟨m, e.cell hm⟩
/-! The library's Cut at one byte. -/
theorem cut_hit (c : UInt8) (s : ByteArray) (W : World) (hs : s.size < 4294967281) (hm : Max0 W) {x y : List UInt8} (h : cutL c s.data.toList = some (x, y)) :
  Calls Tryz.prog 15 #[.string s, .string ⟨#[c]⟩] W fun e w' => e = .returned (.tuple #[.string ⟨x.toArray⟩, .string ⟨y.toArray⟩, .bool true]) ∧ Ext W w' := by
 obtain ⟨m, hm⟩ := hm
 refine (Tryz.strings_Cut s ⟨#[c]⟩ m W hs hm).mono ?_
 rintro e w' ⟨rfl, n, rfl⟩
 have e2 : Lib.cut s.data.toList (⟨#[c]⟩ : ByteArray).data.toList = (x, y, true) := by
  show Lib.cut s.data.toList [c] = _
  rw [cut_eq, h]
 rw [e2]
 exact ⟨rfl, (xR W).drN n⟩
theorem str_mk (s : ByteArray) : (⟨s.data.toList.toArray⟩ : ByteArray) = s := by
 apply ByteArray.ext
 simp
theorem cut_miss (c : UInt8) (s : ByteArray) (W : World) (hs : s.size < 4294967281) (hm : Max0 W) (h : cutL c s.data.toList = none) :
  Calls Tryz.prog 15 #[.string s, .string ⟨#[c]⟩] W fun e w' => e = .returned (.tuple #[.string s, .string ⟨#[]⟩, .bool false]) ∧ Ext W w' := by
 obtain ⟨m, hm⟩ := hm
 refine (Tryz.strings_Cut s ⟨#[c]⟩ m W hs hm).mono ?_
 rintro e w' ⟨rfl, n, rfl⟩
 have e2 : Lib.cut s.data.toList (⟨#[c]⟩ : ByteArray).data.toList = (s.data.toList, [], false) := by
  show Lib.cut s.data.toList [c] = _
  rw [cut_eq, h]
 rw [e2]
 simp only [str_mk]
 exact ⟨trivial, (xR W).drN n⟩
/-! Whole, answered. -/
set_option maxHeartbeats 1600000 in
theorem whole_o (v : Value) (X : Int) (b : Nat) (w : World) (h : IntO w b v X) (hb : b ≤ w.heap.size) :
  Calls Tryz.prog 126 #[v] w fun e w' => ∃ f : FV, e = .returned (.agg #[.bool f.b1, .slice f.a1 f.n1 f.c1, .bool f.b2, .slice f.a2 f.n2 f.c2]) ∧ Ext w w' ∧ FracO w' b (.agg #[.bool f.b1, .slice f.a1 f.n1 f.c1, .bool f.b2, .slice f.a2 f.n2 f.c2]) (X : Rat) := by
 have H := h
 obtain ⟨p, q, r, s, rfl⟩ := h.r.shape
 have ho := mK (fun w => of_c 1 w (by omega) (by omega))
 obtain ⟨wb, hwb⟩ : ∃ wb, wb = (w.alloc (.cells #[.bool p, .slice q r s] 50)).alloc (.cells #[.bool false, .slice none 0 0, .bool false, .slice none 0 0] 52) := ⟨_, rfl⟩
 have hE : Ext w wb := by rw [hwb]; exact ((xR w).al _).al _
 have c0 : ∀ W, Ext wb W → W.cell? ⟨w.heap.size, 0, none⟩ = some (.bool p) := fun W e => e.cell (by rw [hwb]; go_simp)
 have c1 : ∀ W, Ext wb W → W.cell? ⟨w.heap.size, 1, none⟩ = some (.slice q r s) := fun W e => e.cell (by rw [hwb]; go_simp)
 have hB := mK (fun W (e : Ext wb W) => (e.blk (show wb.heap[w.heap.size + 1]? = some (.cells #[.bool false, .slice none 0 0, .bool false, .slice none 0 0] 52 (0, 0)) by rw [hwb]; exact heap_at _ _ _ (by simp))))
 have hsz : w.heap.size + 2 ≤ wb.heap.size := by rw [hwb]; simp
 have h0 := mK (fun k (hk : k ∈ Aloof.blks (.agg #[.bool p, .slice q r s])) => (h.span k hk).2)
 replace H := mK (H.ext hE)
 replace hE := mK hE
 clear h
 go_enter Tryz.func126, Tryz.ntmps126
 go_wp2_with fail
 rw [← hwb]
 clear hwb
 apply region_ext [.val (.agg #[.bool p, .slice q r s]), .pred (fun W v => IntO W (w.heap.size + 2) v 1)] (by kernel_rfl) (stable_vals _ (st_intO _ _ trivial))
 refine ⟨fun W hW _ => by have := c0 W hW; have := c1 W hW; go_simp; first | exact ⟨xR _, rfl⟩ | exact xR _, ?_⟩
 refine ⟨fun W hW hF => ?g1, fun v1 => fun W hW hF => ?fin⟩
 case g1 =>
  clear hF
  go_simp
  refine (ho.out W).mono ?_
  rintro e w' ⟨v, rfl, h1, h2⟩
  exact ⟨v, rfl, h1, h2.mono (nT hsz hW.size)⟩
 case fin =>
  have d1 : IntO W (w.heap.size + 2) v1 1 := hF.1 rfl
  obtain ⟨y1, y2, y3, y4, rfl⟩ := d1.r.shape
  have HX : IntO W b (.agg #[.bool p, .slice q r s]) X := H.out.ext hW
  have R : FracO (W.setRow (w.heap.size + 1) #[.bool p, .slice q r s, .bool y1, .slice y2 y3 y4]) b (.agg #[.bool p, .slice q r s, .bool y1, .slice y2 y3 y4]) (X : Rat) := by
   refine ⟨_, _, _, _, _, _, _, _, rfl, ?_, ?_⟩
   ·rw [Rat.num_intCast]
    refine HX.near fun k hk => ?_
    rw [setRow_other _ _ _ _ ?_]
    intro e
    have := (h0.out k hk)
    omega
   ·rw [Rat.den_intCast]
    exact (d1.row (g := w.heap.size + 1) (by omega) _).mono (by omega)
  have hBW := hB.out W hW
  have FE := (hE.out.trans hW).row (show w.heap.size ≤ w.heap.size + 1 by omega) #[.bool p, .slice q r s, .bool y1, .slice y2 y3 y4]
  replace R := mK R
  replace FE := mK FE
  clear hF c0 c1 hW HX d1
  go_simp
  go_wp2_with (refine wpList_store_row rfl 52 (.tmp 2) (.tmp 5) rfl (w.heap.size + 1) #[.bool p, .slice q r s, .bool y1, .slice y2 y3 y4] rfl rfl 52 _ hBW (by kernel_rfl) rfl (by kernel_rfl) ?_)
  exact bodyPost_ret (results_cell_row rfl _ _ (w.heap.size + 1) 52 #[.bool p, .slice q r s, .bool y1, .slice y2 y3 y4] (0, 0) _ rfl (setRow_heap _ _ _ _ _ _ hBW) Tryz.underlying52 rfl (by kernel_rfl)) rfl ⟨⟨p, q, r, s, y1, y2, y3, y4⟩, rfl, FE.out, R.out⟩
def AnsQ (w : World) (x : Rat) (e : Ending) (w' : World) : Prop := ∃ f : FV, e = .returned (.tuple #[.agg #[.bool f.b1, .slice f.a1 f.n1 f.c1, .bool f.b2, .slice f.a2 f.n2 f.c2], .int .i64 (capE x)]) ∧ Ext w w' ∧ (nf x ≤ 2048 → FracO w' w.heap.size (.agg #[.bool f.b1, .slice f.a1 f.n1 f.c1, .bool f.b2, .slice f.a2 f.n2 f.c2]) x)
set_option maxHeartbeats 1600000 in
theorem answered_o (v : Value) (x : Rat) (w : World) (hx : nf x ≤ 268435456) (h : FracR w v x) :
  Calls Tryz.prog 77 #[v] w (AnsQ w x) := by
 have H := h
 obtain ⟨p1, q1, r1, s1, p2, q2, r2, s2, rfl⟩ := h.shape
 have ha := mK (fun w gg (hg : LR w gg [x]) => answer_f gg 1 [x] w (by simp) (fun y hy => by simp at hy; subst hy; omega) hg)
 have hc := mK (fun w h => copy_f (.agg #[.bool p1, .slice q1 r1 s1, .bool p2, .slice q2 r2 s2]) x w hx h)
 simp only [List.any_cons, List.any_nil, Bool.or_false, decide_eq_true_eq] at ha
 obtain ⟨w3, hw3⟩ : ∃ w3, w3 = ((w.alloc (.cells #[.bool p1, .slice q1 r1 s1, .bool p2, .slice q2 r2 s2] 52)).alloc (.cells #[.bool false, .slice none 0 0, .bool false, .slice none 0 0] 52)).alloc (.cells #[.bool p1, .slice q1 r1 s1, .bool p2, .slice q2 r2 s2] 52) := ⟨_, rfl⟩
 have hE : Ext w w3 := by rw [hw3]; exact (((xR w).al _).al _).al _
 have z0 : w3.heap[w.heap.size]? = some (.cells #[.bool p1, .slice q1 r1 s1, .bool p2, .slice q2 r2 s2] 52 (0, 0)) := by rw [hw3]; exact (heap_alloc_old _ _ (by simp; omega)).trans ((heap_alloc_old _ _ (by simp)).trans (heap_alloc_new _ _))
 have z1 : w3.heap[w.heap.size + 1]? = some (.cells #[.bool false, .slice none 0 0, .bool false, .slice none 0 0] 52 (0, 0)) := by rw [hw3]; exact (heap_alloc_old _ _ (by simp)).trans (heap_at _ _ _ (by simp))
 have z2 : w3.heap[w.heap.size + 1 + 1]? = some (.cells #[.bool p1, .slice q1 r1 s1, .bool p2, .slice q2 r2 s2] 52 (0, 0)) := by rw [hw3]; exact heap_at _ _ _ (by simp)
 replace H := H.ext hE
 replace ha := mK (ha.out w3 _ (lr_one z2 H))
 rw [List.length_singleton] at ha
 replace H := mK H
 replace hE := mK hE
 replace z0 := mK z0
 replace z1 := mK z1
 clear h z2
 by_cases hl : nf x ≤ 2048
 ·have hcp : capE x = 0 := by unfold capE; rw [if_pos hl]
  rw [if_neg (show ¬ 2048 < nf x by omega)] at ha
  go_enter Tryz.func77, Tryz.ntmps77
  go_wp2_with fail
  rw [← hw3]
  clear hw3
  replace hcp := mK hcp
  refine ha.out.mono ?_
  rintro e w4 ⟨rfl, hE4⟩
  have b0 := row4_cells (hE4.blk z0.out)
  replace z1 := mK (hE4.blk z1.out)
  have hz4 : w.heap.size + 2 ≤ w4.heap.size := (Array.getElem?_eq_some_iff.1 z1.out).1
  replace H := mK (H.out.ext hE4)
  replace hE := mK (hE.out.trans hE4)
  clear hE4 ha
  go_wp2_with fail
  refine (hc.out w4 H.out).mono ?_
  rintro e w5 ⟨v, rfl, hE5, hv⟩
  obtain ⟨x1, x2, x3, x4, y1, y2, y3, y4, rfl⟩ := hv.r.shape
  replace z1 := hE5.blk z1.out
  have FR := (hv.row (g := w.heap.size + 1) (by omega) #[.bool x1, .slice x2 x3 x4, .bool y1, .slice y2 y3 y4]).mono (show w.heap.size ≤ w4.heap.size by omega)
  have FE := (hE.out.trans hE5).row (show w.heap.size ≤ w.heap.size + 1 by omega) #[.bool x1, .slice x2 x3 x4, .bool y1, .slice y2 y3 y4]
  replace FR := mK FR
  replace FE := mK FE
  clear hv hE5 b0
  go_wp2_with (refine wpList_store_row rfl 52 (.tmp 2) (.tmp 13) rfl (w.heap.size + 1) #[.bool x1, .slice x2 x3 x4, .bool y1, .slice y2 y3 y4] rfl rfl 52 _ z1 (by kernel_rfl) rfl (by kernel_rfl) ?_)
  refine bodyPost_ret (results_row_tmp rfl _ _ (w.heap.size + 1) 52 #[.bool x1, .slice x2 x3 x4, .bool y1, .slice y2 y3 y4] _ _ rfl rfl (setRow_heap _ _ _ _ _ _ z1) Tryz.underlying52 rfl (by kernel_rfl)) rfl ?_
  exact ⟨⟨x1, x2, x3, x4, y1, y2, y3, y4⟩, by rw [hcp.out]; rfl, FE.out, fun _ => FR.out⟩
 ·have hcp : capE x = 4 := by unfold capE; rw [if_neg hl]
  rw [if_pos (show 2048 < nf x by omega)] at ha
  go_enter Tryz.func77, Tryz.ntmps77
  go_wp2_with fail
  rw [← hw3]
  clear hw3
  replace hcp := mK hcp
  refine ha.out.mono ?_
  rintro e w4 ⟨rfl, hE4⟩
  replace z1 := hE4.blk z1.out
  have FE := (hE.out.trans hE4).row (show w.heap.size ≤ w.heap.size + 1 by omega) #[.bool false, .slice none 0 0, .bool false, .slice none 0 0]
  replace FE := mK FE
  clear hE4 ha
  go_wp2_with (refine wpList_store_row rfl 52 (.tmp 2) (.tmp 10) rfl (w.heap.size + 1) #[.bool false, .slice none 0 0, .bool false, .slice none 0 0] rfl rfl 52 _ z1 (by kernel_rfl) rfl (by kernel_rfl) ?_)
  refine bodyPost_ret (results_row_tmp rfl _ _ (w.heap.size + 1) 52 #[.bool false, .slice none 0 0, .bool false, .slice none 0 0] _ _ rfl rfl (setRow_heap _ _ _ _ _ _ z1) Tryz.underlying52 rfl (by kernel_rfl)) rfl ?_
  exact ⟨⟨false, none, 0, 0, false, none, 0, 0⟩, by rw [hcp.out]; rfl, FE.out, fun h => absurd h hl⟩
end Go.Proofs.YtjelnmokcpoofaaGreatDoor
