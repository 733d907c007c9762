/-
  ratio.Digits: the text of a fraction. A strings.Builder whose buffer lies above a bound, its struct below; a kind's word; a part's line. Plain law of a catalogue's text: words, numbers, fractions; what is told is read as it was, and the other way round. The reference's own, Own: a part in new rows: printed by tools/gen_own.py. catalog: number, read of two lines, Parse of one text (that which law25's alive asks). ratio.Whole, frac.answered (what is handed out lies in memory of its own), ratio.Read, frac.Parse.
-/
import Derived.Test.YtjelnmokcpoofaaGreatDoorKAI
import Derived.Test.YtjelnmokcpoofaaGreatDoorKAB
import Derived.Test.YtjelnmokcpoofaaGreatDoorKAE
import Derived.Test.YtjelnmokcpoofaaGreatDoorKAC
import Derived.Test.YtjelnmokcpoofaaGreatDoorKAH
import Derived.Lib.SplitLaws
import Derived.Test.YtjelnmokcpoofaaGreatDoorKAA
import Derived.Test.YtjelnmokcpoofaaGreatDoorKAD
import Derived.Test.YtjelnmokcpoofaaGreatDoorKAG
import Derived.LoopN
import Derived.Laws.AppendOwnNone
import Derived.Deep.LoopGhost
import Derived.Lib.SmallJoins
namespace Go.Proofs.YtjelnmokcpoofaaGreatDoor
set_option maxRecDepth 100000
open Go Go.RowKit Go.Proofs Go.Lib
theorem nDig_le {n k : Nat} (h : n < 2 ^ k) : nDigits n ≤ k + 1 := by
  by_cases hn : n = 0
  · subst hn
    rw [nDigits_small (by omega)]
    omega
  · have p := pow_le_nDigits n (by omega)
    have q : 2 ^ (nDigits n - 1) ≤ 10 ^ (nDigits n - 1) := Nat.pow_le_pow_left (by decide) _
    have r : 2 ^ (nDigits n - 1) < 2 ^ k := by omega
    have := (Nat.pow_lt_pow_iff_right (by decide : 1 < 2)).1 r
    omega
theorem itoa_len (X : Int) : (itoa X).length ≤ 32 * nl X + 2 := by
  have hXb : X.natAbs < 2 ^ (32 * (lim X.natAbs).length) := by
    have := val_lt (lim_ok X.natAbs)
    rw [val_lim, show (4294967296 : Nat) = 2 ^ 32 from rfl, ← Nat.pow_mul] at this
    exact this
  have h := nDig_le hXb
  unfold itoa nl
  split
  · rw [List.length_cons, decDigits_length]
    omega
  · rw [decDigits_length, show X.toNat = X.natAbs by omega]
    omega
theorem str_cat (a b : List UInt8) : ((⟨a.toArray⟩ : ByteArray) ++ ⟨b.toArray⟩) = ⟨(a ++ b).toArray⟩ := by
  apply ByteArray.ext
  simp
/-- A fraction's text. -/
def ratText (x : Rat) : List UInt8 := if x.den = 1 then itoa x.num else itoa x.num ++ 47 :: itoa (x.den : Int)
theorem ratDigits_c (v : Value) (x : Rat) (w : World) (hX : nf x ≤ 65536) (h : FracR w v x) (ht : Tab10 w) :
    Calls Tryz.prog 22 #[v] w fun e w' => e = .returned (.string ⟨(ratText x).toArray⟩) ∧ Ext w w' := by
  have H := h
  obtain ⟨x1, x2, x3, x4, y1, y2, y3, y4, rfl⟩ := h.shape
  have hn : nl x.num ≤ 65536 := Nat.le_trans (Nat.le_max_left _ _) hX
  have hd : nl (x.den : Int) ≤ 65536 := Nat.le_trans (Nat.le_max_right _ _) hX
  have L1 := mkHid (show ¬ 9223372036854775807 < (itoa x.num).length + 1 by have := itoa_len x.num; omega)
  have L2 := mkHid (show ¬ 9223372036854775807 < (itoa x.num).length + 1 + (itoa (x.den : Int)).length by have := itoa_len x.num; have := itoa_len (x.den : Int); omega)
  have HN := mkHid (fun W (e : Ext w W) => digits_c (.agg #[.bool x1, .slice x2 x3 x4]) x.num W hn (H.ext e).num (tab_ext ht e))
  have HD := mkHid (fun W (e : Ext w W) => digits_c (.agg #[.bool y1, .slice y2 y3 y4]) (x.den : Int) W hd (H.ext e).den (tab_ext ht e))
  have HR := mkHid (fun W (e : Ext w W) => (H.ext e).den)
  replace hd := mkHid hd
  clear h H ht hX hn
  go_enter Tryz.func22, Tryz.ntmps22
  go_wp2_with fail
  obtain ⟨wb, hwb⟩ : ∃ wb, wb = w.alloc (.cells #[.bool x1, .slice x2 x3 x4, .bool y1, .slice y2 y3 y4] 52) := ⟨_, rfl⟩
  have hE : Ext w wb := by rw [hwb]; exact (Ext.refl w).al _
  have c0 : ∀ W, Ext wb W → W.cell? ⟨w.heap.size, 0, none⟩ = some (.bool x1) := fun W e => e.cell (by rw [hwb]; go_simp)
  have c1 : ∀ W, Ext wb W → W.cell? ⟨w.heap.size, 1, none⟩ = some (.slice x2 x3 x4) := fun W e => e.cell (by rw [hwb]; go_simp)
  replace c0 := mkHid c0
  replace c1 := mkHid c1
  have c2 : ∀ W, Ext wb W → W.cell? ⟨w.heap.size, 2, none⟩ = some (.bool y1) := fun W e => e.cell (by rw [hwb]; go_simp)
  have c3 : ∀ W, Ext wb W → W.cell? ⟨w.heap.size, 3, none⟩ = some (.slice y2 y3 y4) := fun W e => e.cell (by rw [hwb]; go_simp)
  have ho := mkHid (fun w => of_c 1 w (by omega) (by omega))
  rw [← hwb]
  replace hE := mkHid hE
  clear hwb
  obtain ⟨sg1, hsg1⟩ : ∃ s, s = ((x.den : Int) - 1).sign := ⟨_, rfl⟩
  have hs0 : (sg1 == 0) = decide (x.den = 1) := by
    rw [hsg1, Bool.eq_iff_iff]
    simp only [beq_iff_eq, decide_eq_true_eq, Int.sign_eq_zero_iff_zero]
    omega
  replace hsg1 := mkHid hsg1
  apply region_ext [.val (.pointer (some ⟨w.heap.size, 2, none⟩)), .val (.agg #[.bool y1, .slice y2 y3 y4]), .pred (fun W v => IntO W 0 v 1), .val (.int .i64 sg1), .val (.bool (sg1 == 0))] (by kernel_rfl) (stable_vals _ (stable_vals _ (st_intO _ _ (stable_vals _ (stable_vals _ trivial)))))
  refine ⟨fun W hW _ => by go_simp; exact Ext.refl _, ?_⟩
  refine ⟨fun W hW _ => by have := c2 W hW; have := c3 W hW; go_simp; exact Ext.refl _, ?_⟩
  refine ⟨fun W hW _ => ?g0, fun v0 => ?_⟩
  case g0 =>
    go_simp
    refine (ho.out W).mono ?_
    rintro e w' ⟨v, rfl, h1, h2⟩
    exact ⟨v, rfl, h1, h2.mono (Nat.zero_le _)⟩
  refine ⟨fun W hW hF => ?g2, ?_⟩
  case g2 =>
    have h0 : IntO W 0 v0 1 := hF.1 (by kernel_rfl)
    replace h0 := mkHid h0
    clear hF
    go_simp
    refine (cmp_c _ _ (x.den : Int) 1 W (Nat.le_trans hd.out (by decide)) nl_one (HR.out W (hE.out.trans hW)) h0.out.r).mono ?_
    rintro e w' ⟨rfl, h1⟩
    rw [← hsg1.out]
    exact ⟨rfl, h1⟩
  refine ⟨fun W hW hF => by go_simp; first | exact Ext.refl _ | exact ⟨Ext.refl _, by simp⟩ | exact ⟨Ext.refl _, rfl⟩, fun W hW hF => ?fin⟩
  case fin =>
    clear hF
    have hE2 := hE.out.trans hW
    replace hE2 := mkHid hE2
    rw [hs0]
    clear hs0
    by_cases hx1 : x.den = 1
    · have hrt := mkHid (show ratText x = itoa x.num by simp [ratText, hx1])
      rw [decide_eq_true hx1]
      have d0 := c0.out W hW
      have d1 := c1.out W hW
      clear hx1 c2 c3
      go_simp
      go_wp2_with (go_at_call 53; refine (HN.out _ hE2.out).mono ?_; rintro e w2 ⟨rfl, h2⟩; replace h2 := mkHid h2)
      go_ret
      rw [hrt.out]
      exact ⟨rfl, hE2.out.trans h2.out⟩
    · have hrt := mkHid (show ratText x = itoa x.num ++ 47 :: itoa (x.den : Int) by simp [ratText, hx1])
      rw [decide_eq_false hx1]
      have d0 := mkHid (fun V (e : Ext W V) => c0.out V (hW.trans e))
      have d1 := mkHid (fun V (e : Ext W V) => c1.out V (hW.trans e))
      have d2 := mkHid (fun V (e : Ext W V) => c2 V (hW.trans e))
      have d3 := mkHid (fun V (e : Ext W V) => c3 V (hW.trans e))
      clear hx1 c2 c3 c0 c1
      go_simp
      go_wp2_with fail
      apply region_ext [.val (.pointer (some ⟨w.heap.size, 0, none⟩)), .val (.agg #[.bool x1, .slice x2 x3 x4]), .val (.string ⟨(itoa x.num).toArray⟩), .val _, .val (.pointer (some ⟨w.heap.size, 2, none⟩)), .val (.agg #[.bool y1, .slice y2 y3 y4]), .val (.string ⟨(itoa (x.den : Int)).toArray⟩), .val _] (by kernel_rfl) (stable_vals _ (stable_vals _ (stable_vals _ (stable_vals _ (stable_vals _ (stable_vals _ (stable_vals _ (stable_vals _ trivial))))))))
      refine ⟨fun V hV _ => by go_simp; exact Ext.refl _, ?_⟩
      refine ⟨fun V hV _ => by have := d0.out V hV; have := d1.out V hV; go_simp; exact Ext.refl _, ?_⟩
      refine ⟨fun V hV _ => ?n1, ?_⟩
      case n1 =>
        go_simp
        refine (HN.out V (hE2.out.trans hV)).mono ?_
        rintro e w' ⟨rfl, h1⟩
        exact ⟨rfl, h1⟩
      refine ⟨fun V hV _ => by go_simp; rw [if_neg L1.out]; exact ⟨Ext.refl _, rfl⟩, ?_⟩
      refine ⟨fun V hV _ => by go_simp; exact Ext.refl _, ?_⟩
      refine ⟨fun V hV _ => by have := d2.out V hV; have := d3.out V hV; go_simp; exact Ext.refl _, ?_⟩
      refine ⟨fun V hV _ => ?n2, ?_⟩
      case n2 =>
        go_simp
        refine (HD.out V (hE2.out.trans hV)).mono ?_
        rintro e w' ⟨rfl, h1⟩
        exact ⟨rfl, h1⟩
      refine ⟨fun V hV _ => ?n3, fun V hV _ => ?fin2⟩
      case n3 =>
        go_simp
        rw [if_neg L2.out]; exact ⟨Ext.refl _, rfl⟩
      case fin2 =>
       have hEV := mkHid (hE2.out.trans hV)
       clear hV
       go_simp
       go_wp2_with fail
       go_ret
       rw [hrt.out, show (#[47] : Array UInt8) = [47].toArray from rfl, str_cat, str_cat, List.append_assoc]
       exact ⟨rfl, hEV.out⟩
end Go.Proofs.YtjelnmokcpoofaaGreatDoor
namespace Go.Proofs.YtjelnmokcpoofaaGreatDoor
set_option maxRecDepth 100000
open Go Go.RowKit Go.Proofs Go.Lib
def BuiltAt (lo b : Nat) (p : Value) (bs : List Value) (w : World) : Prop := b < lo ∧ ∃ v, w.heap[b]? = some (.cells #[p, v] 65 (0, 0)) ∧ w.ownsRow lo 5 1 v bs.length bs
def IsBuilt (lo b : Nat) (bs : List Value) (w : World) : Prop := BuiltAt lo b (.pointer none) bs w ∨ BuiltAt lo b (.pointer (some ⟨b, 0, none⟩)) bs w
theorem ownsRow_ge {w : World} {lo E n : Nat} {v : Value} {xs : List Value} (h : w.ownsRow lo E 1 v n xs) : ∀ g, v.ownBlock = some g → lo ≤ g ∧ g < w.heap.size := by
  intro g hg
  rcases h.2 with ⟨e, _⟩ | ⟨k, cap, cur, e, h1, h2, _⟩
  · rw [e] at hg; cases hg
  · rw [e] at hg
    cases hg
    exact ⟨h1, (Array.getElem?_eq_some_iff.1 h2).1⟩
theorem BuiltAt.at {lo b : Nat} {p : Value} {bs : List Value} {w : World} (h : BuiltAt lo b p bs w) : Lib.BuilderAt 65 5 b b p bs w := by
  obtain ⟨h1, v, h2, h3⟩ := h
  exact ⟨Nat.le_refl _, v, h2, ownsRow_mono h3 (Nat.le_of_lt h1), fun e => by have := (ownsRow_ge h3 _ e).1; omega⟩
theorem IsBuilt.is {lo b : Nat} {bs : List Value} {w : World} (h : IsBuilt lo b bs w) : Lib.IsBuilder 65 5 b b bs w := by
  rcases h with h | h
  · exact .inl h.at
  · exact .inr h.at
theorem BuiltAt.ext {lo b : Nat} {p : Value} {bs : List Value} {w w' : World} (h : BuiltAt lo b p bs w) (e : Ext w w') : BuiltAt lo b p bs w' := by
  obtain ⟨h1, v, h2, h3⟩ := h
  exact ⟨h1, v, e.blk h2, ownsRow_ext h3 e⟩
theorem IsBuilt.ext {lo b : Nat} {bs : List Value} {w w' : World} (h : IsBuilt lo b bs w) (e : Ext w w') : IsBuilt lo b bs w' := by
  rcases h with h | h
  · exact .inl (h.ext e)
  · exact .inr (h.ext e)
/-- What a Builder's write may change. -/
def bS (b lo k : Nat) : Prop := k = b ∨ lo ≤ k
/-- What holds no bytes stays. -/
def Keeps (b : Nat) (w w' : World) : Prop := ∀ (g : Nat) (cs : Array Value) (T : TypeId) (fr : Nat × Nat), g ≠ b → T ≠ 5 → w.heap[g]? = some (.cells cs T fr) → w'.heap[g]? = some (.cells cs T fr)
theorem Keeps.ext {b : Nat} {w w' : World} (e : Ext w w') : Keeps b w w' := fun _ _ _ _ _ _ h => e.blk h
theorem Keeps.trans {b : Nat} {w w' w'' : World} (h : Keeps b w w') (k : Keeps b w' w'') : Keeps b w w'' := fun g cs T fr h1 h2 h3 => k g cs T fr h1 h2 (h g cs T fr h1 h2 h3)
theorem bcheck2 (lo b : Nat) (bs : List Value) (w : World) (h : IsBuilt lo b bs w) :
    Calls Tryz.prog 49 #[.pointer (some ⟨b, 0, none⟩)] w fun e w' => e = .returned (.tuple #[]) ∧ (BuiltAt lo b (.pointer (some ⟨b, 0, none⟩)) bs w' ∧ Chg w w' (· = b)) := by
  rcases h with h | h
  · refine (bcheck_fresh b w h.at.cell0 h.at.shape h.at.frozen0).mono ?_
    rintro e w' ⟨rfl, rfl⟩
    obtain ⟨h1, v, h2, h3⟩ := h
    have e1 := setCell_eq_setRow w b 0 _ _ _ (.pointer (some ⟨b, 0, none⟩)) h2
    rw [e1]
    refine ⟨rfl, ⟨h1, v, setRow_heap _ _ _ _ _ _ h2, ownsRow_row h3 h1 _⟩, Chg.set w b _⟩
  · refine (bcheck_used b w h.at.cell0).mono ?_
    rintro e w' ⟨rfl, rfl⟩
    exact ⟨rfl, h, Chg.refl _ _⟩
set_option maxHeartbeats 2000000 in
theorem bwrite2 (lo b : Nat) (bs : List Value) (s : ByteArray) (w : World) (h : IsBuilt lo b bs w) (hlen : bs.length + s.size ≤ 140737488355328) (hlo : lo ≤ w.heap.size) :
    Calls Tryz.prog 20 #[.pointer (some ⟨b, 0, none⟩), .string s] w fun e w' => e = .returned (.tuple #[.int .i64 s.size, .nilIface]) ∧ (IsBuilt lo b (bs ++ Lib.strCells s) w' ∧ Chg w w' (bS b lo) ∧ Keeps b w w') := by
  obtain ⟨i0, hi, hz0, hz1, hz2⟩ := info_parts infoByte
  go_enter Tryz.func20, Tryz.ntmps20
  go_wp2_with (go_at_call 49; refine (bcheck2 lo b bs _ h).mono ?_)
  rintro e w1 ⟨rfl, h1, hb1⟩
  obtain ⟨hB, v, hbk, hown⟩ := h1
  have hne : v.ownBlock ≠ some b := fun e => by have := (ownsRow_ge hown _ e).1; omega
  have c0 : w1.cell? ⟨b, 0, none⟩ = some (.pointer (some ⟨b, 0, none⟩)) := by rw [Lib.cell_of_heap hbk]; rfl
  have c1 : w1.cell? ⟨b, 1, none⟩ = some v := by rw [Lib.cell_of_heap hbk]; rfl
  go_wp2_with (at_builtin; refine Lib.wpList_append_own_string _ rfl _ _ 63 9 rfl lo 5 i0 Tryz.underlying63 Tryz.underlying9 hi hz0 hz1 hz2 _ _ _ rfl hown s rfl ?c3 ?c4 ?c5 ?_)
  case c3 => unfold maxLen; omega
  case c4 => omega
  case c5 => have := hb1.size; omega
  intro v' w2 hown' hgrow _
  have hlt : b < w1.heap.size := (Array.getElem?_eq_some_iff.1 hbk).1
  have hb2 : w2.heap[b]? = some (.cells #[.pointer (some ⟨b, 0, none⟩), v] 65 (0, 0)) := by
    rw [hgrow.block b hlt (fun e => hne e.symm)]
    exact hbk
  have d0 : w2.cell? ⟨b, 0, none⟩ = some (.pointer (some ⟨b, 0, none⟩)) := by rw [Lib.cell_of_heap hb2]; rfl
  have d1 : w2.cell? ⟨b, 1, none⟩ = some v := by rw [Lib.cell_of_heap hb2]; rfl
  have f1 : w2.frozen? ⟨b, 1, none⟩ = false := Lib.frozen_of_heap hb2 1
  obtain ⟨ao, n', cap, rfl⟩ : ∃ ao n' cap, v' = .slice ao n' cap := by
    rcases hown'.2 with ⟨hv, _⟩ | ⟨g, cap, cur, hv, _⟩
    · exact ⟨_, _, _, hv⟩
    · exact ⟨_, _, _, hv⟩
  go_wp2
  go_ret2
  have e1 := setCell_eq_setRow w2 b 1 _ _ _ (.slice ao n' cap) hb2
  rw [e1]
  refine ⟨rfl, .inr ⟨hB, _, setRow_heap _ _ _ _ _ _ hb2, ownsRow_row (by simpa [Lib.strCells_length] using hown') hB _⟩, ?_, ?_⟩
  · exact (hb1.mono fun k _ hk => .inl hk).trans (((Chg.grown hgrow).mono fun k _ hk => .inr (ownsRow_ge hown k hk.symm).1).trans ((Chg.set w2 b _).mono fun k _ hk => .inl hk))
  · intro g cs T fr hg hT hh
    rw [setRow_other _ _ _ _ hg]
    have hh1 : w1.heap[g]? = some (.cells cs T fr) := (hb1.block g (Array.getElem?_eq_some_iff.1 hh).1 hg).trans hh
    rw [hgrow.block g (Array.getElem?_eq_some_iff.1 hh1).1 fun e => ?_]
    · exact hh1
    · rcases hown.2 with ⟨e2, _⟩ | ⟨k, cap, cur, e2, _, h4, _⟩
      · rw [e2] at e; cases e
      · rw [e2] at e
        cases e
        rw [h4] at hh1
        cases hh1
        exact hT rfl
theorem built_fresh {w : World} {b lo : Nat} (hb : b < lo) (h : w.heap[b]? = some (.cells #[.pointer none, .slice none 0 0] 65 (0, 0))) : IsBuilt lo b [] w :=
  .inl ⟨hb, _, h, World.ownsRow_nil _ _ _ _⟩
/-- A kind's word, and how many fractions it has. -/
def wordB (kd : Int) : List UInt8 := if kd = 1 then [115, 112, 97, 99, 101] else if kd = 2 then [108, 101, 110, 115] else if kd = 3 then [115, 108, 97, 98] else if kd = 4 then [115, 117, 114, 102, 97, 99, 101] else if kd = 5 then [102, 108, 105, 112] else []
def wordN (kd : Int) : Nat := if kd = 1 then 1 else if kd = 2 then 1 else if kd = 3 then 2 else if kd = 4 then 2 else 0
theorem wordN_le (kd : Int) : wordN kd ≤ 2 := by unfold wordN; split <;> (try split) <;> (try split) <;> (try split) <;> omega
theorem wordB_len (kd : Int) : (wordB kd).length ≤ 7 := by unfold wordB; split <;> (try split) <;> (try split) <;> (try split) <;> (try split) <;> simp
theorem word_c (kd : Int) (w : World) : Calls Tryz.prog 19 #[.int .u8 kd] w fun e w' => e = .returned (.tuple #[.string ⟨(wordB kd).toArray⟩, .int .i64 (wordN kd)]) ∧ w = w' := by
  by_cases h1 : kd = 1
  · subst h1
    go_enter Tryz.func19, Tryz.ntmps19
    go_wp2_with fail
    go_ret2
    exact ⟨rfl, rfl⟩
  by_cases h2 : kd = 2
  · subst h2
    go_enter Tryz.func19, Tryz.ntmps19
    go_wp2_with fail
    go_ret2
    exact ⟨rfl, rfl⟩
  by_cases h3 : kd = 3
  · subst h3
    go_enter Tryz.func19, Tryz.ntmps19
    go_wp2_with fail
    go_ret2
    exact ⟨rfl, rfl⟩
  by_cases h4 : kd = 4
  · subst h4
    go_enter Tryz.func19, Tryz.ntmps19
    go_wp2_with fail
    go_ret2
    exact ⟨rfl, rfl⟩
  by_cases h5 : kd = 5
  · subst h5
    go_enter Tryz.func19, Tryz.ntmps19
    go_wp2_with fail
    go_ret2
    exact ⟨rfl, rfl⟩
  have e : wordB kd = [] ∧ wordN kd = 0 := by unfold wordB wordN; simp [h1, h2, h3, h4, h5]
  rw [e.1, e.2]
  have b1 : (kd == 1) = false := by simpa using h1
  have b2 : (kd == 2) = false := by simpa using h2
  have b3 : (kd == 3) = false := by simpa using h3
  have b4 : (kd == 4) = false := by simpa using h4
  have b5 : (kd == 5) = false := by simpa using h5
  clear h1 h2 h3 h4 h5 e
  go_enter Tryz.func19, Tryz.ntmps19
  go_wp2_with fail
  go_ret2
  exact ⟨rfl, rfl⟩
/-- A part's line. -/
def headB (d : PD) : List UInt8 := d.nm.data.toList ++ 32 :: (itoa d.co ++ 32 :: wordB d.kd)
def fracsB (d : PD) : List Rat := [d.p, d.q].take (wordN d.kd)
def tailB (l : List Rat) : List UInt8 := l.flatMap fun x => 32 :: ratText x
def lineB (d : PD) : List UInt8 := headB d ++ tailB (fracsB d) ++ [10]
def textB (L : List PD) : List UInt8 := L.flatMap lineB
end Go.Proofs.YtjelnmokcpoofaaGreatDoor
namespace Go.Proofs.YtjelnmokcpoofaaGreatDoor
set_option maxRecDepth 100000
open Go Go.RowKit Go.Proofs Go.Lib
/-- The words of a text that is parted at each c. -/
def wordsL (c : UInt8) : List UInt8 → List (List UInt8)
  | [] => [[]]
  | b :: r => if b = c then [] :: wordsL c r else (b :: (wordsL c r).headD []) :: (wordsL c r).tail
theorem wordsL_ne (c : UInt8) (l : List UInt8) : wordsL c l ≠ [] := by
  cases l with
  | nil => simp [wordsL]
  | cons b r => unfold wordsL; split <;> simp
theorem wordsL_hit (c : UInt8) (y : List UInt8) : wordsL c (c :: y) = [] :: wordsL c y := by rw [wordsL, if_pos rfl]
theorem wordsL_miss {b c : UInt8} (h : b ≠ c) (r : List UInt8) : wordsL c (b :: r) = (b :: (wordsL c r).headD []) :: (wordsL c r).tail := by rw [wordsL, if_neg h]
theorem wordsL_none {c : UInt8} : ∀ {x : List UInt8}, c ∉ x → wordsL c x = [x]
  | [], _ => rfl
  | b :: r, h => by
    have hb : b ≠ c := fun e => h (by simp [e])
    have hr : c ∉ r := fun e => h (List.mem_cons_of_mem _ e)
    unfold wordsL
    rw [if_neg hb, wordsL_none hr]
    rfl
theorem wordsL_cons {c : UInt8} {y : List UInt8} : ∀ {x : List UInt8}, c ∉ x → wordsL c (x ++ c :: y) = x :: wordsL c y
  | [], _ => wordsL_hit c y
  | b :: r, h => by
    have hb : b ≠ c := fun e => h (by simp [e])
    have hr : c ∉ r := fun e => h (List.mem_cons_of_mem _ e)
    show wordsL c (b :: (r ++ c :: y)) = _
    rw [wordsL_miss hb, wordsL_cons hr]
    rfl
/-- Words put behind one another again. -/
def joinL (c : UInt8) : List (List UInt8) → List UInt8
  | [] => []
  | [x] => x
  | x :: y :: r => x ++ c :: joinL c (y :: r)
theorem joinL_words (c : UInt8) : ∀ l : List UInt8, joinL c (wordsL c l) = l
  | [] => rfl
  | b :: r => by
    have ih := joinL_words c r
    have hn := wordsL_ne c r
    unfold wordsL
    obtain ⟨x, xs, hx⟩ : ∃ x xs, wordsL c r = x :: xs := by
      cases h : wordsL c r with
      | nil => exact absurd h hn
      | cons x xs => exact ⟨x, xs, rfl⟩
    rw [hx] at ih ⊢
    split
    · rename_i h
      subst h
      show [] ++ b :: joinL b (x :: xs) = _
      rw [ih]
      rfl
    · cases xs with
      | nil =>
        simp only [List.headD_cons, List.tail_cons, joinL] at ih ⊢
        rw [ih]
      | cons y ys =>
        simp only [List.headD_cons, List.tail_cons, joinL] at ih ⊢
        rw [List.cons_append, ih]
theorem splitK_eq (c : UInt8) (k : Nat) (l : List UInt8) : splitK [c] 0 (k + 1) (c :: l) = [] :: splitK [c] 0 k l := by
  have hix : index (c :: l) [c] = 0 := by rw [index]; simp [List.isPrefixOf]
  rw [splitK, hix]
  simp
theorem splitK_ne {b c : UInt8} (h : b ≠ c) (k : Nat) (l : List UInt8) : splitK [c] 0 k (b :: l) = (b :: (splitK [c] 0 k l).headD []) :: (splitK [c] 0 k l).tail := by
  cases k with
  | zero => rfl
  | succ k =>
    have hp : ([c] : List UInt8).isPrefixOf (b :: l) = false := by simp [List.isPrefixOf, Ne.symm h]
    have hix : index (b :: l) [c] = if index l [c] == -1 then -1 else index l [c] + 1 := by rw [index, hp]; simp
    by_cases hm : index l [c] = -1
    · rw [splitK, splitK, hix]
      simp [hm]
    · have hge := index_ge l [c]
      obtain ⟨j, hj⟩ : ∃ j : Nat, index l [c] = j := ⟨(index l [c]).toNat, by omega⟩
      have hj1 : ((j : Int) == -1) = false := by simp
      have hj2 : ((j : Int) + 1 == -1) = false := by simpa using (by omega : ¬ (j : Int) + 1 = -1)
      rw [splitK, splitK, hix, hj]
      simp only [hj1, hj2, Bool.false_eq_true, if_false]
      rw [show ((j : Int) + 1).toNat = j + 1 by omega, show ((j : Int)).toNat = j by omega]
      simp
theorem splitK_words (c : UInt8) : ∀ (l : List UInt8) (k : Nat), l.count c ≤ k → splitK [c] 0 k l = wordsL c l
  | [], 0, _ => rfl
  | [], k + 1, _ => by
    rw [splitK, if_pos (by simp [index])]
    rfl
  | b :: r, k, h => by
    by_cases hb : b = c
    · subst hb
      rw [List.count_cons_self] at h
      obtain ⟨k', rfl⟩ : ∃ k', k = k' + 1 := ⟨k - 1, by omega⟩
      rw [splitK_eq, splitK_words b r k' (by omega)]
      conv => rhs; unfold wordsL
      rw [if_pos rfl]
    · rw [List.count_cons_of_ne (by simpa using hb)] at h
      rw [splitK_ne hb, splitK_words c r k h]
      conv => rhs; unfold wordsL
      rw [if_neg hb]
theorem splitB_words (c : UInt8) (s : ByteArray) : (splitB ⟨#[c]⟩ 0 (countB s ⟨#[c]⟩) s).map (·.data.toList) = wordsL c s.data.toList := by
  rw [splitB_data]
  show splitK [c] 0 (count s.data.toList [c]) s.data.toList = _
  rw [count_one, splitK_words c _ _ (Nat.le_refl _)]
/-- A text parted at its first c. -/
def cutL (c : UInt8) : List UInt8 → Option (List UInt8 × List UInt8)
  | [] => none
  | b :: r => if b = c then some ([], r) else (cutL c r).map fun p => (b :: p.1, p.2)
theorem cutL_hit {c : UInt8} {y : List UInt8} : ∀ {x : List UInt8}, c ∉ x → cutL c (x ++ c :: y) = some (x, y)
  | [], _ => by
    show cutL c (c :: y) = _
    unfold cutL
    rw [if_pos rfl]
  | b :: r, h => by
    have hb : b ≠ c := fun e => h (by simp [e])
    have hr : c ∉ r := fun e => h (List.mem_cons_of_mem _ e)
    show cutL c (b :: (r ++ c :: y)) = _
    unfold cutL
    rw [if_neg hb, cutL_hit hr]
    rfl
theorem cutL_miss {c : UInt8} : ∀ {x : List UInt8}, c ∉ x → cutL c x = none
  | [], _ => rfl
  | b :: r, h => by
    have hb : b ≠ c := fun e => h (by simp [e])
    have hr : c ∉ r := fun e => h (List.mem_cons_of_mem _ e)
    unfold cutL
    rw [if_neg hb, cutL_miss hr]
    rfl
theorem cutL_some {c : UInt8} : ∀ {l x y : List UInt8}, cutL c l = some (x, y) → l = x ++ c :: y ∧ c ∉ x
  | [], x, y, h => by cases h
  | b :: r, x, y, h => by
    unfold cutL at h
    split at h
    · rename_i hb
      cases h
      exact ⟨by simp [hb], by simp⟩
    · rename_i hb
      cases hc : cutL c r with
      | none => rw [hc] at h; cases h
      | some p =>
        obtain ⟨x', y'⟩ := p
        rw [hc] at h
        simp only [Option.map_some, Option.some.injEq, Prod.mk.injEq] at h
        obtain ⟨rfl, rfl⟩ := h
        obtain ⟨h1, h2⟩ := cutL_some hc
        refine ⟨by rw [h1]; rfl, ?_⟩
        intro hm
        rcases List.mem_cons.1 hm with e | e
        · exact hb e.symm
        · exact h2 e
theorem cut_eq (c : UInt8) : ∀ l : List UInt8, cut l [c] = match cutL c l with | some p => (p.1, p.2, true) | none => (l, [], false)
  | [] => by simp [cut, index, cutL]
  | b :: r => by
    have ih := cut_eq c r
    by_cases hb : b = c
    · subst hb
      have hix : index (b :: r) [b] = 0 := by rw [index]; simp [List.isPrefixOf]
      unfold cut cutL
      rw [hix]
      simp
    · have hp : ([c] : List UInt8).isPrefixOf (b :: r) = false := by simp [List.isPrefixOf, Ne.symm hb]
      have hix : index (b :: r) [c] = if index r [c] == -1 then -1 else index r [c] + 1 := by rw [index, hp]; simp
      unfold cutL
      rw [if_neg hb]
      by_cases hm : index r [c] = -1
      · have hn : cutL c r = none := by
          cases hc : cutL c r with
          | none => rfl
          | some p =>
            rw [hc] at ih
            unfold cut at ih
            rw [if_neg (by omega)] at ih
            cases congrArg (fun z => z.2.2) ih
        rw [hn]
        unfold cut
        rw [hix, hm]
        simp
      · have hge := index_ge r [c]
        obtain ⟨j, hj⟩ : ∃ j : Nat, index r [c] = j := ⟨(index r [c]).toNat, by omega⟩
        have hj1 : ((j : Int) == -1) = false := by simp
        have hix : index (b :: r) [c] = ((j + 1 : Nat) : Int) := by rw [hix, hj, if_neg (by rw [hj1]; simp)]; rfl
        unfold cut at ih ⊢
        rw [hix, if_pos (by omega), show (((j + 1 : Nat) : Int)).toNat = j + 1 by omega]
        rw [hj, if_pos (by omega), show ((j : Int)).toNat = j by omega] at ih
        cases hc : cutL c r with
        | none => rw [hc] at ih; cases congrArg (fun z => z.2.2) ih
        | some p =>
          rw [hc] at ih
          simp only [Prod.mk.injEq, and_true] at ih
          obtain ⟨h1, h2⟩ := ih
          simp only [Option.map_some, ← h1, ← h2]
          simp
/-! Numbers. -/
theorem decFrom_app : ∀ (x y : List UInt8) (a b : Nat), decFrom a x = some b → decFrom a (x ++ y) = decFrom b y
  | [], y, a, b, h => by
    simp only [decFrom, Option.some.injEq] at h
    subst h
    rfl
  | c :: r, y, a, b, h => by
    rw [List.cons_append]
    show (match digitVal c with | some d => decFrom (a * 10 + d) (r ++ y) | none => none) = _
    have h : (match digitVal c with | some d => decFrom (a * 10 + d) r | none => none) = some b := h
    cases hd : digitVal c with
    | none => rw [hd] at h; cases h
    | some d =>
      rw [hd] at h
      exact decFrom_app r y _ b h
theorem digit_of {d : Nat} (h : d < 10) : digitVal (UInt8.ofNat (48 + d)) = some d := by
  have : ∀ d : Fin 10, digitVal (UInt8.ofNat (48 + d.val)) = some d.val := by decide
  exact this ⟨d, h⟩
theorem decFrom_dec (n : Nat) : decFrom 0 (decDigits n) = some n := by
  induction n using Nat.strongRecOn with
  | _ n ih =>
    rw [decDigits]
    by_cases h : n < 10
    · rw [dif_pos h]
      unfold decFrom
      rw [digit_of h]
      simp [decFrom]
    · rw [dif_neg h, decFrom_app _ _ _ _ (ih (n / 10) (by omega))]
      unfold decFrom
      rw [digit_of (by omega)]
      simp only [decFrom]
      congr 1
      omega
theorem dec_ne (n : Nat) : decDigits n ≠ [] := fun e => by
  have := congrArg List.length e
  rw [decDigits_length] at this
  have := nDigits_pos n
  simp at *
  omega
theorem dec_head45 (n : Nat) : (decDigits n).head? ≠ some 45 := by
  intro h
  cases hd : decDigits n with
  | nil => rw [hd] at h; cases h
  | cons b r =>
    rw [hd] at h
    cases h
    have h1 := decFrom_dec n
    rw [hd] at h1
    unfold decFrom at h1
    have : digitVal 45 = none := by decide
    rw [this] at h1
    cases h1
theorem dec_head48 {n : Nat} (h : (decDigits n).head? = some 48) : n = 0 := by
  rcases Nat.eq_zero_or_pos n with e | e
  · exact e
  · obtain ⟨x, r, h1, h2⟩ := dec_head n e
    rw [h1] at h
    cases h
    exact absurd rfl h2
theorem itoa_parts (X : Int) : bodyI (itoa X) = decDigits X.natAbs ∧ negI (itoa X) = decide (X < 0) := by
  unfold itoa
  by_cases h : X < 0
  · rw [if_pos h]
    simp [bodyI, negI, h]
  · rw [if_neg h, show X.toNat = X.natAbs by omega]
    have := dec_head45 X.natAbs
    simp [bodyI, negI, this, h]
/-- What is told of a whole number is read as it. -/
theorem readI_itoa (X : Int) : readI (itoa X) = some X := by
  obtain ⟨h1, h2⟩ := itoa_parts X
  unfold readI badI
  rw [h1, h2, decFrom_dec]
  have hn := dec_ne X.natAbs
  have hb : (decide (decDigits X.natAbs = []) || decide ((decDigits X.natAbs).head? = some 48) && (decide (1 < (decDigits X.natAbs).length) || decide (X < 0))) = false := by
    rw [decide_eq_false hn, Bool.false_or]
    by_cases h : (decDigits X.natAbs).head? = some 48
    · have h0 := dec_head48 h
      have : X = 0 := by omega
      subst this
      have e0 : decDigits (Int.natAbs 0) = [48] := by rw [decDigits, dif_pos (by decide)]; rfl
      rw [e0]
      decide
    · rw [decide_eq_false h, Bool.false_and]
  rw [hb]
  simp only [Bool.false_eq_true, if_false, Option.map_some]
  congr 1
  unfold sg
  by_cases h : X < 0
  · rw [decide_eq_true h]
    simp
    omega
  · rw [decide_eq_false h]
    simp
    omega
theorem itoa_free {X : Int} {c : UInt8} (h1 : c ≠ 45) (h2 : digitVal c = none) : c ∉ itoa X := by
  have hd : ∀ n, c ∉ decDigits n := fun n hm => by
    obtain ⟨k, hk⟩ := List.getElem?_of_mem hm
    obtain ⟨d, hd⟩ := digit_of_decFrom _ _ _ (decFrom_dec n) k c hk
    rw [h2] at hd
    cases hd
  unfold itoa
  split
  · intro hm
    rcases List.mem_cons.1 hm with e | e
    · exact h1 e
    · exact hd _ e
  · exact hd _
/-! Fractions. -/
/-- The fraction of a text. -/
def readF (s : List UInt8) : Option Rat :=
  match cutL 47 s with
  | none => (readI s).map fun (n : Int) => (n : Rat)
  | some p => match readI p.1, readI p.2 with
    | some n, some d => if 1 < d ∧ Int.gcd n d = 1 then some (Rat.divInt n d) else none
    | _, _ => none
theorem rat_parts {n d : Int} (hd : 0 < d) (hg : Int.gcd n d = 1) : (Rat.divInt n d).num = n ∧ ((Rat.divInt n d).den : Int) = d := by
  obtain ⟨k, rfl⟩ : ∃ k : Nat, d = (k : Int) := ⟨d.toNat, by omega⟩
  have hk : k ≠ 0 := by omega
  have hc : n.natAbs.Coprime k := by
    have : Int.gcd n (k : Int) = Nat.gcd n.natAbs k := by simp [Int.gcd]
    rw [this] at hg
    exact hg
  have e : Rat.divInt n (k : Int) = ⟨n, k, hk, hc⟩ := by
    rw [Rat.divInt_ofNat]
    exact (Rat.mk_eq_mkRat n k hk hc).symm
  rw [e]
  exact ⟨rfl, rfl⟩
theorem readF_text (x : Rat) : readF (ratText x) = some x := by
  have h47 : digitVal 47 = none := by decide
  have hf : (47 : UInt8) ∉ itoa x.num := itoa_free (by decide) h47
  unfold readF ratText
  by_cases h : x.den = 1
  · rw [if_pos h, cutL_miss hf]
    simp only [readI_itoa, Option.map_some]
    congr 1
    apply Rat.ext
    · simp
    · simp [h]
  · rw [if_neg h, cutL_hit hf]
    simp only [readI_itoa]
    have hp := x.den_pos
    have hg : Int.gcd x.num (x.den : Int) = 1 := by
      have := x.reduced
      unfold Int.gcd
      simpa using this
    rw [if_pos ⟨by omega, hg⟩]
    congr 1
    have := Rat.num_divInt_den x
    exact this
end Go.Proofs.YtjelnmokcpoofaaGreatDoor
namespace Go.Proofs.YtjelnmokcpoofaaGreatDoor
set_option maxRecDepth 100000
open Go Go.RowKit Go.Proofs
/-- No limb. -/
def flat32 : Value → Bool
  | .int .u32 _ => false
  | _ => true
theorem Row.flat32 {w : World} {a : Option Addr} {l : List Nat} {g T : Nat} {fr : Nat × Nat} {old : Array Value} (h : Row w a (limV l)) (hg : w.heap[g]? = some (.cells old T fr)) (ho : old.all flat32 = true) (cs : Array Value) : Row (w.setRow g cs) a (limV l) := by
  obtain ⟨b, off, h1, h2⟩ := h
  refine ⟨b, off, h1, fun j hj => ?_⟩
  have hc := h2 j hj
  have hne : b ≠ g := by
    rintro rfl
    rw [limV_getD _ _ (by rw [limV_length] at hj; exact hj)] at hc
    have hc2 : old[off + j]? = some (.int .u32 ((l.getD j 0 : Nat) : Int)) := by
      simp only [World.cell?, hg] at hc
      simpa using hc
    obtain ⟨hlt, he⟩ := Array.getElem?_eq_some_iff.1 hc2
    have := Array.all_eq_true.1 ho _ hlt
    rw [he] at this
    cases this
  have : ((w.setRow g cs).heap[b]?) = w.heap[b]? := setRow_other _ _ _ _ hne
  simp only [World.cell?, this] at hc ⊢
  exact hc
theorem AnyF.flat32 {w : World} {v : Value} {o : Option Rat} {g T : Nat} {fr : Nat × Nat} {old : Array Value} (h : AnyF w v o) (hg : w.heap[g]? = some (.cells old T fr)) (ho : old.all flat32 = true) (cs : Array Value) : AnyF (w.setRow g cs) v o := by
  obtain ⟨b1, l1, b2, l2, ⟨a1, c1, a2, c2, h1, h2, h3, ⟨x1, y1, e1, f1, g1, r1⟩, ⟨x2, y2, e2, f2, g2, r2⟩⟩, h6⟩ := h
  exact ⟨b1, l1, b2, l2, ⟨a1, c1, a2, c2, h1, h2, h3, ⟨x1, y1, e1, f1, g1, r1.flat32 hg ho cs⟩, ⟨x2, y2, e2, f2, g2, r2.flat32 hg ho cs⟩⟩, h6⟩
theorem nf_none : nf 0 ≤ 2048 := by unfold nf; rw [show (0 : Rat).num = 0 from rfl, show (((0 : Rat).den : Nat) : Int) = 1 from rfl]; unfold nl; rw [show (1 : Int).natAbs = 1 from rfl, show (0 : Int).natAbs = 0 from rfl, lim_zero, lim_one (by omega) (by omega)]; decide
end Go.Proofs.YtjelnmokcpoofaaGreatDoor
namespace Go.Proofs.YtjelnmokcpoofaaGreatDoor
set_option maxRecDepth 100000
open Go Go.RowKit Go.Proofs
/-- The library's one number for an index (internal/bytealg.MaxLen) is there. -/
def Max0 (w : World) : Prop := ∃ m : Int, w.cell? ⟨0, 0, none⟩ = some (.int .i64 m)
theorem Max0.ext {w w' : World} (h : Max0 w) (e : Ext w w') : Max0 w' := by
  obtain ⟨m, hm⟩ := h
  exact ⟨m, e.cell hm⟩
theorem number_one (w : World) : Calls Tryz.prog 37 #[.string ⟨#[49]⟩] w fun e w' => e = .returned (.tuple #[.int .i64 1, .bool true]) ∧ Ext w w' := by
  have KA := mkHid (fun W => Tryz.strconv_Atoi ⟨#[49]⟩ 1 (by decide) (by kernel_rfl) W)
  have KI := mkHid (fun W => Tryz.strconv_Itoa_small 1 (by decide) W)
  have e0 : (⟨(Lib.decDigits 1).toArray⟩ : ByteArray) = ⟨#[49]⟩ := by kernel_rfl
  rw [e0] at KI
  have hb : ((⟨#[49]⟩ : ByteArray).toList == (⟨#[49]⟩ : ByteArray).toList) = true := by simp
  replace e0 := mkHid e0
  go_enter Tryz.func37, Tryz.ntmps37
  have tok : Tok 0 := .mk _
  go_wp2_with (first
    | ((have _t : Tok 0 := tok); clear _t; clear tok; (have tok : Tok 1 := .mk _); go_at_call 74; refine (KA.out _).mono ?_; rintro e w1 ⟨rfl, t, hw⟩; (have hE : Ext w w1 := by rw [hw]; exact Joins.below_bytesWorld _ _ _ _ (Nat.le_refl _)); clear hw; replace hE := mkHid hE)
    | ((have _t : Tok 1 := tok); clear _t; clear tok; (have tok : Tok 2 := .mk _); go_at_call 21; refine (KI.out _).mono ?_; rintro e w2 ⟨rfl, rfl⟩))
  go_ret2
  exact ⟨rfl, hE.out⟩
/-- A flip, as read tells it. -/
def FlipP (nm : ByteArray) (w : World) (v : Value) : Prop := ∃ p q : FV, v = .agg #[.string nm, .int .u8 5, .bool p.b1, .slice p.a1 p.n1 p.c1, .bool p.b2, .slice p.a2 p.n2 p.c2, .bool q.b1, .slice q.a1 q.n1 q.c1, .bool q.b2, .slice q.a2 q.n2 q.c2, .int .i64 1] ∧ FracR w (.agg #[.bool p.b1, .slice p.a1 p.n1 p.c1, .bool p.b2, .slice p.a2 p.n2 p.c2]) 0 ∧ FracR w (.agg #[.bool q.b1, .slice q.a1 q.n1 q.c1, .bool q.b2, .slice q.a2 q.n2 q.c2]) 0
set_option maxRecDepth 100000 in
set_option maxHeartbeats 6400000 in
theorem read_b (w : World) (hm : Max0 w) : Calls Tryz.prog 16 #[.string ⟨#[98, 32, 49, 32, 102, 108, 105, 112]⟩] w fun e w' => ∃ v, e = .returned (.tuple #[v, .int .i64 0]) ∧ FlipP ⟨#[98]⟩ w' v ∧ Ext w w' := by
  obtain ⟨w1, hw1⟩ : ∃ w1, w1 = w.alloc (.cells #[.string ⟨#[]⟩, .int .u8 0, .bool false, .slice none 0 0, .bool false, .slice none 0 0, .bool false, .slice none 0 0, .bool false, .slice none 0 0, .int .i64 0] 56) := ⟨_, rfl⟩
  have hE1 : Ext w w1 := by rw [hw1]; exact (Ext.refl w).al _
  have zP1 : w1.heap[w.heap.size]? = some (.cells #[.string ⟨#[]⟩, .int .u8 0, .bool false, .slice none 0 0, .bool false, .slice none 0 0, .bool false, .slice none 0 0, .bool false, .slice none 0 0, .int .i64 0] 56 (0, 0)) := by rw [hw1]; exact heap_alloc_new _ _
  have hsz1 : w1.heap.size = w.heap.size + 1 := by rw [hw1]; simp
  obtain ⟨mx, hmx⟩ := hm.ext hE1
  have KS := Tryz.strings_Split ⟨#[98, 32, 49, 32, 102, 108, 105, 112]⟩ ⟨#[32]⟩ mx w1 (by decide) hmx (by decide)
  have ec : Lib.countB ⟨#[98, 32, 49, 32, 102, 108, 105, 112]⟩ ⟨#[32]⟩ = 2 := by kernel_rfl
  rw [ec] at KS
  have es : Lib.splitB ⟨#[32]⟩ 0 2 ⟨#[98, 32, 49, 32, 102, 108, 105, 112]⟩ = [⟨#[98]⟩, ⟨#[49]⟩, ⟨#[102, 108, 105, 112]⟩] := by kernel_rfl
  rw [es] at KS
  obtain ⟨w2, hw2⟩ : ∃ w2, w2 = w1.alloc (.cells (([⟨#[98]⟩, ⟨#[49]⟩, ⟨#[102, 108, 105, 112]⟩] : List ByteArray).map Value.string).toArray 9) := ⟨_, rfl⟩
  have hE2 : Ext w1 w2 := by rw [hw2]; exact (Ext.refl w1).al _
  have zS2 : w2.heap[w.heap.size + 1]? = some (.cells #[.string ⟨#[98]⟩, .string ⟨#[49]⟩, .string ⟨#[102, 108, 105, 112]⟩] 9 (0, 0)) := by rw [hw2, ← hsz1]; exact heap_alloc_new _ _
  have zP2 := hE2.blk zP1
  have hsz2 : w2.heap.size = w.heap.size + 2 := by rw [hw2]; simp [hsz1]
  have KN := mkHid (fun W => nought_f W)
  have K1 := mkHid (fun W => word_c 1 W)
  have K2 := mkHid (fun W => word_c 2 W)
  have K3 := mkHid (fun W => word_c 3 W)
  have K4 := mkHid (fun W => word_c 4 W)
  have K5 := mkHid (fun W => word_c 5 W)
  have KU := mkHid (fun W => number_one W)
  have KD := mkHid (fun W => named_c ⟨#[98]⟩ W (by decide))
  have en : nameB ((⟨#[98]⟩ : ByteArray).data.toList) = true := by decide
  rw [en] at KD
  have KM := mkHid (fun (W : World) (p q : FV) (h1 : FracR W (.agg #[.bool p.b1, .slice p.a1 p.n1 p.c1, .bool p.b2, .slice p.a2 p.n2 p.c2]) 0) (h2 : FracR W (.agg #[.bool q.b1, .slice q.a1 q.n1 q.c1, .bool q.b2, .slice q.a2 q.n2 q.c2]) 0) => may_v ⟨#[98]⟩ 5 1 p q (some 0) (some 0) W (by have := h1.any (Nat.le_trans nf_none (by decide)); rwa [if_pos nf_none] at this) (by have := h2.any (Nat.le_trans nf_none (by decide)); rwa [if_pos nf_none] at this))
  have em : mayP 5 1 (some 0) (some 0) = true := by decide
  rw [em] at KM
  have q1 : ((⟨(wordB 1).toArray⟩ : ByteArray).toList == [102, 108, 105, 112]) = false := by rw [ByteArray.toList_eq]; decide
  have q2 : ((⟨(wordB 2).toArray⟩ : ByteArray).toList == [102, 108, 105, 112]) = false := by rw [ByteArray.toList_eq]; decide
  have q3 : ((⟨(wordB 3).toArray⟩ : ByteArray).toList == [102, 108, 105, 112]) = false := by rw [ByteArray.toList_eq]; decide
  have q4 : ((⟨(wordB 4).toArray⟩ : ByteArray).toList == [102, 108, 105, 112]) = false := by rw [ByteArray.toList_eq]; decide
  have q5 : ((⟨(wordB 5).toArray⟩ : ByteArray).toList == [102, 108, 105, 112]) = true := by rw [ByteArray.toList_eq]; decide
  have n5 : ((wordN 5 : Nat) : Int) = 0 := by decide
  generalize (⟨(wordB 1).toArray⟩ : ByteArray) = s1 at *
  generalize (⟨(wordB 2).toArray⟩ : ByteArray) = s2 at *
  generalize (⟨(wordB 3).toArray⟩ : ByteArray) = s3 at *
  generalize (⟨(wordB 4).toArray⟩ : ByteArray) = s4 at *
  generalize (⟨(wordB 5).toArray⟩ : ByteArray) = s5 at *
  rw [n5] at K5
  generalize ((wordN 1 : Nat) : Int) = n1 at *
  generalize ((wordN 2 : Nat) : Int) = n2 at *
  generalize ((wordN 3 : Nat) : Int) = n3 at *
  generalize ((wordN 4 : Nat) : Int) = n4 at *
  rw [hsz1, ← hw2] at KS
  replace KS := mkHid KS
  replace hw1 := mkHid hw1
  replace hw2 := mkHid hw2
  replace hE1 := mkHid (hE1.trans hE2)
  replace zP2 := mkHid zP2
  replace zS2 := mkHid zS2
  replace hsz1 := mkHid hsz1
  replace hsz2 := mkHid hsz2
  clear zP1 hE2 hmx hm ec es en em n5
  go_enter Tryz.func16, Tryz.ntmps16
  have tok : Tok 0 := .mk _
  go_wp2_with (first
    | ((have _t : Tok 0 := tok); clear _t; clear tok; (have tok : Tok 1 := .mk _); go_at_call 35; rw [← hw1.out]; refine KS.out.mono ?_; rintro e w' ⟨rfl, rfl⟩)
    | ((have _t : Tok 1 := tok); clear _t; clear tok; (have tok : Tok 2 := .mk _); go_at_call 36; refine (KN.out _).mono ?_; rintro e w3 ⟨vp, rfl, hx3, hp3⟩; (obtain ⟨p, rfl⟩ := hp3.r.fv); (have zP3 := mkHid (hx3.blk zP2.out)); (have zS3 := mkHid (hx3.blk zS2.out)); replace hp3 := mkHid hp3; replace hx3 := mkHid hx3)
    | ((have _t : Tok 2 := tok); clear _t; clear tok; (have tok : Tok 3 := .mk _); go_at_call 36; refine (KN.out _).mono ?_; rintro e w4 ⟨vq, rfl, hx4, hq4⟩; (obtain ⟨q, rfl⟩ := hq4.r.fv); (have zP4 := hx4.blk zP3.out); (have zS4 := hx4.blk zS3.out);
        (obtain ⟨w5, hw5⟩ : ∃ w5, w5 = w4.setRow w.heap.size #[.string ⟨#[]⟩, .int .u8 0, .bool p.b1, .slice p.a1 p.n1 p.c1, .bool p.b2, .slice p.a2 p.n2 p.c2, .bool false, .slice none 0 0, .bool false, .slice none 0 0, .int .i64 0] := ⟨_, rfl⟩);
        (have zP5 := mkHid (show w5.heap[w.heap.size]? = some (.cells #[.string ⟨#[]⟩, .int .u8 0, .bool p.b1, .slice p.a1 p.n1 p.c1, .bool p.b2, .slice p.a2 p.n2 p.c2, .bool false, .slice none 0 0, .bool false, .slice none 0 0, .int .i64 0] 56 (0, 0)) by rw [hw5]; exact setRow_heap _ _ _ _ _ _ zP4));
        (obtain ⟨w6, hw6⟩ : ∃ w6, w6 = w5.setRow w.heap.size #[.string ⟨#[]⟩, .int .u8 0, .bool p.b1, .slice p.a1 p.n1 p.c1, .bool p.b2, .slice p.a2 p.n2 p.c2, .bool q.b1, .slice q.a1 q.n1 q.c1, .bool q.b2, .slice q.a2 q.n2 q.c2, .int .i64 0] := ⟨_, rfl⟩);
        (have zP6 := mkHid (show w6.heap[w.heap.size]? = some (.cells #[.string ⟨#[]⟩, .int .u8 0, .bool p.b1, .slice p.a1 p.n1 p.c1, .bool p.b2, .slice p.a2 p.n2 p.c2, .bool q.b1, .slice q.a1 q.n1 q.c1, .bool q.b2, .slice q.a2 q.n2 q.c2, .int .i64 0] 56 (0, 0)) by rw [hw6]; exact setRow_heap _ _ _ _ _ _ zP5.out));
        (have zS6 := mkHid (show w6.heap[w.heap.size + 1]? = some (.cells #[.string ⟨#[98]⟩, .string ⟨#[49]⟩, .string ⟨#[102, 108, 105, 112]⟩] 9 (0, 0)) by rw [hw6, setRow_other _ _ _ _ (by omega), hw5, setRow_other _ _ _ _ (by omega)]; exact zS4));
        (have hE6 := mkHid (show Ext w w6 by rw [hw6, hw5]; exact (((hE1.out.trans hx3.out).trans hx4).row (Nat.le_refl _) _).row (Nat.le_refl _) _));
        (have hp6 := mkHid (show FracR w6 (.agg #[.bool p.b1, .slice p.a1 p.n1 p.c1, .bool p.b2, .slice p.a2 p.n2 p.c2]) 0 by rw [hw6, hw5]; exact (((hp3.out.ext hx4).row (by rw [hsz2.out]; omega) _).row (by rw [hsz2.out]; omega) _).r));
        (have hq6 := mkHid (show FracR w6 (.agg #[.bool q.b1, .slice q.a1 q.n1 q.c1, .bool q.b2, .slice q.a2 q.n2 q.c2]) 0 by rw [hw6, hw5]; exact ((hq4.row (by have := hx3.out.size; rw [hsz2.out] at this; omega) _).row (by have := hx3.out.size; rw [hsz2.out] at this; omega) _).r));
        (have hqs := mkHid (fun k (h : k ∈ Aloof.blks (.agg #[.bool q.b1, .slice q.a1 q.n1 q.c1, .bool q.b2, .slice q.a2 q.n2 q.c2])) => show w.heap.size + 2 ≤ k by have := (hq4.span k h).1; have h2 := hx3.out.size; rw [hsz2.out] at h2; omega)); replace zP4 := mkHid zP4; replace hw5 := mkHid hw5; replace hw6 := mkHid hw6; clear hx4 hq4 zS4)
    | ((have _t : Tok 3 := tok); clear _t; clear tok; (have tok : Tok 4 := .mk _); refine wpList_store_sub rfl 52 (.tmp 17) (.tmp 14) rfl w.heap.size 2 rfl 56 #[.string ⟨#[]⟩, .int .u8 0, .bool false, .slice none 0 0, .bool false, .slice none 0 0, .bool false, .slice none 0 0, .bool false, .slice none 0 0, .int .i64 0] #[.string ⟨#[]⟩, .int .u8 0, .bool p.b1, .slice p.a1 p.n1 p.c1, .bool p.b2, .slice p.a2 p.n2 p.c2, .bool false, .slice none 0 0, .bool false, .slice none 0 0, .int .i64 0] #[.bool p.b1, .slice p.a1 p.n1 p.c1, .bool p.b2, .slice p.a2 p.n2 p.c2] rfl zP4.out (by kernel_rfl) (by simp) (by kernel_rfl) (by kernel_rfl) ?_; rw [← hw5.out])
    | ((have _t : Tok 4 := tok); clear _t; clear tok; (have tok : Tok 5 := .mk _); refine wpList_store_sub rfl 52 (.tmp 19) (.tmp 15) rfl w.heap.size 6 rfl 56 #[.string ⟨#[]⟩, .int .u8 0, .bool p.b1, .slice p.a1 p.n1 p.c1, .bool p.b2, .slice p.a2 p.n2 p.c2, .bool false, .slice none 0 0, .bool false, .slice none 0 0, .int .i64 0] #[.string ⟨#[]⟩, .int .u8 0, .bool p.b1, .slice p.a1 p.n1 p.c1, .bool p.b2, .slice p.a2 p.n2 p.c2, .bool q.b1, .slice q.a1 q.n1 q.c1, .bool q.b2, .slice q.a2 q.n2 q.c2, .int .i64 0] #[.bool q.b1, .slice q.a1 q.n1 q.c1, .bool q.b2, .slice q.a2 q.n2 q.c2] rfl zP5.out (by kernel_rfl) (by simp) (by kernel_rfl) (by kernel_rfl) ?_; rw [← hw6.out]))
  have hap := mkHid (show w.heap.size ∉ Aloof.blks (.agg #[.bool p.b1, .slice p.a1 p.n1 p.c1, .bool p.b2, .slice p.a2 p.n2 p.c2]) ∧ w.heap.size ∉ Aloof.blks (.agg #[.bool q.b1, .slice q.a1 q.n1 q.c1, .bool q.b2, .slice q.a2 q.n2 q.c2]) from ⟨fun h => by have := (hp3.out.span _ h).1; rw [hsz2.out] at this; omega, fun h => by have := (hqs.out _ h); omega⟩)
  clear tok KS KN hw1 hw2 hw5 hw6 zP2 zP4 zP5 zS2 zS3 zP3 hp3 hx3 hE1
  have c0 : w6.cell? ⟨w.heap.size + 1, 0, none⟩ = some (.string ⟨#[98]⟩) := row16_cells zS6.out 0
  have c1 : w6.cell? ⟨w.heap.size + 1, 1, none⟩ = some (.string ⟨#[49]⟩) := row16_cells zS6.out 1
  have c2 : w6.cell? ⟨w.heap.size + 1, 2, none⟩ = some (.string ⟨#[102, 108, 105, 112]⟩) := row16_cells zS6.out 2
  have d1 : w6.cell? ⟨w.heap.size, 1, none⟩ = some (.int .u8 0) := row16_cells zP6.out 1
  have f1 : w6.frozen? ⟨w.heap.size, 1, none⟩ = false := frozen_of_row _ _ _ _ _ zP6.out
  refine wp_loop_rounds 6 ?_
  rw [rounds_succ]
  go_wp2_with (go_at_call 19; refine (K1.out _).mono ?_; rintro e w' ⟨rfl, rfl⟩)
  rw [rounds_succ]
  go_wp2_with (go_at_call 19; refine (K2.out _).mono ?_; rintro e w' ⟨rfl, rfl⟩)
  rw [rounds_succ]
  go_wp2_with (go_at_call 19; refine (K3.out _).mono ?_; rintro e w' ⟨rfl, rfl⟩)
  rw [rounds_succ]
  go_wp2_with (go_at_call 19; refine (K4.out _).mono ?_; rintro e w' ⟨rfl, rfl⟩)
  rw [rounds_succ]
  go_wp2_with (go_at_call 19; refine (K5.out _).mono ?_; rintro e w' ⟨rfl, rfl⟩)
  obtain ⟨w7, hw7⟩ : ∃ w7, w7 = w6.setCell ⟨w.heap.size, 1, none⟩ (.int .u8 5) := ⟨_, rfl⟩
  rw [← hw7]
  have zP7 := mkHid (show w7.heap[w.heap.size]? = some (.cells #[.string ⟨#[]⟩, .int .u8 5, .bool p.b1, .slice p.a1 p.n1 p.c1, .bool p.b2, .slice p.a2 p.n2 p.c2, .bool q.b1, .slice q.a1 q.n1 q.c1, .bool q.b2, .slice q.a2 q.n2 q.c2, .int .i64 0] 56 (0, 0)) by rw [hw7]; exact heap_setCell_same _ _ _ _ _ _ zP6.out)
  have zS7 := mkHid (show w7.heap[w.heap.size + 1]? = some (.cells #[.string ⟨#[98]⟩, .string ⟨#[49]⟩, .string ⟨#[102, 108, 105, 112]⟩] 9 (0, 0)) by rw [hw7, heap_setCell_other _ _ _ _ (by simp)]; exact zS6.out)
  have hp7 := mkHid (show FracR w7 (.agg #[.bool p.b1, .slice p.a1 p.n1 p.c1, .bool p.b2, .slice p.a2 p.n2 p.c2]) 0 by rw [hw7]; exact hp6.out.near fun k hk => heap_setCell_other _ _ _ _ (fun e => by have e' : k = w.heap.size := e; rw [e'] at hk; exact hap.out.1 hk))
  have hq7 := mkHid (show FracR w7 (.agg #[.bool q.b1, .slice q.a1 q.n1 q.c1, .bool q.b2, .slice q.a2 q.n2 q.c2]) 0 by rw [hw7]; exact hq6.out.near fun k hk => heap_setCell_other _ _ _ _ (fun e => by have e' : k = w.heap.size := e; rw [e'] at hk; exact hap.out.2 hk))
  have hE7 := mkHid (show Ext w w7 by rw [hw7]; exact hE6.out.st (Nat.le_refl _) _)
  clear c0 c1 c2 d1 f1 hw7 zP6 zS6 hp6 hq6 hE6
  have c1 : w7.cell? ⟨w.heap.size + 1, 1, none⟩ = some (.string ⟨#[49]⟩) := row16_cells zS7.out 1
  rw [rounds_succ]
  have tok : Tok 20 := .mk _
  go_wp2_with (first
    | ((have _t : Tok 20 := tok); clear _t; clear tok; (have tok : Tok 21 := .mk _); go_at_call 37; refine (KU.out _).mono ?_; rintro e w8 ⟨rfl, hx8⟩; clear c1; (have zP8 := mkHid (hx8.blk zP7.out)); (have zS8 := mkHid (hx8.blk zS7.out)); (have hp8 := mkHid (hp7.out.ext hx8)); (have hq8 := mkHid (hq7.out.ext hx8)); (have hE8 := mkHid (hE7.out.trans hx8)); (have d10 : w8.cell? ⟨w.heap.size, 10, none⟩ = some (.int .i64 0) := row16_cells zP8.out 10); (have f10 : w8.frozen? ⟨w.heap.size, 10, none⟩ = false := frozen_of_row _ _ _ _ _ zP8.out); (have c0 : w8.cell? ⟨w.heap.size + 1, 0, none⟩ = some (.string ⟨#[98]⟩) := row16_cells zS8.out 0); (have d0 : w8.cell? ⟨w.heap.size, 0, none⟩ = some (.string ⟨#[]⟩) := row16_cells zP8.out 0); (have f0 : w8.frozen? ⟨w.heap.size, 0, none⟩ = false := frozen_of_row _ _ _ _ _ zP8.out); clear hx8)
    | ((have _t : Tok 21 := tok); clear _t; clear tok; (have tok : Tok 22 := .mk _); go_at_call 38;
        (obtain ⟨w9, hw9⟩ : ∃ w9, w9 = (w8.setCell ⟨w.heap.size, 10, none⟩ (.int .i64 1)).setCell ⟨w.heap.size, 0, none⟩ (.string ⟨#[98]⟩) := ⟨_, rfl⟩); rw [← hw9];
        (have zP9 : w9.heap[w.heap.size]? = some (.cells #[.string ⟨#[98]⟩, .int .u8 5, .bool p.b1, .slice p.a1 p.n1 p.c1, .bool p.b2, .slice p.a2 p.n2 p.c2, .bool q.b1, .slice q.a1 q.n1 q.c1, .bool q.b2, .slice q.a2 q.n2 q.c2, .int .i64 1] 56 (0, 0)) := by rw [hw9]; exact heap_setCell_same _ _ _ _ _ _ (heap_setCell_same _ _ _ _ _ _ zP8.out));
        (have hnear : ∀ k, k ≠ w.heap.size → w9.heap[k]? = w8.heap[k]? := fun k hk => by rw [hw9]; exact (heap_setCell_other _ _ _ _ hk).trans (heap_setCell_other _ _ _ _ hk));
        (have hp9 : FracR w9 (.agg #[.bool p.b1, .slice p.a1 p.n1 p.c1, .bool p.b2, .slice p.a2 p.n2 p.c2]) 0 := hp8.out.near fun k hk => hnear k (fun e => by rw [e] at hk; exact hap.out.1 hk));
        (have hq9 : FracR w9 (.agg #[.bool q.b1, .slice q.a1 q.n1 q.c1, .bool q.b2, .slice q.a2 q.n2 q.c2]) 0 := hq8.out.near fun k hk => hnear k (fun e => by rw [e] at hk; exact hap.out.2 hk));
        (have hE9 : Ext w w9 := by rw [hw9]; exact (hE8.out.st (Nat.le_refl _) _).st (Nat.le_refl _) _);
        refine (KD.out _).mono ?_; rintro e w10 ⟨rfl, hx⟩; (have zP10 := mkHid (hx.blk zP9)); (have hp10 := mkHid (hp9.ext hx)); (have hq10 := mkHid (hq9.ext hx)); (have hE10 := mkHid (hE9.trans hx)); clear hx zP9 hp9 hq9 hE9 hnear hw9 d10 f10 c0 d0 f0 zP8 zS8 hp8 hq8 hE8))
  clear tok
  obtain ⟨w11, hw11⟩ : ∃ w11, w11 = w10.alloc (.cells #[.pointer (some ⟨w.heap.size, 2, none⟩), .pointer (some ⟨w.heap.size, 6, none⟩)] 94) := ⟨_, rfl⟩
  rw [← hw11]
  have hx11 : Ext w10 w11 := by rw [hw11]; exact (Ext.refl _).al _
  have zP11 := mkHid (hx11.blk zP10.out)
  have hp11 := mkHid (hp10.out.ext hx11)
  have hq11 := mkHid (hq10.out.ext hx11)
  have hE11 := mkHid (hE10.out.trans hx11)
  clear hx11 hw11 zP10 hp10 hq10 hE10
  refine wp_loop_rounds 1 ?_
  rw [rounds_succ]
  have tok : Tok 30 := .mk _
  go_wp2_with (first
    | ((have _t : Tok 30 := tok); clear _t; clear tok; (have tok : Tok 31 := .mk _); refine wpList_load_row (by rfl) 56 (.tmp 2) rfl w.heap.size rfl 56 #[.string ⟨#[98]⟩, .int .u8 5, .bool p.b1, .slice p.a1 p.n1 p.c1, .bool p.b2, .slice p.a2 p.n2 p.c2, .bool q.b1, .slice q.a1 q.n1 q.c1, .bool q.b2, .slice q.a2 q.n2 q.c2, .int .i64 1] (0, 0) _ zP11.out Tryz.underlying56 rfl (by kernel_rfl) ?_)
    | ((have _t : Tok 31 := tok); clear _t; clear tok; (have tok : Tok 32 := .mk _); go_at_call 40; refine (KM.out _ p q hp11.out hq11.out).mono ?_; rintro e w12 ⟨rfl, hx⟩; (have zP12 := mkHid (hx.blk zP11.out)); (have hp12 := mkHid (hp11.out.ext hx)); (have hq12 := mkHid (hq11.out.ext hx)); (have hE12 := mkHid (hE11.out.trans hx)); clear hx zP11 hp11 hq11 hE11)
    | ((have _t : Tok 32 := tok); clear _t; clear tok; (have tok : Tok 33 := .mk _); refine wpList_load_row (by rfl) 56 (.tmp 2) rfl w.heap.size rfl 56 #[.string ⟨#[98]⟩, .int .u8 5, .bool p.b1, .slice p.a1 p.n1 p.c1, .bool p.b2, .slice p.a2 p.n2 p.c2, .bool q.b1, .slice q.a1 q.n1 q.c1, .bool q.b2, .slice q.a2 q.n2 q.c2, .int .i64 1] (0, 0) _ zP12.out Tryz.underlying56 rfl (by kernel_rfl) ?_)
    | ((have _t : Tok 33 := tok); clear _t; clear tok; (have tok : Tok 34 := .mk _); refine wpList_store_row rfl 56 (.tmp 2) (.tmp 106) rfl w.heap.size #[.string ⟨#[98]⟩, .int .u8 5, .bool p.b1, .slice p.a1 p.n1 p.c1, .bool p.b2, .slice p.a2 p.n2 p.c2, .bool q.b1, .slice q.a1 q.n1 q.c1, .bool q.b2, .slice q.a2 q.n2 q.c2, .int .i64 1] rfl rfl 56 _ zP12.out (by kernel_rfl) rfl (by kernel_rfl) ?_))
  refine bodyPost_ret (results_row_tmp rfl _ _ w.heap.size 56 #[.string ⟨#[98]⟩, .int .u8 5, .bool p.b1, .slice p.a1 p.n1 p.c1, .bool p.b2, .slice p.a2 p.n2 p.c2, .bool q.b1, .slice q.a1 q.n1 q.c1, .bool q.b2, .slice q.a2 q.n2 q.c2, .int .i64 1] _ _ rfl rfl (setRow_heap _ _ _ _ _ _ zP12.out) Tryz.underlying56 rfl (by kernel_rfl)) rfl ?_
  exact ⟨_, rfl, ⟨p, q, rfl, hp12.out.near fun k hk => setRow_other _ _ _ _ (fun e => by have e' : k = w.heap.size := (by omega); rw [e'] at hk; exact hap.out.1 hk), hq12.out.near fun k hk => setRow_other _ _ _ _ (fun e => by have e' : k = w.heap.size := (by omega); rw [e'] at hk; exact hap.out.2 hk)⟩, hE12.out.row (Nat.le_refl _) _⟩
set_option maxRecDepth 100000 in
set_option maxHeartbeats 6400000 in
theorem read_a (w : World) (hm : Max0 w) : Calls Tryz.prog 16 #[.string ⟨#[97, 32, 49, 32, 102, 108, 105, 112]⟩] w fun e w' => ∃ v, e = .returned (.tuple #[v, .int .i64 0]) ∧ FlipP ⟨#[97]⟩ w' v ∧ Ext w w' := by
  obtain ⟨w1, hw1⟩ : ∃ w1, w1 = w.alloc (.cells #[.string ⟨#[]⟩, .int .u8 0, .bool false, .slice none 0 0, .bool false, .slice none 0 0, .bool false, .slice none 0 0, .bool false, .slice none 0 0, .int .i64 0] 56) := ⟨_, rfl⟩
  have hE1 : Ext w w1 := by rw [hw1]; exact (Ext.refl w).al _
  have zP1 : w1.heap[w.heap.size]? = some (.cells #[.string ⟨#[]⟩, .int .u8 0, .bool false, .slice none 0 0, .bool false, .slice none 0 0, .bool false, .slice none 0 0, .bool false, .slice none 0 0, .int .i64 0] 56 (0, 0)) := by rw [hw1]; exact heap_alloc_new _ _
  have hsz1 : w1.heap.size = w.heap.size + 1 := by rw [hw1]; simp
  obtain ⟨mx, hmx⟩ := hm.ext hE1
  have KS := Tryz.strings_Split ⟨#[97, 32, 49, 32, 102, 108, 105, 112]⟩ ⟨#[32]⟩ mx w1 (by decide) hmx (by decide)
  have ec : Lib.countB ⟨#[97, 32, 49, 32, 102, 108, 105, 112]⟩ ⟨#[32]⟩ = 2 := by kernel_rfl
  rw [ec] at KS
  have es : Lib.splitB ⟨#[32]⟩ 0 2 ⟨#[97, 32, 49, 32, 102, 108, 105, 112]⟩ = [⟨#[97]⟩, ⟨#[49]⟩, ⟨#[102, 108, 105, 112]⟩] := by kernel_rfl
  rw [es] at KS
  obtain ⟨w2, hw2⟩ : ∃ w2, w2 = w1.alloc (.cells (([⟨#[97]⟩, ⟨#[49]⟩, ⟨#[102, 108, 105, 112]⟩] : List ByteArray).map Value.string).toArray 9) := ⟨_, rfl⟩
  have hE2 : Ext w1 w2 := by rw [hw2]; exact (Ext.refl w1).al _
  have zS2 : w2.heap[w.heap.size + 1]? = some (.cells #[.string ⟨#[97]⟩, .string ⟨#[49]⟩, .string ⟨#[102, 108, 105, 112]⟩] 9 (0, 0)) := by rw [hw2, ← hsz1]; exact heap_alloc_new _ _
  have zP2 := hE2.blk zP1
  have hsz2 : w2.heap.size = w.heap.size + 2 := by rw [hw2]; simp [hsz1]
  have KN := mkHid (fun W => nought_f W)
  have K1 := mkHid (fun W => word_c 1 W)
  have K2 := mkHid (fun W => word_c 2 W)
  have K3 := mkHid (fun W => word_c 3 W)
  have K4 := mkHid (fun W => word_c 4 W)
  have K5 := mkHid (fun W => word_c 5 W)
  have KU := mkHid (fun W => number_one W)
  have KD := mkHid (fun W => named_c ⟨#[97]⟩ W (by decide))
  have en : nameB ((⟨#[97]⟩ : ByteArray).data.toList) = true := by decide
  rw [en] at KD
  have KM := mkHid (fun (W : World) (p q : FV) (h1 : FracR W (.agg #[.bool p.b1, .slice p.a1 p.n1 p.c1, .bool p.b2, .slice p.a2 p.n2 p.c2]) 0) (h2 : FracR W (.agg #[.bool q.b1, .slice q.a1 q.n1 q.c1, .bool q.b2, .slice q.a2 q.n2 q.c2]) 0) => may_v ⟨#[97]⟩ 5 1 p q (some 0) (some 0) W (by have := h1.any (Nat.le_trans nf_none (by decide)); rwa [if_pos nf_none] at this) (by have := h2.any (Nat.le_trans nf_none (by decide)); rwa [if_pos nf_none] at this))
  have em : mayP 5 1 (some 0) (some 0) = true := by decide
  rw [em] at KM
  have q1 : ((⟨(wordB 1).toArray⟩ : ByteArray).toList == [102, 108, 105, 112]) = false := by rw [ByteArray.toList_eq]; decide
  have q2 : ((⟨(wordB 2).toArray⟩ : ByteArray).toList == [102, 108, 105, 112]) = false := by rw [ByteArray.toList_eq]; decide
  have q3 : ((⟨(wordB 3).toArray⟩ : ByteArray).toList == [102, 108, 105, 112]) = false := by rw [ByteArray.toList_eq]; decide
  have q4 : ((⟨(wordB 4).toArray⟩ : ByteArray).toList == [102, 108, 105, 112]) = false := by rw [ByteArray.toList_eq]; decide
  have q5 : ((⟨(wordB 5).toArray⟩ : ByteArray).toList == [102, 108, 105, 112]) = true := by rw [ByteArray.toList_eq]; decide
  have n5 : ((wordN 5 : Nat) : Int) = 0 := by decide
  generalize (⟨(wordB 1).toArray⟩ : ByteArray) = s1 at *
  generalize (⟨(wordB 2).toArray⟩ : ByteArray) = s2 at *
  generalize (⟨(wordB 3).toArray⟩ : ByteArray) = s3 at *
  generalize (⟨(wordB 4).toArray⟩ : ByteArray) = s4 at *
  generalize (⟨(wordB 5).toArray⟩ : ByteArray) = s5 at *
  rw [n5] at K5
  generalize ((wordN 1 : Nat) : Int) = n1 at *
  generalize ((wordN 2 : Nat) : Int) = n2 at *
  generalize ((wordN 3 : Nat) : Int) = n3 at *
  generalize ((wordN 4 : Nat) : Int) = n4 at *
  rw [hsz1, ← hw2] at KS
  replace KS := mkHid KS
  replace hw1 := mkHid hw1
  replace hw2 := mkHid hw2
  replace hE1 := mkHid (hE1.trans hE2)
  replace zP2 := mkHid zP2
  replace zS2 := mkHid zS2
  replace hsz1 := mkHid hsz1
  replace hsz2 := mkHid hsz2
  clear zP1 hE2 hmx hm ec es en em n5
  go_enter Tryz.func16, Tryz.ntmps16
  have tok : Tok 0 := .mk _
  go_wp2_with (first
    | ((have _t : Tok 0 := tok); clear _t; clear tok; (have tok : Tok 1 := .mk _); go_at_call 35; rw [← hw1.out]; refine KS.out.mono ?_; rintro e w' ⟨rfl, rfl⟩)
    | ((have _t : Tok 1 := tok); clear _t; clear tok; (have tok : Tok 2 := .mk _); go_at_call 36; refine (KN.out _).mono ?_; rintro e w3 ⟨vp, rfl, hx3, hp3⟩; (obtain ⟨p, rfl⟩ := hp3.r.fv); (have zP3 := mkHid (hx3.blk zP2.out)); (have zS3 := mkHid (hx3.blk zS2.out)); replace hp3 := mkHid hp3; replace hx3 := mkHid hx3)
    | ((have _t : Tok 2 := tok); clear _t; clear tok; (have tok : Tok 3 := .mk _); go_at_call 36; refine (KN.out _).mono ?_; rintro e w4 ⟨vq, rfl, hx4, hq4⟩; (obtain ⟨q, rfl⟩ := hq4.r.fv); (have zP4 := hx4.blk zP3.out); (have zS4 := hx4.blk zS3.out);
        (obtain ⟨w5, hw5⟩ : ∃ w5, w5 = w4.setRow w.heap.size #[.string ⟨#[]⟩, .int .u8 0, .bool p.b1, .slice p.a1 p.n1 p.c1, .bool p.b2, .slice p.a2 p.n2 p.c2, .bool false, .slice none 0 0, .bool false, .slice none 0 0, .int .i64 0] := ⟨_, rfl⟩);
        (have zP5 := mkHid (show w5.heap[w.heap.size]? = some (.cells #[.string ⟨#[]⟩, .int .u8 0, .bool p.b1, .slice p.a1 p.n1 p.c1, .bool p.b2, .slice p.a2 p.n2 p.c2, .bool false, .slice none 0 0, .bool false, .slice none 0 0, .int .i64 0] 56 (0, 0)) by rw [hw5]; exact setRow_heap _ _ _ _ _ _ zP4));
        (obtain ⟨w6, hw6⟩ : ∃ w6, w6 = w5.setRow w.heap.size #[.string ⟨#[]⟩, .int .u8 0, .bool p.b1, .slice p.a1 p.n1 p.c1, .bool p.b2, .slice p.a2 p.n2 p.c2, .bool q.b1, .slice q.a1 q.n1 q.c1, .bool q.b2, .slice q.a2 q.n2 q.c2, .int .i64 0] := ⟨_, rfl⟩);
        (have zP6 := mkHid (show w6.heap[w.heap.size]? = some (.cells #[.string ⟨#[]⟩, .int .u8 0, .bool p.b1, .slice p.a1 p.n1 p.c1, .bool p.b2, .slice p.a2 p.n2 p.c2, .bool q.b1, .slice q.a1 q.n1 q.c1, .bool q.b2, .slice q.a2 q.n2 q.c2, .int .i64 0] 56 (0, 0)) by rw [hw6]; exact setRow_heap _ _ _ _ _ _ zP5.out));
        (have zS6 := mkHid (show w6.heap[w.heap.size + 1]? = some (.cells #[.string ⟨#[97]⟩, .string ⟨#[49]⟩, .string ⟨#[102, 108, 105, 112]⟩] 9 (0, 0)) by rw [hw6, setRow_other _ _ _ _ (by omega), hw5, setRow_other _ _ _ _ (by omega)]; exact zS4));
        (have hE6 := mkHid (show Ext w w6 by rw [hw6, hw5]; exact (((hE1.out.trans hx3.out).trans hx4).row (Nat.le_refl _) _).row (Nat.le_refl _) _));
        (have hp6 := mkHid (show FracR w6 (.agg #[.bool p.b1, .slice p.a1 p.n1 p.c1, .bool p.b2, .slice p.a2 p.n2 p.c2]) 0 by rw [hw6, hw5]; exact (((hp3.out.ext hx4).row (by rw [hsz2.out]; omega) _).row (by rw [hsz2.out]; omega) _).r));
        (have hq6 := mkHid (show FracR w6 (.agg #[.bool q.b1, .slice q.a1 q.n1 q.c1, .bool q.b2, .slice q.a2 q.n2 q.c2]) 0 by rw [hw6, hw5]; exact ((hq4.row (by have := hx3.out.size; rw [hsz2.out] at this; omega) _).row (by have := hx3.out.size; rw [hsz2.out] at this; omega) _).r));
        (have hqs := mkHid (fun k (h : k ∈ Aloof.blks (.agg #[.bool q.b1, .slice q.a1 q.n1 q.c1, .bool q.b2, .slice q.a2 q.n2 q.c2])) => show w.heap.size + 2 ≤ k by have := (hq4.span k h).1; have h2 := hx3.out.size; rw [hsz2.out] at h2; omega)); replace zP4 := mkHid zP4; replace hw5 := mkHid hw5; replace hw6 := mkHid hw6; clear hx4 hq4 zS4)
    | ((have _t : Tok 3 := tok); clear _t; clear tok; (have tok : Tok 4 := .mk _); refine wpList_store_sub rfl 52 (.tmp 17) (.tmp 14) rfl w.heap.size 2 rfl 56 #[.string ⟨#[]⟩, .int .u8 0, .bool false, .slice none 0 0, .bool false, .slice none 0 0, .bool false, .slice none 0 0, .bool false, .slice none 0 0, .int .i64 0] #[.string ⟨#[]⟩, .int .u8 0, .bool p.b1, .slice p.a1 p.n1 p.c1, .bool p.b2, .slice p.a2 p.n2 p.c2, .bool false, .slice none 0 0, .bool false, .slice none 0 0, .int .i64 0] #[.bool p.b1, .slice p.a1 p.n1 p.c1, .bool p.b2, .slice p.a2 p.n2 p.c2] rfl zP4.out (by kernel_rfl) (by simp) (by kernel_rfl) (by kernel_rfl) ?_; rw [← hw5.out])
    | ((have _t : Tok 4 := tok); clear _t; clear tok; (have tok : Tok 5 := .mk _); refine wpList_store_sub rfl 52 (.tmp 19) (.tmp 15) rfl w.heap.size 6 rfl 56 #[.string ⟨#[]⟩, .int .u8 0, .bool p.b1, .slice p.a1 p.n1 p.c1, .bool p.b2, .slice p.a2 p.n2 p.c2, .bool false, .slice none 0 0, .bool false, .slice none 0 0, .int .i64 0] #[.string ⟨#[]⟩, .int .u8 0, .bool p.b1, .slice p.a1 p.n1 p.c1, .bool p.b2, .slice p.a2 p.n2 p.c2, .bool q.b1, .slice q.a1 q.n1 q.c1, .bool q.b2, .slice q.a2 q.n2 q.c2, .int .i64 0] #[.bool q.b1, .slice q.a1 q.n1 q.c1, .bool q.b2, .slice q.a2 q.n2 q.c2] rfl zP5.out (by kernel_rfl) (by simp) (by kernel_rfl) (by kernel_rfl) ?_; rw [← hw6.out]))
  have hap := mkHid (show w.heap.size ∉ Aloof.blks (.agg #[.bool p.b1, .slice p.a1 p.n1 p.c1, .bool p.b2, .slice p.a2 p.n2 p.c2]) ∧ w.heap.size ∉ Aloof.blks (.agg #[.bool q.b1, .slice q.a1 q.n1 q.c1, .bool q.b2, .slice q.a2 q.n2 q.c2]) from ⟨fun h => by have := (hp3.out.span _ h).1; rw [hsz2.out] at this; omega, fun h => by have := (hqs.out _ h); omega⟩)
  clear tok KS KN hw1 hw2 hw5 hw6 zP2 zP4 zP5 zS2 zS3 zP3 hp3 hx3 hE1
  have c0 : w6.cell? ⟨w.heap.size + 1, 0, none⟩ = some (.string ⟨#[97]⟩) := row16_cells zS6.out 0
  have c1 : w6.cell? ⟨w.heap.size + 1, 1, none⟩ = some (.string ⟨#[49]⟩) := row16_cells zS6.out 1
  have c2 : w6.cell? ⟨w.heap.size + 1, 2, none⟩ = some (.string ⟨#[102, 108, 105, 112]⟩) := row16_cells zS6.out 2
  have d1 : w6.cell? ⟨w.heap.size, 1, none⟩ = some (.int .u8 0) := row16_cells zP6.out 1
  have f1 : w6.frozen? ⟨w.heap.size, 1, none⟩ = false := frozen_of_row _ _ _ _ _ zP6.out
  refine wp_loop_rounds 6 ?_
  rw [rounds_succ]
  go_wp2_with (go_at_call 19; refine (K1.out _).mono ?_; rintro e w' ⟨rfl, rfl⟩)
  rw [rounds_succ]
  go_wp2_with (go_at_call 19; refine (K2.out _).mono ?_; rintro e w' ⟨rfl, rfl⟩)
  rw [rounds_succ]
  go_wp2_with (go_at_call 19; refine (K3.out _).mono ?_; rintro e w' ⟨rfl, rfl⟩)
  rw [rounds_succ]
  go_wp2_with (go_at_call 19; refine (K4.out _).mono ?_; rintro e w' ⟨rfl, rfl⟩)
  rw [rounds_succ]
  go_wp2_with (go_at_call 19; refine (K5.out _).mono ?_; rintro e w' ⟨rfl, rfl⟩)
  obtain ⟨w7, hw7⟩ : ∃ w7, w7 = w6.setCell ⟨w.heap.size, 1, none⟩ (.int .u8 5) := ⟨_, rfl⟩
  rw [← hw7]
  have zP7 := mkHid (show w7.heap[w.heap.size]? = some (.cells #[.string ⟨#[]⟩, .int .u8 5, .bool p.b1, .slice p.a1 p.n1 p.c1, .bool p.b2, .slice p.a2 p.n2 p.c2, .bool q.b1, .slice q.a1 q.n1 q.c1, .bool q.b2, .slice q.a2 q.n2 q.c2, .int .i64 0] 56 (0, 0)) by rw [hw7]; exact heap_setCell_same _ _ _ _ _ _ zP6.out)
  have zS7 := mkHid (show w7.heap[w.heap.size + 1]? = some (.cells #[.string ⟨#[97]⟩, .string ⟨#[49]⟩, .string ⟨#[102, 108, 105, 112]⟩] 9 (0, 0)) by rw [hw7, heap_setCell_other _ _ _ _ (by simp)]; exact zS6.out)
  have hp7 := mkHid (show FracR w7 (.agg #[.bool p.b1, .slice p.a1 p.n1 p.c1, .bool p.b2, .slice p.a2 p.n2 p.c2]) 0 by rw [hw7]; exact hp6.out.near fun k hk => heap_setCell_other _ _ _ _ (fun e => by have e' : k = w.heap.size := e; rw [e'] at hk; exact hap.out.1 hk))
  have hq7 := mkHid (show FracR w7 (.agg #[.bool q.b1, .slice q.a1 q.n1 q.c1, .bool q.b2, .slice q.a2 q.n2 q.c2]) 0 by rw [hw7]; exact hq6.out.near fun k hk => heap_setCell_other _ _ _ _ (fun e => by have e' : k = w.heap.size := e; rw [e'] at hk; exact hap.out.2 hk))
  have hE7 := mkHid (show Ext w w7 by rw [hw7]; exact hE6.out.st (Nat.le_refl _) _)
  clear c0 c1 c2 d1 f1 hw7 zP6 zS6 hp6 hq6 hE6
  have c1 : w7.cell? ⟨w.heap.size + 1, 1, none⟩ = some (.string ⟨#[49]⟩) := row16_cells zS7.out 1
  rw [rounds_succ]
  have tok : Tok 20 := .mk _
  go_wp2_with (first
    | ((have _t : Tok 20 := tok); clear _t; clear tok; (have tok : Tok 21 := .mk _); go_at_call 37; refine (KU.out _).mono ?_; rintro e w8 ⟨rfl, hx8⟩; clear c1; (have zP8 := mkHid (hx8.blk zP7.out)); (have zS8 := mkHid (hx8.blk zS7.out)); (have hp8 := mkHid (hp7.out.ext hx8)); (have hq8 := mkHid (hq7.out.ext hx8)); (have hE8 := mkHid (hE7.out.trans hx8)); (have d10 : w8.cell? ⟨w.heap.size, 10, none⟩ = some (.int .i64 0) := row16_cells zP8.out 10); (have f10 : w8.frozen? ⟨w.heap.size, 10, none⟩ = false := frozen_of_row _ _ _ _ _ zP8.out); (have c0 : w8.cell? ⟨w.heap.size + 1, 0, none⟩ = some (.string ⟨#[97]⟩) := row16_cells zS8.out 0); (have d0 : w8.cell? ⟨w.heap.size, 0, none⟩ = some (.string ⟨#[]⟩) := row16_cells zP8.out 0); (have f0 : w8.frozen? ⟨w.heap.size, 0, none⟩ = false := frozen_of_row _ _ _ _ _ zP8.out); clear hx8)
    | ((have _t : Tok 21 := tok); clear _t; clear tok; (have tok : Tok 22 := .mk _); go_at_call 38;
        (obtain ⟨w9, hw9⟩ : ∃ w9, w9 = (w8.setCell ⟨w.heap.size, 10, none⟩ (.int .i64 1)).setCell ⟨w.heap.size, 0, none⟩ (.string ⟨#[97]⟩) := ⟨_, rfl⟩); rw [← hw9];
        (have zP9 : w9.heap[w.heap.size]? = some (.cells #[.string ⟨#[97]⟩, .int .u8 5, .bool p.b1, .slice p.a1 p.n1 p.c1, .bool p.b2, .slice p.a2 p.n2 p.c2, .bool q.b1, .slice q.a1 q.n1 q.c1, .bool q.b2, .slice q.a2 q.n2 q.c2, .int .i64 1] 56 (0, 0)) := by rw [hw9]; exact heap_setCell_same _ _ _ _ _ _ (heap_setCell_same _ _ _ _ _ _ zP8.out));
        (have hnear : ∀ k, k ≠ w.heap.size → w9.heap[k]? = w8.heap[k]? := fun k hk => by rw [hw9]; exact (heap_setCell_other _ _ _ _ hk).trans (heap_setCell_other _ _ _ _ hk));
        (have hp9 : FracR w9 (.agg #[.bool p.b1, .slice p.a1 p.n1 p.c1, .bool p.b2, .slice p.a2 p.n2 p.c2]) 0 := hp8.out.near fun k hk => hnear k (fun e => by rw [e] at hk; exact hap.out.1 hk));
        (have hq9 : FracR w9 (.agg #[.bool q.b1, .slice q.a1 q.n1 q.c1, .bool q.b2, .slice q.a2 q.n2 q.c2]) 0 := hq8.out.near fun k hk => hnear k (fun e => by rw [e] at hk; exact hap.out.2 hk));
        (have hE9 : Ext w w9 := by rw [hw9]; exact (hE8.out.st (Nat.le_refl _) _).st (Nat.le_refl _) _);
        refine (KD.out _).mono ?_; rintro e w10 ⟨rfl, hx⟩; (have zP10 := mkHid (hx.blk zP9)); (have hp10 := mkHid (hp9.ext hx)); (have hq10 := mkHid (hq9.ext hx)); (have hE10 := mkHid (hE9.trans hx)); clear hx zP9 hp9 hq9 hE9 hnear hw9 d10 f10 c0 d0 f0 zP8 zS8 hp8 hq8 hE8))
  clear tok
  obtain ⟨w11, hw11⟩ : ∃ w11, w11 = w10.alloc (.cells #[.pointer (some ⟨w.heap.size, 2, none⟩), .pointer (some ⟨w.heap.size, 6, none⟩)] 94) := ⟨_, rfl⟩
  rw [← hw11]
  have hx11 : Ext w10 w11 := by rw [hw11]; exact (Ext.refl _).al _
  have zP11 := mkHid (hx11.blk zP10.out)
  have hp11 := mkHid (hp10.out.ext hx11)
  have hq11 := mkHid (hq10.out.ext hx11)
  have hE11 := mkHid (hE10.out.trans hx11)
  clear hx11 hw11 zP10 hp10 hq10 hE10
  refine wp_loop_rounds 1 ?_
  rw [rounds_succ]
  have tok : Tok 30 := .mk _
  go_wp2_with (first
    | ((have _t : Tok 30 := tok); clear _t; clear tok; (have tok : Tok 31 := .mk _); refine wpList_load_row (by rfl) 56 (.tmp 2) rfl w.heap.size rfl 56 #[.string ⟨#[97]⟩, .int .u8 5, .bool p.b1, .slice p.a1 p.n1 p.c1, .bool p.b2, .slice p.a2 p.n2 p.c2, .bool q.b1, .slice q.a1 q.n1 q.c1, .bool q.b2, .slice q.a2 q.n2 q.c2, .int .i64 1] (0, 0) _ zP11.out Tryz.underlying56 rfl (by kernel_rfl) ?_)
    | ((have _t : Tok 31 := tok); clear _t; clear tok; (have tok : Tok 32 := .mk _); go_at_call 40; refine (KM.out _ p q hp11.out hq11.out).mono ?_; rintro e w12 ⟨rfl, hx⟩; (have zP12 := mkHid (hx.blk zP11.out)); (have hp12 := mkHid (hp11.out.ext hx)); (have hq12 := mkHid (hq11.out.ext hx)); (have hE12 := mkHid (hE11.out.trans hx)); clear hx zP11 hp11 hq11 hE11)
    | ((have _t : Tok 32 := tok); clear _t; clear tok; (have tok : Tok 33 := .mk _); refine wpList_load_row (by rfl) 56 (.tmp 2) rfl w.heap.size rfl 56 #[.string ⟨#[97]⟩, .int .u8 5, .bool p.b1, .slice p.a1 p.n1 p.c1, .bool p.b2, .slice p.a2 p.n2 p.c2, .bool q.b1, .slice q.a1 q.n1 q.c1, .bool q.b2, .slice q.a2 q.n2 q.c2, .int .i64 1] (0, 0) _ zP12.out Tryz.underlying56 rfl (by kernel_rfl) ?_)
    | ((have _t : Tok 33 := tok); clear _t; clear tok; (have tok : Tok 34 := .mk _); refine wpList_store_row rfl 56 (.tmp 2) (.tmp 106) rfl w.heap.size #[.string ⟨#[97]⟩, .int .u8 5, .bool p.b1, .slice p.a1 p.n1 p.c1, .bool p.b2, .slice p.a2 p.n2 p.c2, .bool q.b1, .slice q.a1 q.n1 q.c1, .bool q.b2, .slice q.a2 q.n2 q.c2, .int .i64 1] rfl rfl 56 _ zP12.out (by kernel_rfl) rfl (by kernel_rfl) ?_))
  refine bodyPost_ret (results_row_tmp rfl _ _ w.heap.size 56 #[.string ⟨#[97]⟩, .int .u8 5, .bool p.b1, .slice p.a1 p.n1 p.c1, .bool p.b2, .slice p.a2 p.n2 p.c2, .bool q.b1, .slice q.a1 q.n1 q.c1, .bool q.b2, .slice q.a2 q.n2 q.c2, .int .i64 1] _ _ rfl rfl (setRow_heap _ _ _ _ _ _ zP12.out) Tryz.underlying56 rfl (by kernel_rfl)) rfl ?_
  exact ⟨_, rfl, ⟨p, q, rfl, hp12.out.near fun k hk => setRow_other _ _ _ _ (fun e => by have e' : k = w.heap.size := (by omega); rw [e'] at hk; exact hap.out.1 hk), hq12.out.near fun k hk => setRow_other _ _ _ _ (fun e => by have e' : k = w.heap.size := (by omega); rw [e'] at hk; exact hap.out.2 hk)⟩, hE12.out.row (Nat.le_refl _) _⟩
end Go.Proofs.YtjelnmokcpoofaaGreatDoor
namespace Go.Proofs.YtjelnmokcpoofaaGreatDoor
set_option maxRecDepth 100000
open Go Go.RowKit Go.Proofs
/-! The library's Cut at one byte. -/
theorem cut_hit (c : UInt8) (s : ByteArray) (W : World) (hs : s.size < 4294967281) (hm : Max0 W) {x y : List UInt8} (h : cutL c s.data.toList = some (x, y)) :
    Calls Tryz.prog 15 #[.string s, .string ⟨#[c]⟩] W fun e w' => e = .returned (.tuple #[.string ⟨x.toArray⟩, .string ⟨y.toArray⟩, .bool true]) ∧ Ext W w' := by
  obtain ⟨m, hm⟩ := hm
  refine (Tryz.strings_Cut s ⟨#[c]⟩ m W hs hm).mono ?_
  rintro e w' ⟨rfl, n, rfl⟩
  have e2 : Lib.cut s.data.toList (⟨#[c]⟩ : ByteArray).data.toList = (x, y, true) := by
    show Lib.cut s.data.toList [c] = _
    rw [cut_eq, h]
  rw [e2]
  exact ⟨rfl, (Ext.refl W).drN n⟩
theorem str_mk (s : ByteArray) : (⟨s.data.toList.toArray⟩ : ByteArray) = s := by
  apply ByteArray.ext
  simp
theorem cut_miss (c : UInt8) (s : ByteArray) (W : World) (hs : s.size < 4294967281) (hm : Max0 W) (h : cutL c s.data.toList = none) :
    Calls Tryz.prog 15 #[.string s, .string ⟨#[c]⟩] W fun e w' => e = .returned (.tuple #[.string s, .string ⟨#[]⟩, .bool false]) ∧ Ext W w' := by
  obtain ⟨m, hm⟩ := hm
  refine (Tryz.strings_Cut s ⟨#[c]⟩ m W hs hm).mono ?_
  rintro e w' ⟨rfl, n, rfl⟩
  have e2 : Lib.cut s.data.toList (⟨#[c]⟩ : ByteArray).data.toList = (s.data.toList, [], false) := by
    show Lib.cut s.data.toList [c] = _
    rw [cut_eq, h]
  rw [e2]
  simp only [str_mk]
  exact ⟨trivial, (Ext.refl W).drN n⟩
/-! Whole, answered. -/
set_option maxHeartbeats 1600000 in
theorem whole_o (v : Value) (X : Int) (b : Nat) (w : World) (h : IntO w b v X) (hb : b ≤ w.heap.size) :
    Calls Tryz.prog 126 #[v] w fun e w' => ∃ f : FV, e = .returned (.agg #[.bool f.b1, .slice f.a1 f.n1 f.c1, .bool f.b2, .slice f.a2 f.n2 f.c2]) ∧ Ext w w' ∧ FracO w' b (.agg #[.bool f.b1, .slice f.a1 f.n1 f.c1, .bool f.b2, .slice f.a2 f.n2 f.c2]) (X : Rat) := by
  have H := h
  obtain ⟨p, q, r, s, rfl⟩ := h.r.shape
  have ho := mkHid (fun w => of_c 1 w (by omega) (by omega))
  obtain ⟨wb, hwb⟩ : ∃ wb, wb = (w.alloc (.cells #[.bool p, .slice q r s] 50)).alloc (.cells #[.bool false, .slice none 0 0, .bool false, .slice none 0 0] 52) := ⟨_, rfl⟩
  have hE : Ext w wb := by rw [hwb]; exact ((Ext.refl w).al _).al _
  have c0 : ∀ W, Ext wb W → W.cell? ⟨w.heap.size, 0, none⟩ = some (.bool p) := fun W e => e.cell (by rw [hwb]; go_simp)
  have c1 : ∀ W, Ext wb W → W.cell? ⟨w.heap.size, 1, none⟩ = some (.slice q r s) := fun W e => e.cell (by rw [hwb]; go_simp)
  have hB := mkHid (fun W (e : Ext wb W) => (e.blk (show wb.heap[w.heap.size + 1]? = some (.cells #[.bool false, .slice none 0 0, .bool false, .slice none 0 0] 52 (0, 0)) by rw [hwb]; exact heap_at _ _ _ (by simp))))
  have hsz : w.heap.size + 2 ≤ wb.heap.size := by rw [hwb]; simp
  have h0 := mkHid (fun k (hk : k ∈ Aloof.blks (.agg #[.bool p, .slice q r s])) => (h.span k hk).2)
  replace H := mkHid (H.ext hE)
  replace hE := mkHid hE
  clear h
  go_enter Tryz.func126, Tryz.ntmps126
  go_wp2_with fail
  rw [← hwb]
  clear hwb
  apply region_ext [.val (.agg #[.bool p, .slice q r s]), .pred (fun W v => IntO W (w.heap.size + 2) v 1)] (by kernel_rfl) (stable_vals _ (st_intO _ _ trivial))
  refine ⟨fun W hW _ => by have := c0 W hW; have := c1 W hW; go_simp; first | exact ⟨Ext.refl _, rfl⟩ | exact Ext.refl _, ?_⟩
  refine ⟨fun W hW hF => ?g1, fun v1 => fun W hW hF => ?fin⟩
  case g1 =>
    clear hF
    go_simp
    refine (ho.out W).mono ?_
    rintro e w' ⟨v, rfl, h1, h2⟩
    exact ⟨v, rfl, h1, h2.mono (Nat.le_trans hsz hW.size)⟩
  case fin =>
    have d1 : IntO W (w.heap.size + 2) v1 1 := hF.1 rfl
    obtain ⟨y1, y2, y3, y4, rfl⟩ := d1.r.shape
    have HX : IntO W b (.agg #[.bool p, .slice q r s]) X := H.out.ext hW
    have R : FracO (W.setRow (w.heap.size + 1) #[.bool p, .slice q r s, .bool y1, .slice y2 y3 y4]) b (.agg #[.bool p, .slice q r s, .bool y1, .slice y2 y3 y4]) (X : Rat) := by
      refine ⟨_, _, _, _, _, _, _, _, rfl, ?_, ?_⟩
      · rw [Rat.num_intCast]
        refine HX.near fun k hk => ?_
        rw [setRow_other _ _ _ _ ?_]
        intro e
        have := (h0.out k hk)
        omega
      · rw [Rat.den_intCast]
        exact (d1.row (g := w.heap.size + 1) (by omega) _).mono (by omega)
    have hBW := hB.out W hW
    have FE := (hE.out.trans hW).row (show w.heap.size ≤ w.heap.size + 1 by omega) #[.bool p, .slice q r s, .bool y1, .slice y2 y3 y4]
    replace R := mkHid R
    replace FE := mkHid FE
    clear hF c0 c1 hW HX d1
    go_simp
    go_wp2_with (refine wpList_store_row rfl 52 (.tmp 2) (.tmp 5) rfl (w.heap.size + 1) #[.bool p, .slice q r s, .bool y1, .slice y2 y3 y4] rfl rfl 52 _ hBW (by kernel_rfl) rfl (by kernel_rfl) ?_)
    exact bodyPost_ret (results_cell_row rfl _ _ (w.heap.size + 1) 52 #[.bool p, .slice q r s, .bool y1, .slice y2 y3 y4] (0, 0) _ rfl (setRow_heap _ _ _ _ _ _ hBW) Tryz.underlying52 rfl (by kernel_rfl)) rfl ⟨⟨p, q, r, s, y1, y2, y3, y4⟩, rfl, FE.out, R.out⟩
def AnsQ (w : World) (x : Rat) (e : Ending) (w' : World) : Prop := ∃ f : FV, e = .returned (.tuple #[.agg #[.bool f.b1, .slice f.a1 f.n1 f.c1, .bool f.b2, .slice f.a2 f.n2 f.c2], .int .i64 (capE x)]) ∧ Ext w w' ∧ (nf x ≤ 2048 → FracO w' w.heap.size (.agg #[.bool f.b1, .slice f.a1 f.n1 f.c1, .bool f.b2, .slice f.a2 f.n2 f.c2]) x)
set_option maxHeartbeats 1600000 in
theorem answered_o (v : Value) (x : Rat) (w : World) (hx : nf x ≤ 268435456) (h : FracR w v x) :
    Calls Tryz.prog 77 #[v] w (AnsQ w x) := by
  have H := h
  obtain ⟨p1, q1, r1, s1, p2, q2, r2, s2, rfl⟩ := h.shape
  have ha := mkHid (fun w gg (hg : LR w gg [x]) => answer_f gg 1 [x] w (by simp) (fun y hy => by simp at hy; subst hy; omega) hg)
  have hc := mkHid (fun w h => copy_f (.agg #[.bool p1, .slice q1 r1 s1, .bool p2, .slice q2 r2 s2]) x w hx h)
  simp only [List.any_cons, List.any_nil, Bool.or_false, decide_eq_true_eq] at ha
  obtain ⟨w3, hw3⟩ : ∃ w3, w3 = ((w.alloc (.cells #[.bool p1, .slice q1 r1 s1, .bool p2, .slice q2 r2 s2] 52)).alloc (.cells #[.bool false, .slice none 0 0, .bool false, .slice none 0 0] 52)).alloc (.cells #[.bool p1, .slice q1 r1 s1, .bool p2, .slice q2 r2 s2] 52) := ⟨_, rfl⟩
  have hE : Ext w w3 := by rw [hw3]; exact (((Ext.refl w).al _).al _).al _
  have z0 : w3.heap[w.heap.size]? = some (.cells #[.bool p1, .slice q1 r1 s1, .bool p2, .slice q2 r2 s2] 52 (0, 0)) := by rw [hw3]; exact (heap_alloc_old _ _ (by simp; omega)).trans ((heap_alloc_old _ _ (by simp)).trans (heap_alloc_new _ _))
  have z1 : w3.heap[w.heap.size + 1]? = some (.cells #[.bool false, .slice none 0 0, .bool false, .slice none 0 0] 52 (0, 0)) := by rw [hw3]; exact (heap_alloc_old _ _ (by simp)).trans (heap_at _ _ _ (by simp))
  have z2 : w3.heap[w.heap.size + 1 + 1]? = some (.cells #[.bool p1, .slice q1 r1 s1, .bool p2, .slice q2 r2 s2] 52 (0, 0)) := by rw [hw3]; exact heap_at _ _ _ (by simp)
  replace H := H.ext hE
  replace ha := mkHid (ha.out w3 _ (lr_one z2 H))
  rw [List.length_singleton] at ha
  replace H := mkHid H
  replace hE := mkHid hE
  replace z0 := mkHid z0
  replace z1 := mkHid z1
  clear h z2
  by_cases hl : nf x ≤ 2048
  · have hcp : capE x = 0 := by unfold capE; rw [if_pos hl]
    rw [if_neg (show ¬ 2048 < nf x by omega)] at ha
    go_enter Tryz.func77, Tryz.ntmps77
    go_wp2_with fail
    rw [← hw3]
    clear hw3
    replace hcp := mkHid hcp
    refine ha.out.mono ?_
    rintro e w4 ⟨rfl, hE4⟩
    have b0 := row4_cells (hE4.blk z0.out)
    replace z1 := mkHid (hE4.blk z1.out)
    have hz4 : w.heap.size + 2 ≤ w4.heap.size := (Array.getElem?_eq_some_iff.1 z1.out).1
    replace H := mkHid (H.out.ext hE4)
    replace hE := mkHid (hE.out.trans hE4)
    clear hE4 ha
    go_wp2_with fail
    refine (hc.out w4 H.out).mono ?_
    rintro e w5 ⟨v, rfl, hE5, hv⟩
    obtain ⟨x1, x2, x3, x4, y1, y2, y3, y4, rfl⟩ := hv.r.shape
    replace z1 := hE5.blk z1.out
    have FR := (hv.row (g := w.heap.size + 1) (by omega) #[.bool x1, .slice x2 x3 x4, .bool y1, .slice y2 y3 y4]).mono (show w.heap.size ≤ w4.heap.size by omega)
    have FE := (hE.out.trans hE5).row (show w.heap.size ≤ w.heap.size + 1 by omega) #[.bool x1, .slice x2 x3 x4, .bool y1, .slice y2 y3 y4]
    replace FR := mkHid FR
    replace FE := mkHid FE
    clear hv hE5 b0
    go_wp2_with (refine wpList_store_row rfl 52 (.tmp 2) (.tmp 13) rfl (w.heap.size + 1) #[.bool x1, .slice x2 x3 x4, .bool y1, .slice y2 y3 y4] rfl rfl 52 _ z1 (by kernel_rfl) rfl (by kernel_rfl) ?_)
    refine bodyPost_ret (results_row_tmp rfl _ _ (w.heap.size + 1) 52 #[.bool x1, .slice x2 x3 x4, .bool y1, .slice y2 y3 y4] _ _ rfl rfl (setRow_heap _ _ _ _ _ _ z1) Tryz.underlying52 rfl (by kernel_rfl)) rfl ?_
    exact ⟨⟨x1, x2, x3, x4, y1, y2, y3, y4⟩, by rw [hcp.out]; rfl, FE.out, fun _ => FR.out⟩
  · have hcp : capE x = 4 := by unfold capE; rw [if_neg hl]
    rw [if_pos (show 2048 < nf x by omega)] at ha
    go_enter Tryz.func77, Tryz.ntmps77
    go_wp2_with fail
    rw [← hw3]
    clear hw3
    replace hcp := mkHid hcp
    refine ha.out.mono ?_
    rintro e w4 ⟨rfl, hE4⟩
    replace z1 := hE4.blk z1.out
    have FE := (hE.out.trans hE4).row (show w.heap.size ≤ w.heap.size + 1 by omega) #[.bool false, .slice none 0 0, .bool false, .slice none 0 0]
    replace FE := mkHid FE
    clear hE4 ha
    go_wp2_with (refine wpList_store_row rfl 52 (.tmp 2) (.tmp 10) rfl (w.heap.size + 1) #[.bool false, .slice none 0 0, .bool false, .slice none 0 0] rfl rfl 52 _ z1 (by kernel_rfl) rfl (by kernel_rfl) ?_)
    refine bodyPost_ret (results_row_tmp rfl _ _ (w.heap.size + 1) 52 #[.bool false, .slice none 0 0, .bool false, .slice none 0 0] _ _ rfl rfl (setRow_heap _ _ _ _ _ _ z1) Tryz.underlying52 rfl (by kernel_rfl)) rfl ?_
    exact ⟨⟨false, none, 0, 0, false, none, 0, 0⟩, by rw [hcp.out]; rfl, FE.out, fun h => absurd h hl⟩
end Go.Proofs.YtjelnmokcpoofaaGreatDoor
