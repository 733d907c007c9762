/-
  law25: CatalogTexts, walked. What a row of this seat gives at its first world: the powers of ten, the library's number, a list of parts. CatalogTexts: for every text that comes in the law returns true, and the text reads as it did. The card ties the row's seven listed variables to the program's text; of these the proof looks into internal/strconv's powers of ten and into the two error values of strconv alone.
-/
import Derived.Test.YtjelnmokcpoofaaGreatDoorTAP
import Derived.Test.YtjelnmokcpoofaaGreatDoorTAM
import Derived.Test.YtjelnmokcpoofaaGreatDoorTAK
import Derived.Test.YtjelnmokcpoofaaGreatDoorTAL
import Derived.Test.YtjelnmokcpoofaaGreatDoorRows
import Derived.Shelf.Vars
import Derived.ProofKit
import Derived.LaidMore
import Derived.OpenShut
import Derived.Lay
import Derived.Stop.Joined
import Derived.Lib.SmallJoins
import Derived.SevenTiedAt
import Derived.Stop.LaidErr
import Derived.Test.YtjelnmokcpoofaaGreatDoorCards
import Derived.Test.YtjelnmokcpoofaaGreatDoorTie
import Derived.ChangeMaps5
namespace Go.Proofs.YtjelnmokcpoofaaGreatDoor
set_option maxRecDepth 100000
open Go Go.RowKit Go.Proofs
set_option maxHeartbeats 1600000 in
theorem beyond1_big (g cap : Nat) (x : Int) (w : World) (h0 : 0 ≤ x) (h1 : x ≤ 9223372036854775807) (hc : w.cell? ⟨g, 0, none⟩ = some (.int .i64 x)) :
  Calls Tryz.prog 5 #[.slice (some ⟨g, 0, none⟩) 1 cap] w fun e w' => ∃ r, e = .returned (.bool r) ∧ Ext w w' := by
 have FE := mK (xR w)
 have hw : IntKind.i64.wrap x = x := by rw [IntKind.wrap_i64]; omega
 by_cases hx : 1048576 < x
 ·go_enter Tryz.func5, Tryz.ntmps5
  go_wp2_with fail
  refine wp_loop_rounds 2 ?_
  rw [rounds_succ]
  go_wp2_with fail
  go_ret
  exact ⟨_, rfl, FE.out⟩
 ·go_enter Tryz.func5, Tryz.ntmps5
  go_wp2_with fail
  refine wp_loop_rounds 2 ?_
  rw [rounds_succ]
  go_wp2_with fail
  rw [rounds_succ]
  go_wp2_with fail
  go_ret
  exact ⟨_, rfl, FE.out⟩
theorem rparse_long (s : ByteArray) (w : World) (hs : 65536 < s.size) :
  Calls Tryz.prog 7 #[.string s] w fun e w' => e = .returned (.tuple #[.agg #[.bool true, .slice none 0 0], .int .i64 0, .int .i64 4]) ∧ Ext w w' := by
 have z0 := mK (show ((w.alloc (.cells #[.bool false, .slice none 0 0] 29)).alloc (.cells #[.bool false, .slice none 0 0] 29)).heap[w.heap.size + 1]? = some (.cells #[.bool false, .slice none 0 0] 29 (0, 0)) from heap_at _ _ _ (by simp))
 obtain ⟨w1, hw1⟩ : ∃ w1, w1 = ((w.alloc (.cells #[.bool false, .slice none 0 0] 29)).alloc (.cells #[.bool false, .slice none 0 0] 29)).setRow (w.heap.size + 1) #[.bool true, .slice none 0 0] := ⟨_, rfl⟩
 have E1 := mK (show Ext w w1 by rw [hw1]; exact (((xR w).al _).al _).row (by omega) _)
 have zR := mK (show w1.heap[w.heap.size]? = some (.cells #[.bool false, .slice none 0 0] 29 (0, 0)) by rw [hw1, setRow_other _ _ _ _ (by omega)]; exact (heap_alloc_old _ _ (by simp)).trans (heap_alloc_new _ _))
 have zN := mK (show w1.heap[w.heap.size + 1]? = some (.cells #[.bool true, .slice none 0 0] 29 (0, 0)) by rw [hw1]; exact setRow_heap _ _ _ _ _ _ z0.out)
 have hs' : (65536 : Int) < (s.size : Int) := by omega
 replace hw1 := mK hw1
 clear hs
 go_enter Tryz.func7, Tryz.ntmps7
 have tok : Tok 0 := .mk _
 go_wp2_with (first
  | (replace tok : Tok 1 := nxT 0 tok; refine wpList_store_row rfl 29 (.tmp 5) (.tmp 11) rfl (w.heap.size + 1) #[.bool true, .slice none 0 0] rfl rfl 29 _ z0.out (by kernel_rfl) rfl (by kernel_rfl) ?_; rw [← hw1.out])
  | (replace tok : Tok 2 := nxT 1 tok; refine wpList_load_row (by rfl) 29 (.tmp 5) rfl (w.heap.size + 1) rfl 29 #[.bool true, .slice none 0 0] (0, 0) _ zN.out Tryz.underlying29 rfl (by kernel_rfl) ?_)
  | (replace tok : Tok 3 := nxT 2 tok; refine wpList_store_row rfl 29 (.tmp 2) (.tmp 15) rfl w.heap.size #[.bool true, .slice none 0 0] rfl rfl 29 _ zR.out (by kernel_rfl) rfl (by kernel_rfl) ?_))
 exact bodyPost_ret (results_row_tmp2 rfl _ _ w.heap.size 29 #[.bool true, .slice none 0 0] _ _ _ rfl rfl rfl (setRow_heap _ _ _ _ _ _ zR.out) Tryz.underlying29 rfl (by kernel_rfl)) rfl ⟨rfl, E1.out.row (nR _) _⟩
def RwP (ds : List PD) (W : World) (v : Value) : Prop := ∃ os, RowL W v os ∧ os.map (·.1) = ds
theorem st_rwP {ss : List FSpec} (ds : List PD) (h : StableAll Ext ss) : StableAll Ext (.pred (RwP ds) :: ss) := ⟨fun _ _ _ e h => by obtain ⟨os, h1, h2⟩ := h; exact ⟨os, h1.ext e, h2⟩, h⟩
set_option maxHeartbeats 6400000 in
theorem texts_c (s : ByteArray) (w : World) (hz : s.size ≤ 9223372036854775807) (hm : Max0 w) (ht : Tab10 w) (he : Errs w) :
  Calls Tryz.prog 3 #[.string s] w fun e w' => e = .returned (.bool true) ∧ Ext w w' := by
 have hz' : (s.size : Int) ≤ 9223372036854775807 := by omega
 have hM := mK (fun W (e : Ext w W) => hm.ext e)
 have hT := mK (fun W (e : Ext w W) => tab_ext ht e)
 have hX := mK (fun W (e : Ext w W) => he.ext e)
 clear hm ht he hz
 go_enter Tryz.func3, Tryz.ntmps3
 have tok : Tok 0 := .mk _
 go_wp2_with (replace tok : Tok 1 := nxT 0 tok; go_at_call 5; refine (beyond1_big w.heap.size 1 s.size _ (by omega) hz' (by go_simp)).mono ?_; rintro e w1 ⟨r, rfl, hx⟩; (have hE1 := mK (((xR w).al (.cells #[.int .i64 s.size] 3)).trans hx)); clear hx; refine stopJ ?_)
 cases r with
 | true =>
  unfold StopJ
  clear tok
  go_wp2_with fail
  go_ret
  exact ⟨rfl, hE1.out⟩
 | false =>
  unfold StopJ
  clear tok
  by_cases hs : s.size ≤ 65536
  ·cases hR : parseT s.data.toList with
   | error p =>
    obtain ⟨n, c⟩ := p
    obtain ⟨hc, KP⟩ : c ≠ 0 ∧ Hid (∀ W, Ext w W → Calls Tryz.prog 6 #[.string s] W fun e w' => e = .returned (.tuple #[.pointer none, .int .i64 n, .int .i64 c]) ∧ Ext W w') := by
     have hc : c ≠ 0 := by
      rcases parse_ends (s.data.toList.length + 1) [] s.data.toList (Nat.lt_succ_self _) List.Pairwise.nil (Nat.zero_le _) with ⟨ds, h1, -⟩ | ⟨ds, rest, c', h1, -, -, -, -, h6⟩
      ·have h1 : parseT s.data.toList = _ := h1
       rw [hR] at h1
       cases h1
      ·have h1 : parseT s.data.toList = _ := h1
       rw [hR] at h1
       cases h1
       exact endL_codeS h6
     refine ⟨hc, mK fun W e => (catParse_anyS s W hs (hM.out W e) (hT.out W e) (hX.out W e)).mono ?_⟩
     rintro e w' (⟨g, M, es, -, -, h, -⟩ | ⟨n', c', h1, h2, -, h3⟩)
     ·rw [hR] at h; cases h
     ·rw [hR] at h2
      cases h2
      exact ⟨h1, h3⟩
    have KR := mK (fun W (_ : Ext w W) => (rparse_c s W hs).mono (R' := fun e w' => e = .returned (.tuple #[.agg #[.bool true, .slice none 0 0], .int .i64 n, .int .i64 c]) ∧ Ext W w') (by
     rintro e w' (⟨ds, sl, os, h, -⟩ | ⟨n', c', h, h1, h2⟩)
     ·rw [hR] at h; cases h
     ·rw [hR] at h
      cases h
      exact ⟨h1, h2⟩))
    have hcb : (c != 0) = true := by simpa using hc
    clear hc hR hs hM hT hX
    have tok : Tok 2 := .mk _
    go_wp2_with (first
     | (replace tok : Tok 3 := nxT 2 tok; go_at_call 6; refine (KP.out _ hE1.out).mono ?_; rintro e w2 ⟨rfl, hx⟩; (have hE2 := mK (hE1.out.trans hx)); clear hx)
     | (replace tok : Tok 4 := nxT 3 tok; go_at_call 7; refine (KR.out _ hE2.out).mono ?_; rintro e w3 ⟨rfl, hx⟩; (have zn := mK (heap_alloc_new w3 (.cells #[.bool false, .slice none 0 0] 29))); (obtain ⟨w4, hw4⟩ : ∃ w4, w4 = (w3.alloc (.cells #[.bool false, .slice none 0 0] 29)).setRow w3.heap.size #[.bool true, .slice none 0 0] := ⟨_, rfl⟩); (have hE4 := mK (show Ext w w4 by rw [hw4]; exact ((hE2.out.trans hx).al _).row (hE2.out.trans hx).size _)); replace hw4 := mK hw4; clear hx)
     | (replace tok : Tok 5 := nxT 4 tok; refine wpList_store_row rfl 29 (.tmp 6) (.tmp 24) rfl w3.heap.size #[.bool true, .slice none 0 0] rfl rfl 29 _ zn.out (by kernel_rfl) rfl (by kernel_rfl) ?_; rw [← hw4.out]))
    go_ret
    exact ⟨rfl, hE4.out⟩
   | ok ds =>
    have KP : Hid (∀ W, Ext w W → Calls Tryz.prog 6 #[.string s] W fun e w' => ∃ g M es, e = .returned (.tuple #[.pointer (some ⟨g, 0, none⟩), .int .i64 0, .int .i64 0]) ∧ Cat w' g M es ∧ es.map (·.1) = ds ∧ textB (es.map (·.1)) = s.data.toList ∧ Ext W w') := by
     refine mK fun W e => (catParse_anyS s W hs (hM.out W e) (hT.out W e) (hX.out W e)).mono ?_
     rintro e w' (⟨g, M, es, h1, h2, h3, h4, h5⟩ | ⟨n', c', -, h2, -⟩)
     ·rw [hR] at h3
      cases h3
      exact ⟨g, M, es, h1, h2, rfl, h4, h5⟩
     ·rw [hR] at h2; cases h2
    have KR := mK (fun W (_ : Ext w W) => (rparse_c s W hs).mono (R' := fun e w' => ∃ sl os, e = .returned (.tuple #[.agg #[.bool false, sl], .int .i64 0, .int .i64 0]) ∧ RowL w' sl os ∧ os.map (·.1) = ds ∧ Ext W w') (by
     rintro e w' (⟨ds', sl, os, h, h1, h2, h3, h4⟩ | ⟨n', c', h, -⟩)
     ·rw [hR] at h
      cases h
      exact ⟨sl, os, h1, h2, h3, h4⟩
     ·rw [hR] at h; cases h))
    have KT := mK (fun (W : World) (g M : Nat) (es : List (PD × Value)) (hC : Cat W g M es) (e : Ext w W) (hB : textB (es.map (·.1)) = s.data.toList) => (text_l W g M es hC (hT.out W e)).mono (R' := fun e w' => e = .returned (.tuple #[.string s, .int .i64 0]) ∧ Ext W w') (by
     rintro e w' ⟨h1, h2⟩
     rw [hB, if_pos (by rw [list_size]; exact hs)] at h1
     exact ⟨h1, h2⟩))
    have hb : (s.toList == s.toList) = true := by simp
    clear hR hs hM hT hX
    have tok : Tok 2 := .mk _
    go_wp2_with (first
     | (replace tok : Tok 3 := nxT 2 tok; go_at_call 6; refine (KP.out _ hE1.out).mono ?_; rintro e w2 ⟨g, M, es, rfl, hC, hmp, htx, hx⟩; (have hE2 := mK (hE1.out.trans hx)); replace hC := mK hC; replace hmp := mK hmp; replace htx := mK htx; clear hx)
     | (replace tok : Tok 4 := nxT 3 tok; go_at_call 7; refine (KR.out _ hE2.out).mono ?_; rintro e w3 ⟨sl, os, rfl, hrl, hom, hx⟩; (obtain ⟨ra, rc, hre, -, -⟩ := hrl.at'); (obtain ⟨rn, hrn⟩ : ∃ rn, rn = os.length := ⟨_, rfl⟩); rw [← hrn] at hre; subst hre; (have zn := mK (heap_alloc_new w3 (.cells #[.bool false, .slice none 0 0] 29))); (obtain ⟨w4, hw4⟩ : ∃ w4, w4 = (w3.alloc (.cells #[.bool false, .slice none 0 0] 29)).setRow w3.heap.size #[.bool false, .slice ra rn rc] := ⟨_, rfl⟩); (have x4 : Ext w3 w4 := by rw [hw4]; exact ((xR w3).al _).row (nR _) _); (have zw4 := mK (show w4.heap[w3.heap.size]? = some (.cells #[.bool false, .slice ra rn rc] 29 (0, 0)) by rw [hw4]; exact setRow_heap _ _ _ _ _ _ zn.out)); (have hE4 := mK ((hE2.out.trans hx).trans x4)); (have hC4 := mK (hC.out.ext (hx.trans x4))); (have hrl4 := mK (hrl.ext x4)); replace hom := mK hom; replace hrn := mK hrn; replace hw4 := mK hw4; clear hx x4 hrl)
     | (replace tok : Tok 5 := nxT 4 tok; refine wpList_store_row rfl 29 (.tmp 6) (.tmp 24) rfl w3.heap.size #[.bool false, .slice ra rn rc] rfl rfl 29 _ zn.out (by kernel_rfl) rfl (by kernel_rfl) ?_; rw [← hw4.out])
     | (replace tok : Tok 6 := nxT 5 tok; go_at_call 8; refine (KT.out w4 g M es hC4.out hE4.out htx.out).mono ?_; rintro e w5 ⟨rfl, hx⟩; (have hE5 := mK (hE4.out.trans hx)); (have hC5 := mK (hC4.out.ext hx)); (have hrl5 := mK (hrl4.out.ext hx)); (have zw5 := mK (hx.blk zw4.out)); clear hx))
    clear tok
    have C1 : Hid (∀ W, Ext w5 W → W.cell? ⟨w3.heap.size, 1, none⟩ = some (.slice ra rn rc)) := mK (fun W (e : Ext w5 W) => row16_cells (e.blk zw5.out) 1)
    have KA := mK (fun W (e : Ext w5 W) => all_l W g M es (hC5.out.ext e))
    have KS := mK (fun W (e : Ext w5 W) (v : Value) (h : RwP ds W v) => (by
     obtain ⟨os1, h1, h2⟩ := h
     have hl := congrArg List.length (h2.trans hmp.out.symm)
     simp only [List.length_map] at hl
     have hf := hC5.out.few
     exact sameParts_c v (.slice ra rn rc) os1 os W h1 (hrl5.out.ext e) (h2.trans hom.out.symm) (fun y hy => all_nfJ (h2.trans hmp.out.symm) hC5.out.ok hy) (by omega) : Calls Tryz.prog 9 #[v, .slice ra rn rc] W fun e w' => e = .returned (.bool true) ∧ Ext W w'))
    clear KP KR KT hE1 hE2 hC htx hom hrn hw4 zn zw4 hE4 hC4 hrl4 hC5 hrl5 zw5
    apply region_ext [.val (.int .i64 0), .val (.bool true), .val (.bool true), .val (.string s), .val (.string s), .val (.bool true), .val (.bool true), .val (.bool true), .val (.pointer (some ⟨g, 0, none⟩)), .pred (RwP ds), .val (.pointer (some ⟨w3.heap.size, 1, none⟩)), .val (.slice ra rn rc), .val (.bool true), .val (.bool true)] (by kernel_rfl)
    case hst =>
     iterate 9 (refine stable_vals _ ?_)
     refine st_rwP _ ?_
     iterate 4 (refine stable_vals _ ?_)
     trivial
    iterate 9 (refine ⟨fun W hW _ => by go_simp; first | exact ⟨xR _, rfl⟩ | exact xR _, ?_⟩)
    refine ⟨fun W hW hF => ?ga, fun v9 => ?_⟩
    case ga =>
     clear hF
     go_simp
     refine (KA.out W hW).mono ?_
     rintro e w' ⟨v, os, rfl, h1, h2, h3⟩
     exact ⟨v, rfl, h3, os, h1.rowL, h2.trans hmp.out⟩
    refine ⟨fun W hW _ => by go_simp; first | exact ⟨xR _, rfl⟩ | exact xR _, ?_⟩
    refine ⟨fun W hW _ => by have := C1.out W hW; go_simp; first | exact ⟨xR _, rfl⟩ | exact xR _, ?_⟩
    refine ⟨fun W hW hF => ?gs, ?_⟩
    case gs =>
     have q9 : RwP ds W v9 := hF.1 (by kernel_rfl)
     replace q9 := mK q9
     clear hF
     go_simp
     refine (KS.out W hW v9 q9.out).mono ?_
     rintro e w' ⟨rfl, h1⟩
     exact ⟨rfl, h1⟩
    refine ⟨fun W hW _ => by go_simp; first | exact ⟨xR _, rfl⟩ | exact xR _, ?_⟩
    intro W hW _
    have hEW := mK (hE5.out.trans hW)
    clear hW
    go_simp
    go_wp2_with fail
    go_ret
    exact ⟨rfl, hEW.out⟩
  ·have KP := mK (fun W (_ : Ext w W) => catParse_long s W (by omega))
   have KR := mK (fun W (_ : Ext w W) => rparse_long s W (by omega))
   clear hs hM hT hX
   have tok : Tok 2 := .mk _
   go_wp2_with (first
    | (replace tok : Tok 3 := nxT 2 tok; go_at_call 6; refine (KP.out _ hE1.out).mono ?_; rintro e w2 ⟨rfl, hx⟩; (have hE2 := mK (hE1.out.trans hx)); clear hx)
    | (replace tok : Tok 4 := nxT 3 tok; go_at_call 7; refine (KR.out _ hE2.out).mono ?_; rintro e w3 ⟨rfl, hx⟩; (have zn := mK (heap_alloc_new w3 (.cells #[.bool false, .slice none 0 0] 29))); (obtain ⟨w4, hw4⟩ : ∃ w4, w4 = (w3.alloc (.cells #[.bool false, .slice none 0 0] 29)).setRow w3.heap.size #[.bool true, .slice none 0 0] := ⟨_, rfl⟩); (have hE4 := mK (show Ext w w4 by rw [hw4]; exact ((hE2.out.trans hx).al _).row (hE2.out.trans hx).size _)); replace hw4 := mK hw4; clear hx)
    | (replace tok : Tok 5 := nxT 4 tok; refine wpList_store_row rfl 29 (.tmp 6) (.tmp 24) rfl w3.heap.size #[.bool true, .slice none 0 0] rfl rfl 29 _ zn.out (by kernel_rfl) rfl (by kernel_rfl) ?_; rw [← hw4.out]))
   go_ret
   exact ⟨rfl, hE4.out⟩
end Go.Proofs.YtjelnmokcpoofaaGreatDoor
namespace Go.Proofs.YtjelnmokcpoofaaGreatDoor
set_option maxRecDepth 100000
open Go Go.ChangeShapes Go.WideShapes Go.ChangeAt Go.RowKit Go.Joins Go.Deep
theorem ownKnob25 : ownKnob Tryz.prog.godebug = none := by kernel_rfl
section
variable {H : Type} {enc : TypeId × Value → H}
theorem handed_shaped {a : Assume} {C : Checked} {os : Os} {f : FuncId} {fn : Func} {s : ChangeSpec} {conds : List PathCond} {apart fresh handsOn again : Bool} {X : World → Array Value → Prop}
  (hX : ∀ (w w' : World) (args : Array Value), w.heap = w'.heap → X w args → X w' args) (own : ownKnob C.prog.godebug = none) (started : os.Started) (noInit : C.prog.inits.idxOf? f = none) (hfn : C.prog.funcs[f]? = some fn)
  (witness : ∃ (w : World) (tape : Tape) (i : Input), w.os = os ∧ (w.forCall tape i).Shaped C.prog ∧ i.vars = [] ∧ Input.okWide C.prog (w.forCall tape i) .any w.heap.size f i ∧
   ((s.pre enc C.prog fn conds apart (w.forCall tape i).memory i.args ∧ X (w.forCall tape i).memory i.args) ∧ sizedMet enc C.prog fn (OpenSpec.ofChange s) apart (w.forCall tape i).memory i.args) ∧ a.holds C.prog (lone (Frame.enter C.prog f i.args .normal) [] (w.forCall tape i)))
  (contract : ∀ (W : World) (base : Nat) (args : Array Value) (ds gs : List (DataW H)) (before : List MemPlace), (∀ (j : Nat) t v, fn.params[j]? = some t → args[j]? = some v → Value.okWide C.prog W .any base t v) →
   DataW.Whole enc C.prog fn.params.toList s.vars apart W args.toList ds gs before → conds.all (PathCond.test C.prog ⟨fn.params.toList, ds, s.plain.varTypes C.prog, gs⟩) = true →
   (DataW.weightsEach C.prog (fn.params.toList ++ s.plain.varTypes C.prog) (ds ++ gs)).all (· ≤ reachBytes) = true → X W args → W.ShapedOpen C.prog → a.holds C.prog (lone (Frame.enter C.prog f args .normal) [] W) →
   Calls C.prog f args W fun e W' => ∃ v, e = .returned v ∧ s.post enc C.prog fn apart fresh handsOn again W args v W') :
  ReturnsInHanded a C os f .any (fun w args => (s.pre enc C.prog fn conds apart w args ∧ X w args) ∧ sizedMet enc C.prog fn (OpenSpec.ofChange s) apart w args) (s.post enc C.prog fn apart fresh handsOn again) := by
 refine returnsInHanded_of_calls own started noInit witness fun w tape i _ hsh _ hok hpre hh => ?_
 have hval := hok
 obtain ⟨_, _, _, fn1, e1, _, _, _, _, hv⟩ := hval
 obtain rfl : fn1 = fn := Option.some.inj (e1.symm.trans hfn)
 obtain ⟨⟨⟨ds, gs, before, hw, hc⟩, hx⟩, hz⟩ := hpre
 have key := contract (w.forCall tape i) w.heap.size i.args ds gs before hv (DataW.Whole.of_heap (w' := w.forCall tape i) (by rfl) hw) hc (hz.weights hw) (hX _ _ _ (by rfl) hx) hsh hh
 refine key.mono ?_
 rintro e W' ⟨v, rfl, hp⟩
 exact ChangeSpec.post_blind hp
end
theorem max0_of {W : World} (h : W.ShapedOpen Tryz.prog) : Max0 W := by
 obtain ⟨m, hm⟩ := cell_of_shapedOpen_int (P := Tryz.prog) (w := W) (g := 0) (t := 3) (zero := #[.int .i64 0]) (k := .i64) h (of_decide_eq_true (by kernel_rfl)) (by kernel_rfl) rfl (by kernel_rfl) (by kernel_rfl) Tryz.underlying3
 exact ⟨m, hm⟩
theorem tab10_laid : (Rows.laid_internal_strconv_uint64pow10 : DataW Unit) = Lib.tabData .u64 Lib.pow10Tab := by kernel_rfl
theorem tab10_of {W : World} (h : laidMetH Tryz.prog Rows.catalogTextsRow.laid W) : Tab10 W := by
 rw [MakeChecks.laidMetH_plain _ _ _ (by kernel_rfl)] at h
 obtain ⟨ps, ⟨_, _, _, _, _, _, _, _, _, _, h2, _⟩, _⟩ := h
 obtain ⟨_, _, _, _, _, _, _, _, _, _, h3, _⟩ := h2
 obtain ⟨g, t, cs, fuel, p, q, hg, hty, hvar, hd, _, _⟩ := h3
 obtain rfl := Option.some.inj ((show Tryz.prog.globalNamed "internal/strconv.uint64pow10" = some 1 by kernel_rfl).symm.trans hg)
 rw [tab10_laid] at hd
 obtain rfl := Option.some.inj ((show (Tryz.prog.globals[1]?).map (·.type) = some 209 by kernel_rfl).symm.trans hty)
 have hc := Lib.cells_of_tab Tryz.underlying209 Tryz.underlying138 (by kernel_rfl) (by kernel_rfl) hd
 show W.var? Tryz.prog "internal/strconv.uint64pow10" = some _
 rw [hvar, ← hc]
theorem errStar : "*" ++ "errors.errorString" = "*errors.errorString" := by decide
theorem rowErr (u : TypeId) (h : Tryz.prog.typeName? 3 u = some "*errors.errorString") : u = 239 :=
 typeName_ptr_named (nm := "errors.errorString") (by rw [errStar]; kernel_rfl) (by kernel_rfl) (by decide) u (by rw [errStar]; exact h)
theorem errs_of {W : World} (h : laidMetH Tryz.prog Rows.catalogTextsRow.laid W) : Errs W := by
 rw [MakeChecks.laidMetH_plain _ _ _ (by kernel_rfl)] at h
 have h4 := h.tail.tail.tail.tail
 have h5 := h4.tail
 obtain ⟨a1, s1, hv1, -⟩ := laid_sentinel h4 (show Tryz.prog.globalNamed "strconv.ErrRange" = some 4 by kernel_rfl) (show (Tryz.prog.globals[4]?).map (·.type) = some 69 by kernel_rfl) Tryz.underlying69 rowErr Tryz.underlying239 Tryz.underlying241 rfl rfl Tryz.underlying9 (by kernel_rfl) (by kernel_rfl)
 obtain ⟨a2, s2, hv2, -⟩ := laid_sentinel h5 (show Tryz.prog.globalNamed "strconv.ErrSyntax" = some 3 by kernel_rfl) (show (Tryz.prog.globals[3]?).map (·.type) = some 69 by kernel_rfl) Tryz.underlying69 rowErr Tryz.underlying239 Tryz.underlying241 rfl rfl Tryz.underlying9 (by kernel_rfl) (by kernel_rfl)
 exact ⟨⟨_, _, hv2⟩, ⟨_, _, hv1⟩⟩
theorem tab10_texts {W : World} (h : laidMetH Tryz.prog Rows.catalogTextsRow.laid W) : Tab10 W := tab10_of h
theorem texts_lifted (os : Os) (started : os.Started) (H : Type) (enc : TypeId × Value → H) :
  ReturnsInHanded {} Tryz.checked os 3 .any (fun w args => (Rows.catalogTextsSpec.pre enc Tryz.prog Tryz.f3 [] false w args ∧ laidMetH Tryz.prog Rows.catalogTextsRow.laid w) ∧ sizedMet enc Tryz.prog Tryz.f3 (OpenSpec.ofChange Rows.catalogTextsSpec) false w args)
   (Rows.catalogTextsSpec.post enc Tryz.prog Tryz.f3 false true false false) := by
 refine handed_shaped (C := Tryz.checked) (X := fun w _ => laidMetH Tryz.prog Rows.catalogTextsRow.laid w) (fun _ _ _ hh h => h.of_heap hh) ownKnob25 started (by kernel_rfl) Tryz.func3
  (ChangeSpec.witness_shaped (enc := enc) (C := Tryz.checked) (os := os) (X := fun w _ => laidMetH Tryz.prog Rows.catalogTextsRow.laid w) false (World.laidAll Tryz.prog os Rows.catalogTextsRow.laid) #[.string ⟨#[]⟩] 8 (World.laidAll_os _ _ _)
   (World.shaped_of_ZipB (by kernel_rfl) (by kernel_rfl)) (by kernel_rfl) (by kernel_rfl) (by kernel_rfl)
   (by rw [MakeChecks.laidMetH_plain _ _ _ (by kernel_rfl)]; exact laidMet_laidAll _ (by kernel_rfl) (by kernel_rfl))) ?_
 intro W base args ds gs before hval0 hW _ hsz hlaid hsh _
 have hW' := hW
 obtain ⟨p, q, hA0, hV, rfl, hfz, hnd⟩ := hW
 have hA : DataW.TrodAll enc Tryz.prog W 0 (fun _ => true) true Tryz.f3.params.toList args.toList ds p := hA0
 rw [Tryz.params3] at hA
 obtain ⟨v0, d0, rfl, rfl, h0⟩ := trodAll_one hA
 obtain ⟨rfl, rfl⟩ := trodVars_none hV
 have P3 : Tryz.f3.params = #[9] := Tryz.params3
 have hlt0 : ∀ x ∈ p, x.block < W.heap.size := fun x hx => hW'.lt x (by simp [hx])
 obtain ⟨s, rfl, -, -, hsz0⟩ := Go.ChangeMaps.open_string Tryz.underlying9 (hval0 0 9 v0 (by rw [P3]; rfl) rfl) h0
 have key : Calls Tryz.prog 3 #[.string s] W fun e w' => e = .returned (.bool true) ∧ Ext W w' := texts_c s W (by have := hsz0; unfold maxLen at this; omega) (max0_of hsh) (tab10_texts hlaid) (errs_of hlaid)
 refine key.mono fun e W' h => ?_
 obtain ⟨rfl, hE⟩ := h
 refine ⟨_, rfl, _, _, _, [], p, [], hW', trodAll_mk1 (shut_bool Tryz.underlying4 _), ?_, rfl, hE.frame _, fun h => by cases h⟩
 have : Tryz.f3.params.toList = [9] := by rw [P3]
 rw [this]
 exact trodAll_mk1 (Below.trod (by kernel_rfl) (by kernel_rfl) (of_decide_eq_true (by kernel_rfl)) h0 hE hlt0)
theorem texts_row : Rows.CatalogTextsSaid :=
 OpenClaim.holds_of_wide 3 Tryz.f3 rfl rfl rfl rfl rfl rfl rfl ⟨rfl, rfl, rfl, rfl, rfl⟩ rfl rfl rfl rfl rfl (by kernel_rfl) Tryz.func3 (by kernel_rfl)
  (of_decide_eq_true (by kernel_rfl)) (by unfold Func.isWrapper; first | (rw [if_pos (by decide +kernel)]; kernel_rfl) | (rw [if_neg (by decide +kernel)]; exact ⟨rfl, rfl⟩))
  (fun os started H enc _ => texts_lifted os started H enc)
theorem texts_holds : Rows.CatalogTextsCardSaid :=
 Claim7.holds_tied_plain_at .later [] [.data, .data, .data, .data, .sentinel, .sentinel, .pinned] true (true, "11b475471612dbc005dea37cc95e2be7c884d4fd64db966b4fd98ee8ab90749a") true
  texts_row (fun _ h => by cases h) (by kernel_rfl) (fun _ h => by cases h) catalogTexts_row_tie rfl ⟨rfl, rfl⟩ (by kernel_rfl) rfl
  (fun f fn hf hfn => by
   obtain rfl : f = 3 := Option.some.inj ((show Tryz.prog.funcNamed "polestar/polestarlaw25.CatalogTexts" = some 3 by kernel_rfl).symm.trans hf) |>.symm
   obtain rfl : fn = Tryz.f3 := (Option.some.inj (Tryz.func3.symm.trans hfn)).symm
   exact ⟨by kernel_rfl, fun j t ht => by
    rw [Tryz.params3] at ht
    have hm : t ∈ [9] := by simpa using Array.mem_of_getElem? ht
    have hall : ([9].all fun u => !Tryz.prog.wantsStandIn u) = true := by kernel_rfl
    exact (show Tryz.prog.wantsStandIn t = false by simpa using List.all_eq_true.1 hall t hm)⟩)
  (by kernel_rfl)
#print axioms texts_holds
end Go.Proofs.YtjelnmokcpoofaaGreatDoor
