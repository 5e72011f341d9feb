/- 'ConsoleQuotes': any bytes, written as a quoted word by the document between blanks, are read by the console as that one word again; side by side with others, too. For every two lists of bytes of at most 1048576 values together. -/
import Derived.Test.YtcgenmfnlocbbaaDoorCards
import Derived.Test.YtcgenmfnlocbbaaDoorTie
import Derived.Test.YtcgenmfnlocbbaaDoorE1
import Derived.OpenShut
import Derived.Deep.DeepHandedRow
namespace Go.Proofs.YtcgenmfnlocbbaaDoor.T
open Go.Lg Go.RowKit Go.ChangeShapes Go.WideShapes Go.ChangeAt
theorem is22 : isSlice Tryd.prog 22 = true := by kernel_rfl
theorem own : ownKnob Tryd.prog.godebug = none := by kernel_rfl
theorem laidOut : laidOutB Tryd.prog = true := by kernel_rfl
theorem maps : mapsRowed Tryd.prog = true := by kernel_rfl
theorem full : ∀ t e, t < Tryd.prog.types.size → Tryd.prog.underlying t = some (.slice e) → 0 < Tryd.prog.cellsOf e := slices_full_of Tryd.prog (by kernel_rfl)
theorem quotes_walk (one two : List UInt8) (ad ad1 : Option Addr) (cap cap1 b o b1 o1 : Nat) (had : one ≠ [] → ad = some ⟨b, o, none⟩) (had1 : two ≠ [] → ad1 = some ⟨b1, o1, none⟩) (hbig : one.length + two.length ≤ 1048576) :
    Ct Tryd.prog 4 [.slice ad one.length cap, .slice ad1 two.length cap1].toArray (fun w => AtU w b o one ∧ AtU w b1 o1 two ∧ GlobW w ∧ 0 < w.heap.size) [] (fun v C' => v = .bool true ∧ C' = []) := by
  refine ct_of_walk (fn := Tryd.f4) Tryd.func4 rfl rfl fun w0 hpre hst => ?_
  clear hst
  repeat refine G.seq ?_
  obtain ⟨ho, ht, hg, h0⟩ := hpre
  have hr1 : ∀ C, RowIn (cxF Tryd.prog 4 Tryd.f4.ntmps w0 (List.map Prod.fst ([] : Chunks)) fun v C' => v = .bool true ∧ C' = []) C b o (one.flatMap rowU) := fun C => RowIn.old (by simp) ho
  have hr2 : ∀ C, RowIn (cxF Tryd.prog 4 Tryd.f4.ntmps w0 (List.map Prod.fst ([] : Chunks)) fun v C' => v = .bool true ∧ C' = []) C b1 o1 (two.flatMap rowU) := fun C => RowIn.old (by simp) ht
  have hq1 := flat_qF_length one
  have hq2 := flat_qF_length two
  have hl1 : (quoteF one).length = (one.flatMap qF).length + 2 := by simp [quoteF]
  have hl2 : (quoteF two).length = (two.flatMap qF).length + 2 := by simp [quoteF]
  refine G.region [.loc] (.take 0 .done) rfl ?_
  refine GP.take rfl rfl (Does.assign rfl ?_)
  refine GP.keep [(0, _), (1, _)] (.cons rfl (.cons rfl .nil)) ?_
  repeat refine G.seq ?_
  refine G.region [.loc, .gen, .loc, .gen, .loc, .loc] (.take 0 (.take 1 (.take 2 (.take 3 (.take 4 (.take 5 .done)))))) rfl ?_
  refine GP.take rfl rfl (Does.move rfl ?_)
  refine GP.take rfl rfl (Does.callN (.cons rfl .nil) cb8 (quote_ct one ad cap b o had (by omega)) (fun w hs i v hv => hr1 _ w hs i v hv) ?_)
  rintro _ _ ⟨rfl, rfl⟩
  simp only [List.append_nil]
  refine GP.take rfl rfl (Does.move rfl ?_)
  refine GP.take rfl rfl (Does.callN (.cons rfl .nil) cb8 (quote_ct two ad1 cap1 b1 o1 had1 (by omega)) (fun w hs i v hv => hr2 _ w hs i v hv) ?_)
  rintro _ _ ⟨rfl, rfl⟩
  simp only [List.append_nil]
  refine GP.take rfl rfl (Does.assign rfl ?_)
  refine GP.take rfl rfl (Does.assign rfl ?_)
  refine GP.keep [(0, _), (1, _), (5, _), (6, _)] (.cons rfl (.cons rfl (.cons rfl (.cons rfl .nil)))) ?_
  repeat refine G.seq ?_
  refine G.region [.loc, .loc, .loc, .loc, .loc, .loc, .loc] (.take 0 (.take 1 (.take 2 (.take 3 (.take 4 (.take 5 (.take 6 .done))))))) rfl ?_
  refine GP.take rfl rfl (Does.move rfl ?_)
  refine GP.take rfl rfl (Does.lenS rfl Tryd.underlying9 ?_)
  refine GP.take rfl rfl (Does.mul rfl rfl (r := ((2 * (quoteF one).length : Nat) : Int)) (wrc_i64 (by omega) (by omega) (by omega)) ?_)
  refine GP.take rfl rfl (Does.move rfl ?_)
  refine GP.take rfl rfl (Does.lenS rfl Tryd.underlying9 ?_)
  refine GP.take rfl rfl (Does.add rfl rfl (r := ((2 * (quoteF one).length + (quoteF two).length : Nat) : Int)) (wrc_i64 (by omega) (by omega) (by omega)) ?_)
  refine GP.take rfl rfl (Does.gtr rfl rfl rfl ?_)
  refine GP.keep [(0, _), (1, _), (5, _), (6, _), (19, _)] (.cons rfl (.cons rfl (.cons rfl (.cons rfl (.cons rfl .nil))))) ?_
  repeat refine G.seq ?_
  refine G.cond rfl ?_ ?_
  · intro hz
    repeat refine G.seq ?_
    refine G.region [.loc] (.take 0 .done) rfl ?_
    refine GP.take rfl rfl (Does.assign rfl ?_)
    refine GP.keep [(4, _)] (.cons rfl .nil) ?_
    exact fin_ret (fn := Tryd.f4) Tryd.func4 (res1 rfl rfl) .nil ⟨rfl, rfl⟩
  intro hz
  refine G.skip ?_
  repeat refine G.seq ?_
  have hll : (lineQ one two).length = 2 * (quoteF one).length + (quoteF two).length + 8 := by simp [lineQ]; omega
  have hWq := words_quotes one two
  refine G.region [.loc, .loc, .loc, .loc, .loc, .loc, .loc, .loc, .gen, .loc, .loc, .loc, .loc, .loc] (.take 0 (.take 1 (.take 2 (.take 3 (.take 4 (.take 5 (.take 6 (.take 7 (.take 8 (.take 9 (.take 10 (.take 11 (.take 12 (.take 13 .done)))))))))))))) rfl ?_
  refine GP.take rfl rfl (Does.move rfl ?_)
  refine GP.take rfl rfl (Does.addS (a := [32, 112, 117, 116, 32]) (b := quoteF one) rfl rfl (by simp only [List.length_append, List.length_cons, List.length_nil]; omega) ?_)
  refine GP.take rfl rfl (Does.addS (a := ([32, 112, 117, 116, 32] ++ quoteF one)) (b := [9]) rfl rfl (by simp only [List.length_append, List.length_cons, List.length_nil]; omega) ?_)
  refine GP.take rfl rfl (Does.move rfl ?_)
  refine GP.take rfl rfl (Does.addS (a := (([32, 112, 117, 116, 32] ++ quoteF one) ++ [9])) (b := quoteF two) rfl rfl (by simp only [List.length_append, List.length_cons, List.length_nil]; omega) ?_)
  refine GP.take rfl rfl (Does.addS (a := ((([32, 112, 117, 116, 32] ++ quoteF one) ++ [9]) ++ quoteF two)) (b := [35, 32]) rfl rfl (by simp only [List.length_append, List.length_cons, List.length_nil]; omega) ?_)
  refine GP.take rfl rfl (Does.move rfl ?_)
  refine GP.take rfl rfl (Does.addS (a := (((([32, 112, 117, 116, 32] ++ quoteF one) ++ [9]) ++ quoteF two) ++ [35, 32])) (b := quoteF one) rfl rfl (by simp only [List.length_append, List.length_cons, List.length_nil]; omega) ?_)
  refine GP.take rfl rfl (Does.callN (.cons rfl .nil) cb5 (words_ct (lineQ one two) (by omega)) (fun w hs => ⟨fun i v hi => CellIn.old (X := cxF Tryd.prog 4 Tryd.f4.ntmps w0 (List.map Prod.fst ([] : Chunks)) fun v C' => v = .bool true ∧ C' = []) (C := []) (b := 0) (by simp) (hg i v hi) w (hs.sub .nil), Nat.lt_of_lt_of_le h0 hs.mods.size⟩) ?_)
  rintro _ C7 hres
  rw [WRes, if_neg (by omega), hWq] at hres
  obtain ⟨wsv, rfl, h7, -⟩ := hres
  simp only [List.nil_append]
  refine GP.take rfl rfl (Does.move rfl ?_)
  refine GP.take rfl rfl (Does.extract rfl rfl ?_)
  refine GP.take rfl rfl (Does.extract rfl rfl ?_)
  refine GP.take rfl rfl (Does.assign rfl ?_)
  refine GP.take rfl rfl (Does.assign rfl ?_)
  refine GP.keep [(0, _), (1, _), (7, _), (8, _)] (.cons rfl (.cons rfl (.cons rfl (.cons rfl .nil)))) ?_
  repeat refine G.seq ?_
  obtain ⟨wb, wcap, wsp, rfl, rfl, -, -⟩ := h7.full (by simp)
  refine G.draw [.loc, .loc, .loc, .loc, .loc, .loc, .loc, .loc, .loc, .loc, .load, .loc, .loc, .loc, .loc, .loc, .load, .loc, .gen, .loc, .loc, .loc, .loc, .loc, .load, .loc, .gen, .loc, .loc, .loc] (.take 0 (.take 1 (.take 2 (.take 3 (.take 4 (.take 5 (.take 6 (.take 7 (.take 8 (.take 9 (.take 10 (.take 11 (.take 12 (.take 13 (.take 14 (.take 15 (.take 17 (.alt 16 (.alt 18 (.take 19 (.take 20 (.take 21 (.take 22 (.take 23 (.take 25 (.alt 24 (.alt 26 (.take 27 (.take 28 (.take 29 .done))) .stop) (.alt 26 (.take 24 (.take 27 (.take 28 (.take 29 .done)))) .stop)))))))) .stop) (.alt 18 (.take 16 (.take 19 (.take 20 (.take 21 (.take 22 (.take 23 (.take 25 (.alt 24 (.alt 26 (.take 27 (.take 28 (.take 29 .done))) .stop) (.alt 26 (.take 24 (.take 27 (.take 28 (.take 29 .done)))) .stop))))))))) .stop))))))))))))))))))) (by exact mixed) (by kernel_rfl) ?_
  intro N hN0 hN
  refine GP.take rfl rfl (Does.move rfl ?_)
  refine GP.take rfl rfl (Does.eql rfl rfl (decide_eq_true rfl) ?_)
  refine GP.take rfl rfl (Does.move rfl ?_)
  refine GP.takeG rfl rfl rfl rfl (Does.move rfl ?_)
  refine GP.takeG rfl rfl rfl rfl (Does.len rfl is22 ?_)
  refine GP.takeG rfl rfl rfl rfl (Does.eql rfl rfl (show decide (((3 : Nat) : Int) = 3) = true from rfl) ?_)
  refine GP.take rfl rfl (Does.pickT rfl rfl ?_)
  refine GP.take rfl rfl (Does.move rfl ?_)
  refine GP.takeG rfl rfl rfl rfl (Does.move rfl ?_)
  refine GP.takeG rfl rfl rfl rfl (Does.indexAddr 0 rfl rfl sl22 rfl (show 0 < 3 by decide) ?_)
  refine GP.takeG rfl rfl rfl rfl (Does.load1N rfl ft9 (hN _ (.head _)) (CellIn.own (.head _) (row_at str ([[112, 117, 116], one, two] : List (List UInt8)) wsp 0 [112, 117, 116] rfl)) ?_)
  refine GP.takeG rfl rfl rfl rfl (Does.eqS (a := [112, 117, 116]) (b := [112, 117, 116]) rfl rfl (decide_eq_true rfl) ?_)
  refine GP.take rfl rfl (Does.pickT rfl rfl ?_)
  refine GP.take rfl rfl (Does.move rfl ?_)
  refine GP.takeG rfl rfl rfl rfl (Does.move rfl ?_)
  refine GP.takeG rfl rfl rfl rfl (Does.indexAddr 1 rfl rfl sl22 rfl (show 1 < 3 by decide) ?_)
  refine GP.takeG rfl rfl rfl rfl (Does.move rfl ?_)
  refine GP.alt ?_ ?_
  · skip
    refine GP.takeG rfl rfl rfl rfl (Does.load1N rfl ft9 (hN _ (.head _)) (CellIn.own (.head _) (row_at str ([[112, 117, 116], one, two] : List (List UInt8)) wsp 1 one rfl)) ?_)
    refine GP.one ?_
    refine GP.takeG rfl rfl rfl rfl (Does.strG (l := one) rfl Tryd.underlying30 Tryd.underlying5 Tryd.underlying9 had (fun _ => hr1 _) ?_)
    refine GP.takeG rfl rfl rfl rfl (Does.eqS rfl rfl (decide_eq_true rfl) ?_)
    refine GP.take rfl rfl (Does.pickT rfl rfl ?_)
    refine GP.take rfl rfl (Does.move rfl ?_)
    refine GP.takeG rfl rfl rfl rfl (Does.move rfl ?_)
    refine GP.takeG rfl rfl rfl rfl (Does.indexAddr 2 rfl rfl sl22 rfl (show 2 < 3 by decide) ?_)
    refine GP.takeG rfl rfl rfl rfl (Does.move rfl ?_)
    refine GP.alt ?_ ?_
    · skip
      refine GP.takeG rfl rfl rfl rfl (Does.load1N rfl ft9 (hN _ (.head _)) (CellIn.own (.head _) (row_at str ([[112, 117, 116], one, two] : List (List UInt8)) wsp 2 two rfl)) ?_)
      refine GP.one ?_
      refine GP.takeG rfl rfl rfl rfl (Does.strG (l := two) rfl Tryd.underlying30 Tryd.underlying5 Tryd.underlying9 had1 (fun _ => hr2 _) ?_)
      refine GP.takeG rfl rfl rfl rfl (Does.eqS rfl rfl (decide_eq_true rfl) ?_)
      refine GP.take rfl rfl (Does.pickT rfl rfl ?_)
      refine GP.take rfl rfl (Does.assign rfl ?_)
      refine GP.keep [(4, _)] (.cons rfl .nil) ?_
      exact fin_ret (fn := Tryd.f4) Tryd.func4 (res1 rfl rfl) .nil ⟨rfl, rfl⟩
    refine GP.alt ?_ ?_
    · skip
      refine GP.takeG rfl rfl rfl rfl (Does.strG (l := two) rfl Tryd.underlying30 Tryd.underlying5 Tryd.underlying9 had1 (fun _ => hr2 _) ?_)
      refine GP.takeG rfl rfl rfl rfl (Does.load1N rfl ft9 (hN _ (.head _)) (CellIn.own (.head _) (row_at str ([[112, 117, 116], one, two] : List (List UInt8)) wsp 2 two rfl)) ?_)
      refine GP.takeG rfl rfl rfl rfl (Does.eqS rfl rfl (decide_eq_true rfl) ?_)
      refine GP.take rfl rfl (Does.pickT rfl rfl ?_)
      refine GP.take rfl rfl (Does.assign rfl ?_)
      refine GP.keep [(4, _)] (.cons rfl .nil) ?_
      exact fin_ret (fn := Tryd.f4) Tryd.func4 (res1 rfl rfl) .nil ⟨rfl, rfl⟩
    exact GP.stop
  refine GP.alt ?_ ?_
  · skip
    refine GP.takeG rfl rfl rfl rfl (Does.strG (l := one) rfl Tryd.underlying30 Tryd.underlying5 Tryd.underlying9 had (fun _ => hr1 _) ?_)
    refine GP.takeG rfl rfl rfl rfl (Does.load1N rfl ft9 (hN _ (.head _)) (CellIn.own (.head _) (row_at str ([[112, 117, 116], one, two] : List (List UInt8)) wsp 1 one rfl)) ?_)
    refine GP.takeG rfl rfl rfl rfl (Does.eqS rfl rfl (decide_eq_true rfl) ?_)
    refine GP.take rfl rfl (Does.pickT rfl rfl ?_)
    refine GP.take rfl rfl (Does.move rfl ?_)
    refine GP.takeG rfl rfl rfl rfl (Does.move rfl ?_)
    refine GP.takeG rfl rfl rfl rfl (Does.indexAddr 2 rfl rfl sl22 rfl (show 2 < 3 by decide) ?_)
    refine GP.takeG rfl rfl rfl rfl (Does.move rfl ?_)
    refine GP.alt ?_ ?_
    · skip
      refine GP.takeG rfl rfl rfl rfl (Does.load1N rfl ft9 (hN _ (.head _)) (CellIn.own (.head _) (row_at str ([[112, 117, 116], one, two] : List (List UInt8)) wsp 2 two rfl)) ?_)
      refine GP.one ?_
      refine GP.takeG rfl rfl rfl rfl (Does.strG (l := two) rfl Tryd.underlying30 Tryd.underlying5 Tryd.underlying9 had1 (fun _ => hr2 _) ?_)
      refine GP.takeG rfl rfl rfl rfl (Does.eqS rfl rfl (decide_eq_true rfl) ?_)
      refine GP.take rfl rfl (Does.pickT rfl rfl ?_)
      refine GP.take rfl rfl (Does.assign rfl ?_)
      refine GP.keep [(4, _)] (.cons rfl .nil) ?_
      exact fin_ret (fn := Tryd.f4) Tryd.func4 (res1 rfl rfl) .nil ⟨rfl, rfl⟩
    refine GP.alt ?_ ?_
    · skip
      refine GP.takeG rfl rfl rfl rfl (Does.strG (l := two) rfl Tryd.underlying30 Tryd.underlying5 Tryd.underlying9 had1 (fun _ => hr2 _) ?_)
      refine GP.takeG rfl rfl rfl rfl (Does.load1N rfl ft9 (hN _ (.head _)) (CellIn.own (.head _) (row_at str ([[112, 117, 116], one, two] : List (List UInt8)) wsp 2 two rfl)) ?_)
      refine GP.takeG rfl rfl rfl rfl (Does.eqS rfl rfl (decide_eq_true rfl) ?_)
      refine GP.take rfl rfl (Does.pickT rfl rfl ?_)
      refine GP.take rfl rfl (Does.assign rfl ?_)
      refine GP.keep [(4, _)] (.cons rfl .nil) ?_
      exact fin_ret (fn := Tryd.f4) Tryd.func4 (res1 rfl rfl) .nil ⟨rfl, rfl⟩
    exact GP.stop
  exact GP.stop
set_option maxRecDepth 100000 in
theorem consoleQuotes_contract (H : Type) (enc : TypeId × Value → H) (W : World) (base : Nat) (args : Array Value) (ds gs : List (DataW H)) (before : List MemPlace)
    (hval : ∀ (j : Nat) t v, Tryd.f4.params[j]? = some t → args[j]? = some v → Value.okWide Tryd.prog W .any base t v)
    (hW : DataW.Whole enc Tryd.prog Tryd.f4.params.toList Rows.consoleQuotesSpec.vars false W args.toList ds gs before) (hL : laidMetH Tryd.prog Rows.consoleQuotesRow.laid W) (hk : Rows.uptoSmall H (ds ++ gs) = true) :
    Calls Tryd.prog 4 args W fun e W' => ∃ v, e = .returned v ∧ Rows.consoleQuotesSpec.post enc Tryd.prog Tryd.f4 false true false false W args v W' := by
  have hW0 := hW
  obtain ⟨p, q, hA, -, -, -, -⟩ := hW
  have hsm : Rows.uptoBulkAll (ds ++ gs) ≤ 1048576 := of_decide_eq_true hk
  obtain ⟨v, vs, d, ds', p1, q1, n1, hargs, rfl, rfl, h1, h2⟩ := trodAll_split (t := 30) (ts := [30]) hA
  obtain ⟨v2, vs2, d2, ds2, p2, q2, n2, rfl, rfl, rfl, h3, h4⟩ := trodAll_split (t := 30) (ts := []) h2
  obtain ⟨rfl, rfl, rfl⟩ := trodAll_end h4
  obtain rfl : args = #[v, v2] := by cases args; simpa using hargs
  obtain ⟨a0, len, cap, rfl⟩ := Go.WideShapes.okWide_slice Tryd.underlying30 (hval 0 30 _ rfl rfl)
  obtain ⟨a1, len1, cap1, rfl⟩ := Go.WideShapes.okWide_slice Tryd.underlying30 (hval 1 30 _ rfl rfl)
  obtain ⟨l, ad, cap', b, o, e1, e2, e3, e4, e5⟩ := inv_bytes h1
  obtain ⟨l2, ad1, cap1', b1, o1, f1, f2, f3, f4, f5⟩ := inv_bytes h3
  have e1' : [Value.slice a0 len cap] = [.slice ad l.length cap'] := e1
  have f1' : [Value.slice a1 len1 cap1] = [.slice ad1 l2.length cap1'] := f1
  simp only [List.cons.injEq, Value.slice.injEq, and_true] at e1' f1'
  obtain ⟨rfl, rfl, rfl⟩ := e1'
  obtain ⟨rfl, rfl, rfl⟩ := f1'
  have hbd : Rows.uptoBulk d + (Rows.uptoBulk d2 + Rows.uptoBulkAll gs) ≤ 1048576 := hsm
  have e5' : l.length + 1 ≤ Rows.uptoBulk d := e5
  have f5' : l2.length + 1 ≤ Rows.uptoBulk d2 := f5
  have hG : GlobW W := glob_of hL
  have h0 : 0 < W.heap.size := cell_lt (hG 0 _ rfl)
  refine (quotes_walk l l2 a0 a1 cap cap1 b o b1 o1 e3 f3 (by omega) W (by simp) (by simp) ⟨e4, f4, hG, h0⟩).mono ?_
  rintro e W' ⟨_, rfl, C', ⟨rfl, rfl⟩, hst⟩
  exact ⟨_, rfl, law_post laidOut maps full (by decide +kernel) rfl (fun ds hds => by match ds, hds with | [d, d2], _ => rfl) rfl Tryd.underlying4 hW0 hst.mods.below⟩
/-- A world for the witness: the settled one, the strokes' variable (block 0) holding what its initialiser lays. -/
noncomputable def laidWorld (os : Os) : World :=
  { World.holding Tryd.prog os ⟨#[], #[], []⟩ with heap := (World.holding Tryd.prog os ⟨#[], #[], []⟩).heap.modify 0 fun
      | .cells _ t frozen => .cells #[.int .i32 92, .int .u8 92, .int .i32 34, .int .u8 34, .int .i32 110, .int .u8 10, .int .i32 116, .int .u8 9] t frozen
      | o => o }
theorem laid_met (os : Os) : laidMet Tryd.prog Rows.consoleQuotesUptoRow.laid ((laidWorld os).forCall (fun _ _ => 0) ⟨#[], #[.slice none 0 0, .slice none 0 0], []⟩).memory :=
  laidMet_of_run' 8 (by kernel_rfl) (by kernel_rfl)
theorem reads (os : Os) {H : Type} (enc : TypeId × Value → H) : ∃ places, DataW.whole enc Tryd.prog ((laidWorld os).forCall (fun _ _ => 0) ⟨#[], #[.slice none 0 0, .slice none 0 0], []⟩).memory Tryd.f4.params.toList Rows.consoleQuotesSpec.vars false (#[.slice none 0 0, .slice none 0 0] : Array Value).toList 8 = some ([.nil, .nil], [], places) :=
  ⟨[], by kernel_rfl⟩
set_option maxRecDepth 100000 in
theorem lifted (os : Os) (started : os.Started) (H : Type) (enc : TypeId × Value → H) (F : Stop.Interp) :
    ReturnsInHanded {} Tryd.checked os 4 .any ((Rows.OpenSpec.upto Rows.consoleQuotesSpec).preRow enc Tryd.prog Tryd.f4 Rows.consoleQuotesUptoRow.domain false Rows.consoleQuotesUptoRow.laid) (((Rows.OpenSpec.upto Rows.consoleQuotesSpec).at F).post enc Tryd.prog Tryd.f4 false true false false) := by
  obtain ⟨places, hx⟩ := reads os enc
  refine returnsInHanded_of_row (C := Tryd.checked) (s := (Rows.OpenSpec.upto Rows.consoleQuotesSpec)) own started (by kernel_rfl) Tryd.func4
    (witness_row_at (enc := enc) (C := Tryd.checked) false (laidWorld os) #[.slice none 0 0, .slice none 0 0] rfl (by kernel_rfl) (by kernel_rfl) (by kernel_rfl)
      (OpenSpec.preRow_of_cond 8 hx (by kernel_rfl) (fun k hk => by cases hk; kernel_rfl) (by kernel_rfl) (laid_met os))) ?_
  intro W base args ds gs before hval hW h1 h2 h3 hL h4 h5
  exact consoleQuotes_contract H enc W base args ds gs before hval hW hL (h2 _ rfl)
theorem said : Rows.ConsoleQuotesUptoSaid :=
  OpenClaim.holds_of_cond 4 Tryd.f4 rfl rfl rfl rfl rfl rfl rfl ⟨rfl, rfl, rfl, rfl, rfl⟩ rfl rfl rfl rfl rfl (by kernel_rfl) Tryd.func4 (by kernel_rfl)
    (of_decide_eq_true (by kernel_rfl)) (by unfold Func.isWrapper; first | (rw [if_pos (by decide +kernel)]; kernel_rfl) | (rw [if_neg (by decide +kernel)]; exact ⟨rfl, rfl⟩))
    (fun os started H enc _ F => by rw [OpenClaim.pre_eq_preRow]; exact lifted os started H enc F)
theorem plain (f : FuncId) (fn : Func) (hf : Tryd.pinned.checked.prog.funcNamed "witness/witnesslaw19.ConsoleQuotes" = some f) (hfn : Tryd.pinned.checked.prog.funcs[f]? = some fn) :
    false = Tryd.pinned.checked.prog.looks [] ∧ ∀ (j : Nat) t, fn.params[j]? = some t → Tryd.pinned.checked.prog.wantsStandIn t = false := by
  obtain rfl : f = 4 := Option.some.inj ((show Tryd.prog.funcNamed "witness/witnesslaw19.ConsoleQuotes" = some 4 by kernel_rfl).symm.trans hf) |>.symm
  obtain rfl : fn = Tryd.f4 := (Option.some.inj (Tryd.func4.symm.trans hfn)).symm
  refine ⟨by kernel_rfl, fun j t ht => ?_⟩
  rw [Tryd.params4] at ht
  obtain rfl : t = 30 := by simpa using Array.mem_of_getElem? ht
  exact (show Tryd.prog.wantsStandIn 30 = false by kernel_rfl)
/-- THE CARD -/
theorem card : Rows.ConsoleQuotesUptoCardSaid :=
  Claim7.holds_tied_plain_at .later [] _ _ _ _ said (fun _ h => by cases h) (by kernel_rfl) (fun _ h => by cases h) consoleQuotesUpto_row_tie rfl ⟨rfl, rfl⟩ (by kernel_rfl) rfl plain (by kernel_rfl)
end Go.Proofs.YtcgenmfnlocbbaaDoor.T
