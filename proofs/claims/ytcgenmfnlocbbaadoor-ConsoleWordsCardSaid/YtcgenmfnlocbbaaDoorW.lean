/- 'ConsoleWords': the console takes any line, of any bytes, apart as the document does, asked twice with another one between; and no two answers share memory. For every string. -/
import Derived.Test.YtcgenmfnlocbbaaDoorCards
import Derived.Test.YtcgenmfnlocbbaaDoorTie
import Derived.Test.YtcgenmfnlocbbaaDoorE1
import Derived.Test.YtcgenmfnlocbbaaDoorB3
import Derived.Test.YtcgenmfnlocbbaaDoorS3
import Derived.OpenShut
import Derived.Deep.DeepHandedRow
namespace Go.Proofs.YtcgenmfnlocbbaaDoor.T
open Go.Lg Go.RowKit Go.ChangeShapes Go.WideShapes Go.ChangeAt

theorem own : ownKnob Tryd.prog.godebug = none := by kernel_rfl
theorem laidOut : laidOutB Tryd.prog = true := by kernel_rfl
theorem maps : mapsRowed Tryd.prog = true := by kernel_rfl
theorem full : ∀ t e, t < Tryd.prog.types.size → Tryd.prog.underlying t = some (.slice e) → 0 < Tryd.prog.cellsOf e := slices_full_of Tryd.prog (by kernel_rfl)
def codeF (l : List UInt8) : Int := if l.length > 65536 then 192 else match wordsC l with
  | none => 191
  | some _ => 0
def outW (l : List UInt8) : List (List UInt8) := if l.length > 65536 then [] else (wordsC l).getD []
theorem wres_rep {l : List UInt8} {v : Value} {C' : Chunks} (h : WRes l v C') : ∃ wsv, v = .tuple #[wsv, .int .i64 (codeF l)] ∧ Rep 9 str (outW l) wsv C' ∧ (outW l).length ≤ 65537 := by
  unfold WRes at h
  unfold codeF outW
  split at h
  · rename_i hl
    obtain ⟨rfl, rfl⟩ := h
    rw [if_pos hl, if_pos hl]
    exact ⟨_, rfl, Rep.nil, Nat.zero_le _⟩
  · rename_i hl
    rw [if_neg hl, if_neg hl]
    cases hw : wordsC l with
    | none => rw [hw] at h; obtain ⟨rfl, rfl⟩ := h; exact ⟨_, rfl, Rep.nil, Nat.zero_le _⟩
    | some ws => rw [hw] at h; exact h
theorem rres_rep {l : List UInt8} {v : Value} {C' : Chunks} (h : RRes l v C') : ∃ wsv, v = .tuple #[wsv, .int .i64 (codeF l)] ∧ Rep 9 str (outW l) wsv C' := by
  unfold RRes at h
  unfold codeF outW
  rw [← words_ref] at h
  split at h
  · rename_i hl
    obtain ⟨rfl, rfl⟩ := h
    rw [if_pos hl, if_pos hl]
    exact ⟨_, rfl, Rep.nil⟩
  · rename_i hl
    rw [if_neg hl, if_neg hl]
    cases hw : wordsC l with
    | none => rw [hw] at h; obtain ⟨rfl, rfl⟩ := h; exact ⟨_, rfl, Rep.nil⟩
    | some ws => rw [hw] at h; obtain ⟨wsv, h1, h2, -⟩ := h; exact ⟨wsv, h1, h2⟩
def OT : List UInt8 := [111, 110, 101, 32, 116, 119, 111]
theorem outW_OT : outW OT = [[111, 110, 101], [116, 119, 111]] := by
  unfold outW
  rw [if_neg (by decide), wordsC_eq]
  rfl
theorem left_row {β : Type} {e : TypeId} {row : β → Value} {l ext : List β} {n rb rcap b cap : Nat} {ad : Option Addr} {sp : List Value} {Cq : Chunks} (hn : l.length = n) (h : Go.Lg.Left e row l (.slice ad n cap) rb rcap Cq) (had : n ≠ 0 → ad = some ⟨b, 0, none⟩) (X : Cx) (Cl Cr : Chunks) :
    RowIn X (Cl ++ (((rb, cel e (((l ++ ext).flatMap fun x => [row x]) ++ sp)) :: Cq) ++ Cr)) b 0 (l.flatMap fun x => [row x]) := by
  subst hn
  exact Go.Lg.Left.row h (fun hne => had (by rw [Ne, List.length_eq_zero_iff]; exact hne)) X Cl Cr
theorem all_same {β : Type} (q : List β) (n : Nat) (f : β) (hq : q.length = n) (h : ∀ j, j < n → q[j]? = some f) : q = List.replicate n f := by
  refine List.ext_getElem? fun j => ?_
  rcases Nat.lt_or_ge j n with hj | hj
  · rw [h j hj, List.getElem?_replicate, if_pos hj]
  · rw [List.getElem?_eq_none (by omega), List.getElem?_eq_none (by simp; omega)]
theorem set_last (F : List (List UInt8)) (n : Nat) (hF : F.length = n) (x : List UInt8) : (F ++ List.replicate 64 []).set (n + 63) x = F ++ (List.replicate 64 ([] : List UInt8)).set 63 x := by
  subst hF
  rw [List.set_append_right _ _ (by omega)]
  congr 2; omega
theorem same_call {X : Cx} {C : Chunks} (la lb : List (List UInt8)) (sva svb : Value) (C1 Ca C2 C3 Cb C4 : Chunks) (ha : Rep 9 str la sva Ca) (hb : Rep 9 str lb svb Cb) (heq : la = lb) (hbig : la.length ≤ 1048576) (e1 : C = C1 ++ (Ca ++ C2)) (e2 : C = C3 ++ (Cb ++ C4)) :
    ∃ pre, Ct Tryd.prog 7 [sva, svb].toArray pre [] (fun r C' => r = .bool true ∧ C' = []) ∧ ∀ w, St X.w0 X.B0 C w → pre w := by
  obtain ⟨ada, capa, b1, ea, h1, -, r1⟩ := ha.form
  obtain ⟨adb, capb, b2, eb, h2, -, r2⟩ := hb.form
  exact ⟨_, same_ct la lb sva svb ada adb capa capb b1 b2 ea eb h1 h2 hbig heq, fun w hs => ⟨fun i u hi => r1 X C1 C2 w (e1 ▸ hs) i u hi, fun i u hi => r2 X C3 C4 w (e2 ▸ hs) i u hi⟩⟩
theorem words_walk (l : List UInt8) : Ct Tryd.prog 3 [str l].toArray (fun w => GlobW w ∧ 0 < w.heap.size) [] (fun v C' => v = .bool true ∧ C' = []) := by
  refine ct_of_walk (fn := Tryd.f3) Tryd.func3 rfl rfl fun w0 hpre hst => ?_
  clear hst
  repeat refine G.seq ?_
  obtain ⟨hg, h0⟩ := hpre
  refine G.region [.loc] (.take 0 .done) rfl ?_
  refine GP.take rfl rfl (Does.assign rfl ?_)
  refine GP.keep [(0, _)] (.cons rfl .nil) ?_
  repeat refine G.seq ?_
  refine G.region [.loc, .gen, .loc, .loc, .loc, .loc, .loc] (.take 0 (.take 1 (.take 2 (.take 3 (.take 4 (.take 5 (.take 6 .done))))))) rfl ?_
  refine GP.take rfl rfl (Does.move rfl ?_)
  refine GP.take rfl rfl (Does.callN (.cons rfl .nil) cb5 (words_ct l) (fun w hs => ⟨fun i v hi => CellIn.old (X := cxF Tryd.prog 3 Tryd.f3.ntmps w0 (List.map Prod.fst ([] : Chunks)) fun v C' => v = .bool true ∧ C' = []) (C := []) (b := 0) (by simp) (hg i v hi) w (hs.sub .nil), Nat.lt_of_lt_of_le h0 hs.mods.size⟩) ?_)
  rintro _ C3 hres
  obtain ⟨s3, rfl, h3, n3⟩ := wres_rep hres
  clear hres
  simp only [List.nil_append]
  refine GP.take rfl rfl (Does.move rfl ?_)
  refine GP.take rfl rfl (Does.extract rfl rfl ?_)
  refine GP.take rfl rfl (Does.extract rfl rfl ?_)
  refine GP.take rfl rfl (Does.assign rfl ?_)
  refine GP.take rfl rfl (Does.assign rfl ?_)
  refine GP.keep [(0, _), (3, _), (4, _)] (.cons rfl (.cons rfl (.cons rfl .nil))) ?_
  repeat refine G.seq ?_
  refine G.region [.gen, .loc, .loc, .loc, .loc, .loc] (.take 0 (.take 1 (.take 2 (.take 3 (.take 4 (.take 5 .done)))))) rfl ?_
  refine GP.take rfl rfl (Does.callN (.cons rfl .nil) cb5 (words_ct OT) (fun w hs => ⟨fun i v hi => CellIn.old (X := cxF Tryd.prog 3 Tryd.f3.ntmps w0 (List.map Prod.fst ([] : Chunks)) fun v C' => v = .bool true ∧ C' = []) (C := []) (b := 0) (by simp) (hg i v hi) w (hs.sub .nil), Nat.lt_of_lt_of_le h0 hs.mods.size⟩) ?_)
  rintro _ C5 hres
  obtain ⟨s5, rfl, h5, n5⟩ := wres_rep hres
  clear hres
  refine GP.take rfl rfl (Does.move rfl ?_)
  refine GP.take rfl rfl (Does.extract rfl rfl ?_)
  refine GP.take rfl rfl (Does.extract rfl rfl ?_)
  refine GP.take rfl rfl (Does.assign rfl ?_)
  refine GP.take rfl rfl (Does.assign rfl ?_)
  refine GP.keep [(0, _), (3, _), (4, _), (5, _)] (.cons rfl (.cons rfl (.cons rfl (.cons rfl .nil)))) ?_
  repeat refine G.seq ?_
  refine G.region [.loc, .gen, .loc, .loc, .loc, .loc, .loc] (.take 0 (.take 1 (.take 2 (.take 3 (.take 4 (.take 5 (.take 6 .done))))))) rfl ?_
  refine GP.take rfl rfl (Does.move rfl ?_)
  refine GP.take rfl rfl (Does.callN (.cons rfl .nil) cb5 (words_ct l) (fun w hs => ⟨fun i v hi => CellIn.old (X := cxF Tryd.prog 3 Tryd.f3.ntmps w0 (List.map Prod.fst ([] : Chunks)) fun v C' => v = .bool true ∧ C' = []) (C := []) (b := 0) (by simp) (hg i v hi) w (hs.sub .nil), Nat.lt_of_lt_of_le h0 hs.mods.size⟩) ?_)
  rintro _ C7 hres
  obtain ⟨s7, rfl, h7, n7⟩ := wres_rep hres
  clear hres
  refine GP.take rfl rfl (Does.move rfl ?_)
  refine GP.take rfl rfl (Does.extract rfl rfl ?_)
  refine GP.take rfl rfl (Does.extract rfl rfl ?_)
  refine GP.take rfl rfl (Does.assign rfl ?_)
  refine GP.take rfl rfl (Does.assign rfl ?_)
  refine GP.keep [(0, _), (3, _), (4, _), (5, _), (7, _), (8, _)] (.cons rfl (.cons rfl (.cons rfl (.cons rfl (.cons rfl (.cons rfl .nil)))))) ?_
  repeat refine G.seq ?_
  refine G.region [.loc, .gen, .loc, .loc, .loc, .loc, .loc] (.take 0 (.take 1 (.take 2 (.take 3 (.take 4 (.take 5 (.take 6 .done))))))) rfl ?_
  refine GP.take rfl rfl (Does.move rfl ?_)
  refine GP.take rfl rfl (Does.callN (.cons rfl .nil) cb6 (wordsR_ct l) (fun _ _ => trivial) ?_)
  rintro _ C9 hres
  obtain ⟨s9, rfl, h9⟩ := rres_rep hres
  clear hres
  refine GP.take rfl rfl (Does.move rfl ?_)
  refine GP.take rfl rfl (Does.extract rfl rfl ?_)
  refine GP.take rfl rfl (Does.extract rfl rfl ?_)
  refine GP.take rfl rfl (Does.assign rfl ?_)
  refine GP.take rfl rfl (Does.assign rfl ?_)
  refine GP.keep [(3, _), (4, _), (5, _), (7, _), (8, _), (9, _), (10, _)] (.cons rfl (.cons rfl (.cons rfl (.cons rfl (.cons rfl (.cons rfl (.cons rfl .nil))))))) ?_
  repeat refine G.seq ?_
  rw [outW_OT] at h5 n5
  refine G.dropP [] (A := C3 ++ (C5 ++ (C7 ++ C9))) (by classical exact List.perm_iff_count.2 fun q => by simp only [List.append_nil, List.count_append] <;> omega) ?_
  obtain ⟨cd, hcd⟩ : ∃ cd, codeF l = cd := ⟨_, rfl⟩
  rw [hcd]
  obtain ⟨ws, hws⟩ : ∃ ws, outW l = ws := ⟨_, rfl⟩
  rw [hws] at h3 n3 h7 n7 h9
  clear hcd hws n7 n5
  refine G.region [.loc, .loc, .loc, .loc, .loc, .loc, .loc, .loc, .loc, .loc, .loc, .gen, .loc, .loc, .loc, .loc, .loc, .gen, .loc, .loc, .loc, .loc, .alloc, .gen, .loc, .loc] (.take 0 (.take 1 (.take 2 (.take 3 (.take 4 (.take 5 (.take 6 (.take 7 (.take 8 (.take 9 (.take 10 (.take 11 (.take 12 (.take 13 (.take 14 (.take 15 (.take 16 (.take 17 (.take 18 (.take 19 (.take 20 (.take 21 (.take 22 (.take 23 (.take 24 (.take 25 .done)))))))))))))))))))))))))) rfl ?_
  refine GP.take rfl rfl (Does.move rfl ?_)
  refine GP.take rfl rfl (Does.move rfl ?_)
  refine GP.take rfl rfl (Does.neq rfl rfl (show (!decide (cd = cd)) = false by simp) ?_)
  refine GP.take rfl rfl (Does.move rfl ?_)
  refine GP.takeG rfl rfl rfl rfl (Does.move rfl ?_)
  refine GP.takeG rfl rfl rfl rfl (Does.move rfl ?_)
  refine GP.takeG rfl rfl rfl rfl (Does.neq rfl rfl (show (!decide (cd = cd)) = false by simp) ?_)
  refine GP.take rfl rfl (Does.pickF rfl rfl ?_)
  refine GP.take rfl rfl (Does.move rfl ?_)
  refine GP.takeG rfl rfl rfl rfl (Does.move rfl ?_)
  refine GP.takeG rfl rfl rfl rfl (Does.move rfl ?_)
  obtain ⟨pr, hct, hpr⟩ := same_call (X := cxF Tryd.prog 3 Tryd.f3.ntmps w0 (List.map Prod.fst ([] : Chunks)) fun v C' => v = .bool true ∧ C' = []) (C := C3 ++ (C5 ++ (C7 ++ C9))) _ _ s3 s9 ([]) C3 (C5 ++ (C7 ++ C9)) (C3 ++ (C5 ++ C7)) C9 ([]) h3 h9 rfl (by first | omega | decide) (by simp) (by simp)
  refine GP.takeG rfl rfl rfl rfl (Does.callN (.cons rfl (.cons rfl .nil)) cb7 hct (fun w hs => hpr w hs) ?_)
  rintro _ _ ⟨rfl, rfl⟩
  clear hct hpr
  simp only [List.append_nil]
  refine GP.takeG rfl rfl rfl rfl (Does.not rfl rfl ?_)
  refine GP.take rfl rfl (Does.pickF rfl rfl ?_)
  refine GP.take rfl rfl (Does.move rfl ?_)
  refine GP.takeG rfl rfl rfl rfl (Does.move rfl ?_)
  refine GP.takeG rfl rfl rfl rfl (Does.move rfl ?_)
  obtain ⟨pr, hct, hpr⟩ := same_call (X := cxF Tryd.prog 3 Tryd.f3.ntmps w0 (List.map Prod.fst ([] : Chunks)) fun v C' => v = .bool true ∧ C' = []) (C := C3 ++ (C5 ++ (C7 ++ C9))) _ _ s7 s9 (C3 ++ C5) C7 (C9) (C3 ++ (C5 ++ C7)) C9 ([]) h7 h9 rfl (by first | omega | decide) (by simp) (by simp)
  refine GP.takeG rfl rfl rfl rfl (Does.callN (.cons rfl (.cons rfl .nil)) cb7 hct (fun w hs => hpr w hs) ?_)
  rintro _ _ ⟨rfl, rfl⟩
  clear hct hpr
  simp only [List.append_nil]
  refine GP.takeG rfl rfl rfl rfl (Does.not rfl rfl ?_)
  refine GP.take rfl rfl (Does.pickF rfl rfl ?_)
  refine GP.take rfl rfl (Does.move rfl ?_)
  refine GP.takeG rfl rfl rfl rfl (Does.move rfl ?_)
  refine GP.takeG rfl rfl rfl rfl (Does.buildSlice (r := [str [111, 110, 101], str [116, 119, 111]]) (.cons rfl (.cons rfl .nil)) sl22 zl9 (by decide) rfl fun b59 N59 h59 n59 => ?_)
  have hr59 : Rep 9 str [[111, 110, 101], [116, 119, 111]] (.slice (some ⟨b59, 0, none⟩) 2 2) [(b59, cel 9 [str [111, 110, 101], str [116, 119, 111]])] := Owns.blk (sp := []) .head rfl rfl (by decide)
  obtain ⟨pr, hct, hpr⟩ := same_call (X := cxF Tryd.prog 3 Tryd.f3.ntmps w0 (List.map Prod.fst ([] : Chunks)) fun v C' => v = .bool true ∧ C' = []) (C := (b59, cel 9 [str [111, 110, 101], str [116, 119, 111]]) :: (C3 ++ (C5 ++ (C7 ++ C9)))) _ _ s5 (.slice (some ⟨b59, 0, none⟩) 2 2) ((b59, cel 9 [str [111, 110, 101], str [116, 119, 111]]) :: C3) C5 (C7 ++ C9) ([]) [(b59, cel 9 [str [111, 110, 101], str [116, 119, 111]])] (C3 ++ (C5 ++ (C7 ++ C9))) h5 hr59 rfl (by first | omega | decide) (by simp) (by simp)
  refine GP.takeG rfl rfl rfl rfl (Does.callN (.cons rfl (.cons rfl .nil)) cb7 hct (fun w hs => hpr w hs) ?_)
  rintro _ _ ⟨rfl, rfl⟩
  clear hct hpr
  simp only [List.append_nil]
  refine GP.takeG rfl rfl rfl rfl (Does.not rfl rfl ?_)
  refine GP.take rfl rfl (Does.pickF rfl rfl ?_)
  refine GP.keep [(3, _), (5, _), (7, _), (9, _), (62, _)] (.cons rfl (.cons rfl (.cons rfl (.cons rfl (.cons rfl .nil))))) ?_
  repeat refine G.seq ?_
  refine G.condF rfl ?_
  refine G.skip ?_
  repeat refine G.seq ?_
  refine G.dropP [(b59, cel 9 [str [111, 110, 101], str [116, 119, 111]])] (A := C3 ++ (C5 ++ (C7 ++ C9))) (by classical exact List.perm_iff_count.2 fun q => by simp only [List.count_append, List.count_cons, List.count_nil] <;> omega) ?_
  obtain ⟨n, hn⟩ : ∃ n, ws.length = n := ⟨_, rfl⟩
  obtain ⟨ad3, cap3, b3, e3, had3, hc3, -⟩ := h3.form
  obtain ⟨ad5, cap5, b5, e5, had5, hc5, -⟩ := h5.form
  obtain ⟨ad7, cap7, b7, e7, had7, hc7, -⟩ := h7.form
  obtain ⟨ad9, cap9, b9, e9, -, -, -⟩ := h9.form
  subst e3 e5 e7 e9
  have ha3 : n ≠ 0 → ad3 = some ⟨b3, 0, none⟩ := fun h => had3 (by rintro rfl; exact h hn.symm)
  have ha7 : n ≠ 0 → ad7 = some ⟨b7, 0, none⟩ := fun h => had7 (by rintro rfl; exact h hn.symm)
  have ha5 := had5 (by simp)
  subst ha5
  simp only [List.length_cons, List.length_nil, Nat.zero_add, Nat.reduceAdd] at h5 hc5 ⊢
  rw [hn] at h3 n3 h7 hc3 hc7 ⊢
  refine G.region [.loc, .loc, .loc] (.take 0 (.take 1 (.take 2 .done))) rfl ?_
  refine GP.take rfl rfl (Does.move rfl ?_)
  refine GP.take rfl rfl (Does.len rfl is22 ?_)
  refine GP.take rfl rfl (Does.move rfl ?_)
  refine GP.keep [(3, _), (5, _), (7, _), (9, _), (64, _), (65, _)] (.cons rfl (.cons rfl (.cons rfl (.cons rfl (.cons rfl (.cons rfl .nil)))))) ?_
  repeat refine G.seq ?_
  refine G.dropP [] (A := C3 ++ (C5 ++ (C7 ++ C9))) (by classical exact List.perm_iff_count.2 fun q => by simp only [List.append_nil, List.count_append] <;> omega) ?_
  refine G.join (S := Chunks) (fun _ => [(3, .slice ad3 n cap3), (5, .slice (some ⟨b5, 0, none⟩) 2 cap5), (7, .slice ad7 n cap7), (9, .slice ad9 n cap9)]) (fun c => c ++ (C5 ++ (C7 ++ C9))) (fun c => Rep 9 str (List.replicate n [102, 105, 114, 115, 116]) (.slice ad3 n cap3) c) ?_ fun key => ?_
  case refine_2 =>
    refine G.block ?_
    refine G.loop (S := List (List UInt8) × Chunks × Nat) (fun s => [(3, .slice ad3 n cap3), (5, .slice (some ⟨b5, 0, none⟩) 2 cap5), (7, .slice ad7 n cap7), (9, .slice ad9 n cap9), (64, .int .i64 (n : Nat)), (65, .int .i64 (s.2.2 : Int))]) (fun s => s.2.1 ++ (C5 ++ (C7 ++ C9))) (fun s => s.1.length = n ∧ s.2.2 ≤ n ∧ Rep 9 str s.1 (.slice ad3 n cap3) s.2.1 ∧ ∀ j, j < s.2.2 → s.1[j]? = some [102, 105, 114, 115, 116]) (fun s => n - s.2.2)
      (ws, C3, 0) ⟨hn, Nat.zero_le _, h3, fun j hj => absurd hj (Nat.not_lt_zero j)⟩ (.cons rfl (.cons rfl (.cons rfl (.cons rfl (.cons rfl (.cons rfl .nil)))))) .all ?_
    rintro ⟨q, Cq, i⟩ ⟨hq, hi, hrep, hall⟩ IH
    simp only at hq hi hrep hall IH ⊢
    repeat refine G.seq ?_
    refine G.region [.loc] (.take 0 .done) rfl ?_
    refine GP.take rfl rfl (Does.lss rfl rfl (show decide ((i : Int) < ((n : Nat) : Int)) = decide (i < n) from decide_eq_decide.2 (by omega)) ?_)
    refine GP.keep [(3, _), (5, _), (7, _), (9, _), (64, _), (65, _), (66, _)] (.cons rfl (.cons rfl (.cons rfl (.cons rfl (.cons rfl (.cons rfl (.cons rfl .nil))))))) ?_
    repeat refine G.seq ?_
    refine G.cond rfl ?_ ?_
    case refine_2 =>
      intro hz
      refine G.exit rfl ?_
      have hqe := all_same q n _ hq (fun j hj => hall j (by omega))
      rw [hqe] at hrep
      exact (key Cq hrep).weak (.cons rfl (.cons rfl (.cons rfl (.cons rfl .nil))))
    intro hz
    have hqne : q ≠ [] := by
      intro h
      rw [h, List.length_nil] at hq
      omega
    obtain ⟨qb, qcap, qsp, eq, rfl, hqc, hqs⟩ := hrep.full hqne
    simp only [Value.slice.injEq] at eq
    obtain ⟨eq1, -, rfl⟩ := eq
    refine G.skip ?_
    repeat refine G.seq ?_
    refine G.block ?_
    repeat refine G.seq ?_
    refine G.region [.loc, .loc] (.take 0 (.take 1 .done)) rfl ?_
    refine GP.take rfl rfl (Does.move rfl ?_)
    refine GP.take rfl rfl (Does.assign rfl ?_)
    refine GP.keep [(3, _), (5, _), (7, _), (9, _), (11, _), (64, _), (65, _)] (.cons rfl (.cons rfl (.cons rfl (.cons rfl (.cons rfl (.cons rfl (.cons rfl .nil))))))) ?_
    repeat refine G.seq ?_
    refine G.perm ?_ (C' := (qb, cel 9 ((q.flatMap fun x => [str x]) ++ qsp)) :: (C5 ++ (C7 ++ C9))) (by classical exact List.perm_iff_count.2 fun q => by simp only [List.nil_append, List.cons_append, List.count_append, List.count_cons] <;> omega)
    refine G.region [.loc, .loc, .loc, .gen] (.take 0 (.take 1 (.take 2 (.take 3 .done)))) rfl ?_
    refine GP.take rfl rfl (Does.move rfl ?_)
    refine GP.take rfl rfl (Does.move rfl ?_)
    refine GP.take rfl rfl (Does.indexAddr i (b := qb) (o := 0) (by rw [← eq1]; rfl) rfl sl22 rfl hz ?_)
    refine GP.take0 rfl (Does.store1 rfl rfl sz9 rfl .head (row_set str q qsp i (by omega) [102, 105, 114, 115, 116]) ?_)
    refine GP.keep [(3, _), (5, _), (7, _), (9, _), (64, _), (65, _)] (.cons rfl (.cons rfl (.cons rfl (.cons rfl (.cons rfl (.cons rfl .nil)))))) ?_
    refine G.inBlock ?_
    repeat refine G.seq ?_
    refine G.region [.loc, .loc] (.take 0 (.take 1 .done)) rfl ?_
    refine GP.take rfl rfl (Does.add rfl rfl (r := ((i + 1 : Nat) : Int)) (wrc_i64 (by omega) (by omega) (by omega)) ?_)
    refine GP.take rfl rfl (Does.move rfl ?_)
    refine GP.keep [(3, _), (5, _), (7, _), (9, _), (64, _), (65, _)] (.cons rfl (.cons rfl (.cons rfl (.cons rfl (.cons rfl (.cons rfl .nil)))))) ?_
    refine IH (q.set i [102, 105, 114, 115, 116], _, i + 1) ⟨by simpa using hq, Nat.succ_le_of_lt hz, by have := Rep.set (e := 9) (row := str) (b := qb) hqc hqs i [102, 105, 114, 115, 116]; rw [hq, ← eq1] at this; exact this, fun j hj => ?_⟩ (by simp only; omega)
    simp only at hj ⊢
    by_cases hji : j = i
    · subst hji; rw [List.getElem?_set_self (by omega)]
    · rw [List.getElem?_set_ne (Ne.symm hji)]; exact hall j (by omega)
  intro D3 g3
  repeat refine G.seq ?_
  refine G.region [.loc, .loc, .loc] (.take 0 (.take 1 (.take 2 .done))) rfl ?_
  refine GP.take rfl rfl (Does.move rfl ?_)
  refine GP.take rfl rfl (Does.len rfl is22 ?_)
  refine GP.take rfl rfl (Does.move rfl ?_)
  refine GP.keep [(3, _), (5, _), (7, _), (9, _), (73, _), (74, _)] (.cons rfl (.cons rfl (.cons rfl (.cons rfl (.cons rfl (.cons rfl .nil)))))) ?_
  repeat refine G.seq ?_
  refine G.dropP [] (A := C5 ++ (D3 ++ (C7 ++ C9))) (by classical exact List.perm_iff_count.2 fun q => by simp only [List.append_nil, List.count_append] <;> omega) ?_
  refine G.join (S := Chunks) (fun _ => [(3, .slice ad3 n cap3), (5, .slice (some ⟨b5, 0, none⟩) 2 cap5), (7, .slice ad7 n cap7), (9, .slice ad9 n cap9)]) (fun c => c ++ (D3 ++ (C7 ++ C9))) (fun c => Rep 9 str (List.replicate 2 [115, 101, 99, 111, 110, 100]) (.slice (some ⟨b5, 0, none⟩) 2 cap5) c) ?_ fun key => ?_
  case refine_2 =>
    refine G.block ?_
    refine G.loop (S := List (List UInt8) × Chunks × Nat) (fun s => [(3, .slice ad3 n cap3), (5, .slice (some ⟨b5, 0, none⟩) 2 cap5), (7, .slice ad7 n cap7), (9, .slice ad9 n cap9), (73, .int .i64 (2 : Nat)), (74, .int .i64 (s.2.2 : Int))]) (fun s => s.2.1 ++ (D3 ++ (C7 ++ C9))) (fun s => s.1.length = 2 ∧ s.2.2 ≤ 2 ∧ Rep 9 str s.1 (.slice (some ⟨b5, 0, none⟩) 2 cap5) s.2.1 ∧ ∀ j, j < s.2.2 → s.1[j]? = some [115, 101, 99, 111, 110, 100]) (fun s => 2 - s.2.2)
      ([[111, 110, 101], [116, 119, 111]], C5, 0) ⟨rfl, Nat.zero_le _, h5, fun j hj => absurd hj (Nat.not_lt_zero j)⟩ (.cons rfl (.cons rfl (.cons rfl (.cons rfl (.cons rfl (.cons rfl .nil)))))) .all ?_
    rintro ⟨q, Cq, i⟩ ⟨hq, hi, hrep, hall⟩ IH
    simp only at hq hi hrep hall IH ⊢
    repeat refine G.seq ?_
    refine G.region [.loc] (.take 0 .done) rfl ?_
    refine GP.take rfl rfl (Does.lss rfl rfl (show decide ((i : Int) < ((2 : Nat) : Int)) = decide (i < 2) from decide_eq_decide.2 (by omega)) ?_)
    refine GP.keep [(3, _), (5, _), (7, _), (9, _), (73, _), (74, _), (75, _)] (.cons rfl (.cons rfl (.cons rfl (.cons rfl (.cons rfl (.cons rfl (.cons rfl .nil))))))) ?_
    repeat refine G.seq ?_
    refine G.cond rfl ?_ ?_
    case refine_2 =>
      intro hz
      refine G.exit rfl ?_
      have hqe := all_same q 2 _ hq (fun j hj => hall j (by omega))
      rw [hqe] at hrep
      exact (key Cq hrep).weak (.cons rfl (.cons rfl (.cons rfl (.cons rfl .nil))))
    intro hz
    have hqne : q ≠ [] := by
      intro h
      rw [h, List.length_nil] at hq
      omega
    obtain ⟨qb, qcap, qsp, eq, rfl, hqc, hqs⟩ := hrep.full hqne
    simp only [Value.slice.injEq] at eq
    obtain ⟨eq1, -, rfl⟩ := eq
    refine G.skip ?_
    repeat refine G.seq ?_
    refine G.block ?_
    repeat refine G.seq ?_
    refine G.region [.loc, .loc] (.take 0 (.take 1 .done)) rfl ?_
    refine GP.take rfl rfl (Does.move rfl ?_)
    refine GP.take rfl rfl (Does.assign rfl ?_)
    refine GP.keep [(3, _), (5, _), (7, _), (9, _), (12, _), (73, _), (74, _)] (.cons rfl (.cons rfl (.cons rfl (.cons rfl (.cons rfl (.cons rfl (.cons rfl .nil))))))) ?_
    repeat refine G.seq ?_
    refine G.perm ?_ (C' := (qb, cel 9 ((q.flatMap fun x => [str x]) ++ qsp)) :: (D3 ++ (C7 ++ C9))) (by classical exact List.perm_iff_count.2 fun q => by simp only [List.nil_append, List.cons_append, List.count_append, List.count_cons] <;> omega)
    refine G.region [.loc, .loc, .loc, .gen] (.take 0 (.take 1 (.take 2 (.take 3 .done)))) rfl ?_
    refine GP.take rfl rfl (Does.move rfl ?_)
    refine GP.take rfl rfl (Does.move rfl ?_)
    refine GP.take rfl rfl (Does.indexAddr i (b := qb) (o := 0) (by rw [← eq1]; rfl) rfl sl22 rfl hz ?_)
    refine GP.take0 rfl (Does.store1 rfl rfl sz9 rfl .head (row_set str q qsp i (by omega) [115, 101, 99, 111, 110, 100]) ?_)
    refine GP.keep [(3, _), (5, _), (7, _), (9, _), (73, _), (74, _)] (.cons rfl (.cons rfl (.cons rfl (.cons rfl (.cons rfl (.cons rfl .nil)))))) ?_
    refine G.inBlock ?_
    repeat refine G.seq ?_
    refine G.region [.loc, .loc] (.take 0 (.take 1 .done)) rfl ?_
    refine GP.take rfl rfl (Does.add rfl rfl (r := ((i + 1 : Nat) : Int)) (wrc_i64 (by omega) (by omega) (by omega)) ?_)
    refine GP.take rfl rfl (Does.move rfl ?_)
    refine GP.keep [(3, _), (5, _), (7, _), (9, _), (73, _), (74, _)] (.cons rfl (.cons rfl (.cons rfl (.cons rfl (.cons rfl (.cons rfl .nil)))))) ?_
    refine IH (q.set i [115, 101, 99, 111, 110, 100], _, i + 1) ⟨by simpa using hq, Nat.succ_le_of_lt hz, by have := Rep.set (e := 9) (row := str) (b := qb) hqc hqs i [115, 101, 99, 111, 110, 100]; rw [hq, ← eq1] at this; exact this, fun j hj => ?_⟩ (by simp only; omega)
    simp only at hj ⊢
    by_cases hji : j = i
    · subst hji; rw [List.getElem?_set_self (by omega)]
    · rw [List.getElem?_set_ne (Ne.symm hji)]; exact hall j (by omega)
  intro D5 g5
  repeat refine G.seq ?_
  refine G.region [.loc, .loc, .loc] (.take 0 (.take 1 (.take 2 .done))) rfl ?_
  refine GP.take rfl rfl (Does.move rfl ?_)
  refine GP.take rfl rfl (Does.len rfl is22 ?_)
  refine GP.take rfl rfl (Does.move rfl ?_)
  refine GP.keep [(3, _), (5, _), (7, _), (9, _), (82, _), (83, _)] (.cons rfl (.cons rfl (.cons rfl (.cons rfl (.cons rfl (.cons rfl .nil)))))) ?_
  repeat refine G.seq ?_
  refine G.dropP [] (A := C7 ++ (D5 ++ (D3 ++ C9))) (by classical exact List.perm_iff_count.2 fun q => by simp only [List.append_nil, List.count_append] <;> omega) ?_
  refine G.join (S := Chunks) (fun _ => [(3, .slice ad3 n cap3), (5, .slice (some ⟨b5, 0, none⟩) 2 cap5), (7, .slice ad7 n cap7), (9, .slice ad9 n cap9)]) (fun c => c ++ (D5 ++ (D3 ++ C9))) (fun c => Rep 9 str (List.replicate n [116, 104, 105, 114, 100]) (.slice ad7 n cap7) c) ?_ fun key => ?_
  case refine_2 =>
    refine G.block ?_
    refine G.loop (S := List (List UInt8) × Chunks × Nat) (fun s => [(3, .slice ad3 n cap3), (5, .slice (some ⟨b5, 0, none⟩) 2 cap5), (7, .slice ad7 n cap7), (9, .slice ad9 n cap9), (82, .int .i64 (n : Nat)), (83, .int .i64 (s.2.2 : Int))]) (fun s => s.2.1 ++ (D5 ++ (D3 ++ C9))) (fun s => s.1.length = n ∧ s.2.2 ≤ n ∧ Rep 9 str s.1 (.slice ad7 n cap7) s.2.1 ∧ ∀ j, j < s.2.2 → s.1[j]? = some [116, 104, 105, 114, 100]) (fun s => n - s.2.2)
      (ws, C7, 0) ⟨hn, Nat.zero_le _, h7, fun j hj => absurd hj (Nat.not_lt_zero j)⟩ (.cons rfl (.cons rfl (.cons rfl (.cons rfl (.cons rfl (.cons rfl .nil)))))) .all ?_
    rintro ⟨q, Cq, i⟩ ⟨hq, hi, hrep, hall⟩ IH
    simp only at hq hi hrep hall IH ⊢
    repeat refine G.seq ?_
    refine G.region [.loc] (.take 0 .done) rfl ?_
    refine GP.take rfl rfl (Does.lss rfl rfl (show decide ((i : Int) < ((n : Nat) : Int)) = decide (i < n) from decide_eq_decide.2 (by omega)) ?_)
    refine GP.keep [(3, _), (5, _), (7, _), (9, _), (82, _), (83, _), (84, _)] (.cons rfl (.cons rfl (.cons rfl (.cons rfl (.cons rfl (.cons rfl (.cons rfl .nil))))))) ?_
    repeat refine G.seq ?_
    refine G.cond rfl ?_ ?_
    case refine_2 =>
      intro hz
      refine G.exit rfl ?_
      have hqe := all_same q n _ hq (fun j hj => hall j (by omega))
      rw [hqe] at hrep
      exact (key Cq hrep).weak (.cons rfl (.cons rfl (.cons rfl (.cons rfl .nil))))
    intro hz
    have hqne : q ≠ [] := by
      intro h
      rw [h, List.length_nil] at hq
      omega
    obtain ⟨qb, qcap, qsp, eq, rfl, hqc, hqs⟩ := hrep.full hqne
    simp only [Value.slice.injEq] at eq
    obtain ⟨eq1, -, rfl⟩ := eq
    refine G.skip ?_
    repeat refine G.seq ?_
    refine G.block ?_
    repeat refine G.seq ?_
    refine G.region [.loc, .loc] (.take 0 (.take 1 .done)) rfl ?_
    refine GP.take rfl rfl (Does.move rfl ?_)
    refine GP.take rfl rfl (Does.assign rfl ?_)
    refine GP.keep [(3, _), (5, _), (7, _), (9, _), (13, _), (82, _), (83, _)] (.cons rfl (.cons rfl (.cons rfl (.cons rfl (.cons rfl (.cons rfl (.cons rfl .nil))))))) ?_
    repeat refine G.seq ?_
    refine G.perm ?_ (C' := (qb, cel 9 ((q.flatMap fun x => [str x]) ++ qsp)) :: (D5 ++ (D3 ++ C9))) (by classical exact List.perm_iff_count.2 fun q => by simp only [List.nil_append, List.cons_append, List.count_append, List.count_cons] <;> omega)
    refine G.region [.loc, .loc, .loc, .gen] (.take 0 (.take 1 (.take 2 (.take 3 .done)))) rfl ?_
    refine GP.take rfl rfl (Does.move rfl ?_)
    refine GP.take rfl rfl (Does.move rfl ?_)
    refine GP.take rfl rfl (Does.indexAddr i (b := qb) (o := 0) (by rw [← eq1]; rfl) rfl sl22 rfl hz ?_)
    refine GP.take0 rfl (Does.store1 rfl rfl sz9 rfl .head (row_set str q qsp i (by omega) [116, 104, 105, 114, 100]) ?_)
    refine GP.keep [(3, _), (5, _), (7, _), (9, _), (82, _), (83, _)] (.cons rfl (.cons rfl (.cons rfl (.cons rfl (.cons rfl (.cons rfl .nil)))))) ?_
    refine G.inBlock ?_
    repeat refine G.seq ?_
    refine G.region [.loc, .loc] (.take 0 (.take 1 .done)) rfl ?_
    refine GP.take rfl rfl (Does.add rfl rfl (r := ((i + 1 : Nat) : Int)) (wrc_i64 (by omega) (by omega) (by omega)) ?_)
    refine GP.take rfl rfl (Does.move rfl ?_)
    refine GP.keep [(3, _), (5, _), (7, _), (9, _), (82, _), (83, _)] (.cons rfl (.cons rfl (.cons rfl (.cons rfl (.cons rfl (.cons rfl .nil)))))) ?_
    refine IH (q.set i [116, 104, 105, 114, 100], _, i + 1) ⟨by simpa using hq, Nat.succ_le_of_lt hz, by have := Rep.set (e := 9) (row := str) (b := qb) hqc hqs i [116, 104, 105, 114, 100]; rw [hq, ← eq1] at this; exact this, fun j hj => ?_⟩ (by simp only; omega)
    simp only at hj ⊢
    by_cases hji : j = i
    · subst hji; rw [List.getElem?_set_self (by omega)]
    · rw [List.getElem?_set_ne (Ne.symm hji)]; exact hall j (by omega)
  intro D7 g7
  repeat refine G.seq ?_
  obtain ⟨F3, hF3⟩ : ∃ F3, List.replicate n ([102, 105, 114, 115, 116] : List UInt8) = F3 := ⟨_, rfl⟩
  obtain ⟨F5, hF5⟩ : ∃ F5, List.replicate 2 ([115, 101, 99, 111, 110, 100] : List UInt8) = F5 := ⟨_, rfl⟩
  obtain ⟨F7, hF7⟩ : ∃ F7, List.replicate n ([116, 104, 105, 114, 100] : List UInt8) = F7 := ⟨_, rfl⟩
  rw [hF3] at g3
  rw [hF5] at g5
  rw [hF7] at g7
  have l3 : F3.length = n := by rw [← hF3]; simp
  have l5 : F5.length = 2 := by rw [← hF5]; rfl
  have l7 : F7.length = n := by rw [← hF7]; simp
  refine G.dropP [] (A := D3 ++ (D5 ++ (D7 ++ C9))) (by classical exact List.perm_iff_count.2 fun q => by simp only [List.append_nil, List.count_append] <;> omega) ?_
  refine G.region [.loc, .gen, .loc, .gen, .loc, .gen, .loc, .loc, .loc] (.take 0 (.take 1 (.take 2 (.take 3 (.take 4 (.take 5 (.take 6 (.take 7 (.take 8 .done))))))))) rfl ?_
  refine GP.take rfl rfl (Does.move rfl ?_)
  refine GP.take rfl rfl (Does.appendRZ (row := str) (l := F3) ([] : List UInt8) ([]) D3 (D5 ++ (D7 ++ C9)) rfl rfl Tryd.underlying3 si22 zl9 (by simp) g3 (fun _ => rfl) (by decide) (by omega) ?_)
  intro r3 rc3 sp3 X3 hrc3 hl3
  rw [l3] at hrc3 ⊢
  refine GP.take rfl rfl (Does.move rfl ?_)
  refine GP.take rfl rfl (Does.appendRZ (row := str) (l := F5) ([] : List UInt8) (((r3, cel 9 (((F3 ++ List.replicate 64 []).flatMap fun x => [str x]) ++ sp3)) :: X3)) D5 (D7 ++ C9) rfl rfl Tryd.underlying3 si22 zl9 (by simp) g5 (fun _ => rfl) (by decide) (by omega) ?_)
  intro r5 rc5 sp5 X5 hrc5 hl5
  rw [l5] at hrc5 ⊢
  refine GP.take rfl rfl (Does.move rfl ?_)
  refine GP.take rfl rfl (Does.appendRZ (row := str) (l := F7) ([] : List UInt8) (((r3, cel 9 (((F3 ++ List.replicate 64 []).flatMap fun x => [str x]) ++ sp3)) :: X3) ++ ((r5, cel 9 (((F5 ++ List.replicate 64 []).flatMap fun x => [str x]) ++ sp5)) :: X5)) D7 (C9) rfl rfl Tryd.underlying3 si22 zl9 (by simp) g7 (fun _ => rfl) (by decide) (by omega) ?_)
  intro r7 rc7 sp7 X7 hrc7 hl7
  rw [l7] at hrc7 ⊢
  refine GP.take rfl rfl (Does.assign rfl ?_)
  refine GP.take rfl rfl (Does.assign rfl ?_)
  refine GP.take rfl rfl (Does.assign rfl ?_)
  refine GP.keep [(3, _), (5, _), (7, _), (9, _), (14, _), (15, _), (16, _)] (.cons rfl (.cons rfl (.cons rfl (.cons rfl (.cons rfl (.cons rfl (.cons rfl .nil))))))) ?_
  repeat refine G.seq ?_
  refine G.dropP [] (A := (r3, cel 9 (((F3 ++ List.replicate 64 []).flatMap fun x => [str x]) ++ sp3)) :: (r5, cel 9 (((F5 ++ List.replicate 64 []).flatMap fun x => [str x]) ++ sp5)) :: (r7, cel 9 (((F7 ++ List.replicate 64 []).flatMap fun x => [str x]) ++ sp7)) :: (X3 ++ (X5 ++ (X7 ++ C9)))) (by classical exact List.perm_iff_count.2 fun q => by simp only [List.append_nil, List.cons_append, List.count_append, List.count_cons] <;> omega) ?_
  have s3 := set_last F3 n l3 [120]
  have s5 := set_last F5 2 l5 [121]
  have s7 := set_last F7 n l7 [122]
  refine G.region [.loc, .loc, .loc, .loc, .loc, .loc, .loc, .loc, .loc, .loc, .loc, .loc, .loc, .gen, .loc, .gen, .loc, .gen] (.take 0 (.take 1 (.take 2 (.take 3 (.take 4 (.take 5 (.take 6 (.take 7 (.take 8 (.take 9 (.take 10 (.take 11 (.take 12 (.take 13 (.take 14 (.take 15 (.take 16 (.take 17 .done)))))))))))))))))) rfl ?_
  refine GP.take rfl rfl (Does.move rfl ?_)
  refine GP.take rfl rfl (Does.move rfl ?_)
  refine GP.take rfl rfl (Does.len rfl is22 ?_)
  refine GP.take rfl rfl (Does.sub rfl rfl (r := ((n + 63 : Nat) : Int)) (wrc_i64 (by omega) (by omega) (by omega)) ?_)
  refine GP.take rfl rfl (Does.move rfl ?_)
  refine GP.take rfl rfl (Does.move rfl ?_)
  refine GP.take rfl rfl (Does.len rfl is22 ?_)
  refine GP.take rfl rfl (Does.sub rfl rfl (r := ((2 + 63 : Nat) : Int)) (wrc_i64 (by omega) (by omega) (by omega)) ?_)
  refine GP.take rfl rfl (Does.move rfl ?_)
  refine GP.take rfl rfl (Does.move rfl ?_)
  refine GP.take rfl rfl (Does.len rfl is22 ?_)
  refine GP.take rfl rfl (Does.sub rfl rfl (r := ((n + 63 : Nat) : Int)) (wrc_i64 (by omega) (by omega) (by omega)) ?_)
  refine GP.take rfl rfl (Does.indexAddr (n + 63) rfl rfl sl22 rfl (by omega) ?_)
  refine GP.take0 rfl (Does.store1 rfl rfl sz9 rfl .head (by have hq := row_set str (F3 ++ List.replicate 64 []) sp3 (n + 63) (by simp [l3]) [120]; rw [s3] at hq; exact hq) ?_)
  refine GP.take rfl rfl (Does.indexAddr (2 + 63) rfl rfl sl22 rfl (by omega) ?_)
  refine GP.take0 rfl (Does.store1 rfl rfl sz9 rfl (.tail .head) (by have hq := row_set str (F5 ++ List.replicate 64 []) sp5 (2 + 63) (by simp [l5]) [121]; rw [s5] at hq; exact hq) ?_)
  refine GP.take rfl rfl (Does.indexAddr (n + 63) rfl rfl sl22 rfl (by omega) ?_)
  refine GP.take0 rfl (Does.store1 rfl rfl sz9 rfl (.tail (.tail .head)) (by have hq := row_set str (F7 ++ List.replicate 64 []) sp7 (n + 63) (by simp [l7]) [122]; rw [s7] at hq; exact hq) ?_)
  refine GP.keep [(3, _), (5, _), (7, _), (9, _), (14, _), (15, _), (16, _)] (.cons rfl (.cons rfl (.cons rfl (.cons rfl (.cons rfl (.cons rfl (.cons rfl .nil))))))) ?_
  repeat refine G.seq ?_
  refine G.region [.loc, .loc, .loc] (.take 0 (.take 1 (.take 2 .done))) rfl ?_
  refine GP.take rfl rfl (Does.move rfl ?_)
  refine GP.take rfl rfl (Does.len rfl is22 ?_)
  refine GP.take rfl rfl (Does.move rfl ?_)
  refine GP.keep [(3, _), (5, _), (7, _), (9, _), (14, _), (15, _), (16, _), (112, _), (113, _)] (.cons rfl (.cons rfl (.cons rfl (.cons rfl (.cons rfl (.cons rfl (.cons rfl (.cons rfl (.cons rfl .nil))))))))) ?_
  repeat refine G.seq ?_
  refine G.block ?_
  refine G.loop (S := Nat) (fun i => [(3, .slice ad3 n cap3), (5, .slice (some ⟨b5, 0, none⟩) 2 cap5), (7, .slice ad7 n cap7), (9, .slice ad9 n cap9), (14, .slice (some ⟨r3, 0, none⟩) (n + 64) rc3), (15, .slice (some ⟨r5, 0, none⟩) (2 + 64) rc5), (16, .slice (some ⟨r7, 0, none⟩) (n + 64) rc7), (112, .int .i64 (n : Int)), (113, .int .i64 (i : Int))]) (fun _ => (r3, cel 9 (((F3 ++ (List.replicate 64 ([] : List UInt8)).set 63 [120]).flatMap fun x => [str x]) ++ sp3)) :: (r5, cel 9 (((F5 ++ (List.replicate 64 ([] : List UInt8)).set 63 [121]).flatMap fun x => [str x]) ++ sp5)) :: (r7, cel 9 (((F7 ++ (List.replicate 64 ([] : List UInt8)).set 63 [122]).flatMap fun x => [str x]) ++ sp7)) :: (X3 ++ (X5 ++ (X7 ++ C9)))) (fun i => i ≤ n) (fun i => n - i) 0 (Nat.zero_le _) (.cons rfl (.cons rfl (.cons rfl (.cons rfl (.cons rfl (.cons rfl (.cons rfl (.cons rfl (.cons rfl .nil))))))))) .all ?_
  intro i hi IH
  repeat refine G.seq ?_
  refine G.region [.loc] (.take 0 .done) rfl ?_
  refine GP.take rfl rfl (Does.lss rfl rfl rfl ?_)
  refine GP.keep [(3, _), (5, _), (7, _), (9, _), (14, _), (15, _), (16, _), (112, _), (113, _), (114, _)] (.cons rfl (.cons rfl (.cons rfl (.cons rfl (.cons rfl (.cons rfl (.cons rfl (.cons rfl (.cons rfl (.cons rfl .nil)))))))))) ?_
  repeat refine G.seq ?_
  refine G.cond rfl ?_ ?_
  case refine_1 =>
    intro hz
    have hin : i < n := by omega
    have hn0 : n ≠ 0 := by omega
    obtain rfl := ha3 hn0
    obtain rfl := ha7 hn0
    refine G.skip ?_
    repeat refine G.seq ?_
    refine G.block ?_
    repeat refine G.seq ?_
    refine G.region [.loc, .loc] (.take 0 (.take 1 .done)) rfl ?_
    refine GP.take rfl rfl (Does.move rfl ?_)
    refine GP.take rfl rfl (Does.assign rfl ?_)
    refine GP.keep [(3, _), (5, _), (7, _), (9, _), (14, _), (15, _), (16, _), (17, _), (112, _), (113, _)] (.cons rfl (.cons rfl (.cons rfl (.cons rfl (.cons rfl (.cons rfl (.cons rfl (.cons rfl (.cons rfl (.cons rfl .nil)))))))))) ?_
    repeat refine G.seq ?_
    refine G.region [.loc, .loc, .loc, .gen, .loc, .loc, .loc, .loc, .loc, .gen, .loc, .loc] (.take 0 (.take 1 (.take 2 (.take 3 (.take 4 (.take 5 (.take 6 (.take 7 (.take 8 (.take 9 (.take 10 (.take 11 .done)))))))))))) rfl ?_
    refine GP.take rfl rfl (Does.move rfl ?_)
    refine GP.take rfl rfl (Does.move rfl ?_)
    refine GP.take rfl rfl (Does.indexAddr i rfl rfl sl22 rfl hin ?_)
    refine GP.take rfl rfl (Does.load1 rfl ft9 (fun w hs => by have hq := (fun w hs => left_row (ext := (List.replicate 64 ([] : List UInt8)).set 63 [120]) (sp := sp3) l3 hl3 ha3 (cxF Tryd.prog 3 Tryd.f3.ntmps w0 (List.map Prod.fst ([] : Chunks)) fun v C' => v = .bool true ∧ C' = []) [] ((r5, cel 9 (((F5 ++ (List.replicate 64 ([] : List UInt8)).set 63 [121]).flatMap fun x => [str x]) ++ sp5)) :: (r7, cel 9 (((F7 ++ (List.replicate 64 ([] : List UInt8)).set 63 [122]).flatMap fun x => [str x]) ++ sp7)) :: (X5 ++ (X7 ++ C9))) w (hs.perm (by classical exact List.perm_iff_count.2 fun q => by simp only [List.nil_append, List.cons_append, List.count_append, List.count_cons] <;> omega))) w hs (i * 1) (str [102, 105, 114, 115, 116]) (by rw [← hF3]; have hr := row_at str (List.replicate n ([102, 105, 114, 115, 116] : List UInt8)) [] (i) [102, 105, 114, 115, 116] (by rw [List.getElem?_replicate, if_pos (by omega)]); simpa using hr); simpa using hq) ?_)
    refine GP.take rfl rfl (Does.neS rfl rfl (show (!decide (([102, 105, 114, 115, 116] : List UInt8) = [102, 105, 114, 115, 116])) = false by simp) ?_)
    refine GP.take rfl rfl (Does.move rfl ?_)
    refine GP.takeG rfl rfl rfl rfl (Does.move rfl ?_)
    refine GP.takeG rfl rfl rfl rfl (Does.move rfl ?_)
    refine GP.takeG rfl rfl rfl rfl (Does.indexAddr i rfl rfl sl22 rfl hin ?_)
    refine GP.takeG rfl rfl rfl rfl (Does.load1 rfl ft9 (fun w hs => by have hq := (fun w hs => left_row (ext := (List.replicate 64 ([] : List UInt8)).set 63 [122]) (sp := sp7) l7 hl7 ha7 (cxF Tryd.prog 3 Tryd.f3.ntmps w0 (List.map Prod.fst ([] : Chunks)) fun v C' => v = .bool true ∧ C' = []) [] ((r3, cel 9 (((F3 ++ (List.replicate 64 ([] : List UInt8)).set 63 [120]).flatMap fun x => [str x]) ++ sp3)) :: (r5, cel 9 (((F5 ++ (List.replicate 64 ([] : List UInt8)).set 63 [121]).flatMap fun x => [str x]) ++ sp5)) :: (X3 ++ (X5 ++ C9))) w (hs.perm (by classical exact List.perm_iff_count.2 fun q => by simp only [List.nil_append, List.cons_append, List.count_append, List.count_cons] <;> omega))) w hs (i * 1) (str [116, 104, 105, 114, 100]) (by rw [← hF7]; have hr := row_at str (List.replicate n ([116, 104, 105, 114, 100] : List UInt8)) [] (i) [116, 104, 105, 114, 100] (by rw [List.getElem?_replicate, if_pos (by omega)]); simpa using hr); simpa using hq) ?_)
    refine GP.takeG rfl rfl rfl rfl (Does.neS rfl rfl (show (!decide (([116, 104, 105, 114, 100] : List UInt8) = [116, 104, 105, 114, 100])) = false by simp) ?_)
    refine GP.take rfl rfl (Does.pickF rfl rfl ?_)
    refine GP.keep [(3, _), (5, _), (7, _), (9, _), (14, _), (15, _), (16, _), (112, _), (113, _), (127, _)] (.cons rfl (.cons rfl (.cons rfl (.cons rfl (.cons rfl (.cons rfl (.cons rfl (.cons rfl (.cons rfl (.cons rfl .nil)))))))))) ?_
    repeat refine G.seq ?_
    refine G.condF rfl ?_
    refine G.skip ?_
    refine G.inBlock ?_
    repeat refine G.seq ?_
    refine G.region [.loc, .loc] (.take 0 (.take 1 .done)) rfl ?_
    refine GP.take rfl rfl (Does.add rfl rfl (r := ((i + 1 : Nat) : Int)) (wrc_i64 (by omega) (by omega) (by omega)) ?_)
    refine GP.take rfl rfl (Does.move rfl ?_)
    refine GP.keep [(3, _), (5, _), (7, _), (9, _), (14, _), (15, _), (16, _), (112, _), (113, _)] (.cons rfl (.cons rfl (.cons rfl (.cons rfl (.cons rfl (.cons rfl (.cons rfl (.cons rfl (.cons rfl .nil))))))))) ?_
    exact IH (i + 1) (by omega) (by omega)
  intro hz
  clear IH
  refine G.exit rfl ?_
  repeat refine G.seq ?_
  refine G.region [.loc, .loc, .gen, .loc, .loc, .loc, .loc, .gen, .loc, .loc, .loc, .loc, .loc, .loc, .loc, .loc, .gen, .loc, .loc, .loc, .loc, .loc, .loc, .loc, .loc, .gen, .loc, .loc, .loc, .loc, .loc, .loc, .loc, .loc, .gen, .loc, .loc, .loc] (.take 0 (.take 1 (.take 2 (.take 3 (.take 4 (.take 5 (.take 6 (.take 7 (.take 8 (.take 9 (.take 10 (.take 11 (.take 12 (.take 13 (.take 14 (.take 15 (.take 16 (.take 17 (.take 18 (.take 19 (.take 20 (.take 21 (.take 22 (.take 23 (.take 24 (.take 25 (.take 26 (.take 27 (.take 28 (.take 29 (.take 30 (.take 31 (.take 32 (.take 33 (.take 34 (.take 35 (.take 36 (.take 37 .done)))))))))))))))))))))))))))))))))))))) rfl ?_
  refine GP.take rfl rfl (Does.move rfl ?_)
  refine GP.take rfl rfl (Does.indexAddr 0 rfl rfl sl22 rfl (by omega) ?_)
  refine GP.take rfl rfl (Does.load1 rfl ft9 (fun w hs => (fun w hs => left_row (ext := (List.replicate 64 ([] : List UInt8)).set 63 [121]) (sp := sp5) l5 hl5 (fun _ => rfl) (cxF Tryd.prog 3 Tryd.f3.ntmps w0 (List.map Prod.fst ([] : Chunks)) fun v C' => v = .bool true ∧ C' = []) [] ((r3, cel 9 (((F3 ++ (List.replicate 64 ([] : List UInt8)).set 63 [120]).flatMap fun x => [str x]) ++ sp3)) :: (r7, cel 9 (((F7 ++ (List.replicate 64 ([] : List UInt8)).set 63 [122]).flatMap fun x => [str x]) ++ sp7)) :: (X3 ++ (X7 ++ C9))) w (hs.perm (by classical exact List.perm_iff_count.2 fun q => by simp only [List.nil_append, List.cons_append, List.count_append, List.count_cons] <;> omega))) w hs (0 * 1) (str [115, 101, 99, 111, 110, 100]) (by rw [← hF5]; rfl)) ?_)
  refine GP.take rfl rfl (Does.eqS (a := [115, 101, 99, 111, 110, 100]) (b := [115, 101, 99, 111, 110, 100]) rfl rfl (decide_eq_true rfl) ?_)
  refine GP.take rfl rfl (Does.move rfl ?_)
  refine GP.takeG rfl rfl rfl rfl (Does.move rfl ?_)
  refine GP.takeG rfl rfl rfl rfl (Does.indexAddr 1 rfl rfl sl22 rfl (by omega) ?_)
  refine GP.takeG rfl rfl rfl rfl (Does.load1 rfl ft9 (fun w hs => (fun w hs => left_row (ext := (List.replicate 64 ([] : List UInt8)).set 63 [121]) (sp := sp5) l5 hl5 (fun _ => rfl) (cxF Tryd.prog 3 Tryd.f3.ntmps w0 (List.map Prod.fst ([] : Chunks)) fun v C' => v = .bool true ∧ C' = []) [] ((r3, cel 9 (((F3 ++ (List.replicate 64 ([] : List UInt8)).set 63 [120]).flatMap fun x => [str x]) ++ sp3)) :: (r7, cel 9 (((F7 ++ (List.replicate 64 ([] : List UInt8)).set 63 [122]).flatMap fun x => [str x]) ++ sp7)) :: (X3 ++ (X7 ++ C9))) w (hs.perm (by classical exact List.perm_iff_count.2 fun q => by simp only [List.nil_append, List.cons_append, List.count_append, List.count_cons] <;> omega))) w hs (1 * 1) (str [115, 101, 99, 111, 110, 100]) (by rw [← hF5]; rfl)) ?_)
  refine GP.takeG rfl rfl rfl rfl (Does.eqS (a := [115, 101, 99, 111, 110, 100]) (b := [115, 101, 99, 111, 110, 100]) rfl rfl (decide_eq_true rfl) ?_)
  refine GP.take rfl rfl (Does.pickT rfl rfl ?_)
  refine GP.take rfl rfl (Does.move rfl ?_)
  refine GP.takeG rfl rfl rfl rfl (Does.move rfl ?_)
  refine GP.takeG rfl rfl rfl rfl (Does.move rfl ?_)
  refine GP.takeG rfl rfl rfl rfl (Does.len rfl is22 ?_)
  refine GP.takeG rfl rfl rfl rfl (Does.sub rfl rfl (r := ((n + 63 : Nat) : Int)) (wrc_i64 (by omega) (by omega) (by omega)) ?_)
  refine GP.takeG rfl rfl rfl rfl (Does.indexAddr (n + 63) rfl rfl sl22 rfl (by omega) ?_)
  refine GP.takeG rfl rfl rfl rfl (Does.load1 rfl ft9 (CellIn.own (.head _) (by have hq := row_at str (F3 ++ (List.replicate 64 ([] : List UInt8)).set 63 [120]) sp3 (n + 63) [120] (by rw [← s3, List.getElem?_set_self (by simp [l3])]); exact hq)) ?_)
  refine GP.takeG rfl rfl rfl rfl (Does.eqS (a := [120]) (b := [120]) rfl rfl (decide_eq_true rfl) ?_)
  refine GP.take rfl rfl (Does.pickT rfl rfl ?_)
  refine GP.take rfl rfl (Does.move rfl ?_)
  refine GP.takeG rfl rfl rfl rfl (Does.move rfl ?_)
  refine GP.takeG rfl rfl rfl rfl (Does.move rfl ?_)
  refine GP.takeG rfl rfl rfl rfl (Does.len rfl is22 ?_)
  refine GP.takeG rfl rfl rfl rfl (Does.sub rfl rfl (r := ((2 + 63 : Nat) : Int)) (wrc_i64 (by omega) (by omega) (by omega)) ?_)
  refine GP.takeG rfl rfl rfl rfl (Does.indexAddr (2 + 63) rfl rfl sl22 rfl (by omega) ?_)
  refine GP.takeG rfl rfl rfl rfl (Does.load1 rfl ft9 (CellIn.own (.tail _ (.head _)) (by have hq := row_at str (F5 ++ (List.replicate 64 ([] : List UInt8)).set 63 [121]) sp5 (2 + 63) [121] (by rw [← s5, List.getElem?_set_self (by simp [l5])]); exact hq)) ?_)
  refine GP.takeG rfl rfl rfl rfl (Does.eqS (a := [121]) (b := [121]) rfl rfl (decide_eq_true rfl) ?_)
  refine GP.take rfl rfl (Does.pickT rfl rfl ?_)
  refine GP.take rfl rfl (Does.move rfl ?_)
  refine GP.takeG rfl rfl rfl rfl (Does.move rfl ?_)
  refine GP.takeG rfl rfl rfl rfl (Does.move rfl ?_)
  refine GP.takeG rfl rfl rfl rfl (Does.len rfl is22 ?_)
  refine GP.takeG rfl rfl rfl rfl (Does.sub rfl rfl (r := ((n + 63 : Nat) : Int)) (wrc_i64 (by omega) (by omega) (by omega)) ?_)
  refine GP.takeG rfl rfl rfl rfl (Does.indexAddr (n + 63) rfl rfl sl22 rfl (by omega) ?_)
  refine GP.takeG rfl rfl rfl rfl (Does.load1 rfl ft9 (CellIn.own (.tail _ (.tail _ (.head _))) (by have hq := row_at str (F7 ++ (List.replicate 64 ([] : List UInt8)).set 63 [122]) sp7 (n + 63) [122] (by rw [← s7, List.getElem?_set_self (by simp [l7])]); exact hq)) ?_)
  refine GP.takeG rfl rfl rfl rfl (Does.eqS (a := [122]) (b := [122]) rfl rfl (decide_eq_true rfl) ?_)
  refine GP.take rfl rfl (Does.pickT rfl rfl ?_)
  refine GP.take rfl rfl (Does.assign rfl ?_)
  refine GP.keep [(2, _)] (.cons rfl .nil) ?_
  exact fin_ret (fn := Tryd.f3) Tryd.func3 (res1 rfl rfl) .nil ⟨rfl, rfl⟩
set_option maxRecDepth 100000 in
theorem consoleWords_contract (H : Type) (enc : TypeId × Value → H) (W : World) (base : Nat) (args : Array Value) (ds gs : List (DataW H)) (before : List MemPlace)
    (hval : ∀ (j : Nat) t v, Tryd.f3.params[j]? = some t → args[j]? = some v → Value.okWide Tryd.prog W .any base t v)
    (hW : DataW.Whole enc Tryd.prog Tryd.f3.params.toList Rows.consoleWordsSpec.vars false W args.toList ds gs before) (hL : laidMetH Tryd.prog Rows.consoleWordsRow.laid W) :
    Calls Tryd.prog 3 args W fun e W' => ∃ v, e = .returned v ∧ Rows.consoleWordsSpec.post enc Tryd.prog Tryd.f3 false true false false W args v W' := by
  have hW0 := hW
  obtain ⟨p, q, hA, -, -, -, -⟩ := hW
  obtain ⟨v, vs, d, ds', p1, q1, n1, hargs, rfl, rfl, h1, h2⟩ := trodAll_split (t := 9) (ts := []) hA
  obtain ⟨rfl, rfl, rfl⟩ := trodAll_end h2
  obtain rfl : args = #[v] := by cases args; simpa using hargs
  obtain ⟨s, e1, -, -⟩ := inv_string Tryd.underlying9 h1
  have hvs : v = .string s := one_of e1 (fun cs hcs => by
    have := hval 0 9 v rfl rfl
    obtain ⟨s2, rfl⟩ := Go.WideShapes.okWide_string Tryd.underlying9 this
    cases hcs)
  subst hvs
  obtain ⟨l, hl, -⟩ := str_of s
  have hG : GlobW W := glob_of hL
  have h0 : 0 < W.heap.size := cell_lt (hG 0 _ rfl)
  have hwk := words_walk l
  rw [← hl] at hwk
  refine (hwk W (by simp) (by simp) ⟨hG, h0⟩).mono ?_
  rintro e W' ⟨_, rfl, C', ⟨rfl, rfl⟩, hst⟩
  exact ⟨_, rfl, law_post laidOut maps full (by decide +kernel) rfl (fun ds hds => by match ds, hds with | [d], _ => rfl) rfl Tryd.underlying4 hW0 hst.mods.below⟩
/-- A world for the witness: the settled one, the strokes' variable (block 0) holding what its initialiser lays. -/
noncomputable def laidWorld (os : Os) : World :=
  { World.holding Tryd.prog os ⟨#[], #[], []⟩ with heap := (World.holding Tryd.prog os ⟨#[], #[], []⟩).heap.modify 0 fun
      | .cells _ t frozen => .cells #[.int .i32 92, .int .u8 92, .int .i32 34, .int .u8 34, .int .i32 110, .int .u8 10, .int .i32 116, .int .u8 9] t frozen
      | o => o }
theorem laid_met (os : Os) : laidMet Tryd.prog Rows.consoleWordsRow.laid ((laidWorld os).forCall (fun _ _ => 0) ⟨#[], #[.string ByteArray.empty], []⟩).memory :=
  laidMet_of_run' 8 (by kernel_rfl) (by kernel_rfl)
theorem reads (os : Os) {H : Type} (enc : TypeId × Value → H) : ∃ places, DataW.whole enc Tryd.prog ((laidWorld os).forCall (fun _ _ => 0) ⟨#[], #[.string ByteArray.empty], []⟩).memory Tryd.f3.params.toList Rows.consoleWordsSpec.vars false (#[.string ByteArray.empty] : Array Value).toList 8 = some ([.lit (.string [])], [], places) :=
  ⟨[], by kernel_rfl⟩
set_option maxRecDepth 100000 in
theorem lifted (os : Os) (started : os.Started) (H : Type) (enc : TypeId × Value → H) (F : Stop.Interp) :
    ReturnsInHanded {} Tryd.checked os 3 .any ((OpenSpec.ofChange Rows.consoleWordsSpec).preRow enc Tryd.prog Tryd.f3 Rows.consoleWordsRow.domain false Rows.consoleWordsRow.laid) (((OpenSpec.ofChange Rows.consoleWordsSpec).at F).post enc Tryd.prog Tryd.f3 false true false false) := by
  obtain ⟨places, hx⟩ := reads os enc
  refine returnsInHanded_of_row (C := Tryd.checked) (s := (OpenSpec.ofChange Rows.consoleWordsSpec)) own started (by kernel_rfl) Tryd.func3
    (witness_row_at (enc := enc) (C := Tryd.checked) false (laidWorld os) #[.string ByteArray.empty] rfl (by kernel_rfl) (by kernel_rfl) (by kernel_rfl)
      (OpenSpec.preRow_of_cond 8 hx (by kernel_rfl) (fun k hk => by cases hk) (by kernel_rfl) (laid_met os))) ?_
  intro W base args ds gs before hval hW h1 h2 h3 hL h4 h5
  exact consoleWords_contract H enc W base args ds gs before hval hW hL
theorem said : Rows.ConsoleWordsSaid :=
  OpenClaim.holds_of_cond 3 Tryd.f3 rfl rfl rfl rfl rfl rfl rfl ⟨rfl, rfl, rfl, rfl, rfl⟩ rfl rfl rfl rfl rfl (by kernel_rfl) Tryd.func3 (by kernel_rfl)
    (of_decide_eq_true (by kernel_rfl)) (by unfold Func.isWrapper; first | (rw [if_pos (by decide +kernel)]; kernel_rfl) | (rw [if_neg (by decide +kernel)]; exact ⟨rfl, rfl⟩))
    (fun os started H enc _ F => by rw [OpenClaim.pre_eq_preRow]; exact lifted os started H enc F)
theorem plain (f : FuncId) (fn : Func) (hf : Tryd.pinned.checked.prog.funcNamed "witness/witnesslaw19.ConsoleWords" = some f) (hfn : Tryd.pinned.checked.prog.funcs[f]? = some fn) :
    false = Tryd.pinned.checked.prog.looks [] ∧ ∀ (j : Nat) t, fn.params[j]? = some t → Tryd.pinned.checked.prog.wantsStandIn t = false := by
  obtain rfl : f = 3 := Option.some.inj ((show Tryd.prog.funcNamed "witness/witnesslaw19.ConsoleWords" = some 3 by kernel_rfl).symm.trans hf) |>.symm
  obtain rfl : fn = Tryd.f3 := (Option.some.inj (Tryd.func3.symm.trans hfn)).symm
  refine ⟨by kernel_rfl, fun j t ht => ?_⟩
  rw [Tryd.params3] at ht
  obtain rfl : t = 9 := by simpa using Array.mem_of_getElem? ht
  exact (show Tryd.prog.wantsStandIn 9 = false by kernel_rfl)
/-- THE CARD -/
theorem card : Rows.ConsoleWordsCardSaid :=
  Claim7.holds_tied_plain_at .later [] _ _ _ _ said (fun _ h => by cases h) (by kernel_rfl) (fun _ h => by cases h) consoleWords_row_tie rfl ⟨rfl, rfl⟩ (by kernel_rfl) rfl plain (by kernel_rfl)
end Go.Proofs.YtcgenmfnlocbbaaDoor.T
