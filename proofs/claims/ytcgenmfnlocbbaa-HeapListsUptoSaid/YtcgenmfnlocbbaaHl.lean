/- 'HeapLists': Sort and Least of any list of things, with a compare and without, answer as the document does, and leave the list and its spare room as it was. For every list of at most 1048576 values. -/
import Derived.Test.YtcgenmfnlocbbaaRows
import Derived.Test.YtcgenmfnlocbbaaHa
namespace Go.Proofs.Ytcgenmfnlocbbaa.T
open Go.Lg Go.Hp Go.RowKit

theorem own : ownKnob Try.prog.godebug = none := by kernel_rfl
theorem laid : laidOutB Try.prog = true := by kernel_rfl
theorem maps : mapsRowed Try.prog = true := by kernel_rfl
theorem full : ∀ t e, t < Try.prog.types.size → Try.prog.underlying t = some (.slice e) → 0 < Try.prog.cellsOf e := slices_full_of Try.prog (by kernel_rfl)

theorem take_min (D : List (Int × Int)) (n : Int) : D.take (min n D.length).toNat = D.take (max n 0).toNat := by
  by_cases h : n ≤ D.length
  · congr 1; omega
  · rw [List.take_of_length_le (by omega), List.take_of_length_le (by omega)]
theorem least_doc {all : Bool} {cmp : Cmp1} (h : AllOk all cmp) (l : List (Int × Int)) (n : Int) : leastF cmp l (min n l.length).toNat = (docF all l.length l).take (max n 0).toNat := by
  rw [least_take h.law h.anti l _ (by omega), sortF_doc h]
  have e := docF_length all l.length l rfl
  have := take_min (docF all l.length l) n
  rw [e] at this
  exact this
/-- two lists at hand are the same -/
theorem same_call {X : Cx} {C : Chunks} (la lb : List (Int × Int)) (sva svb : Value) (C1 Ca C2 C3 Cb C4 : Chunks) (ha : LRep la sva Ca) (hb : LRep lb svb Cb) (heq : la = lb) (hbig : la.length ≤ 4611686018427387904) (e1 : C = C1 ++ (Ca ++ C2)) (e2 : C = C3 ++ (Cb ++ C4)) :
    ∃ pre, Ct Try.prog 29 [sva, svb].toArray pre [] (fun r C' => r = .bool true ∧ C' = []) ∧ ∀ w, St X.w0 X.B0 C w → pre w := by
  obtain ⟨ada, capa, b1, rfl, h1, -, -, r1⟩ := ha.form
  obtain ⟨adb, capb, b2, rfl, h2, -, -, r2⟩ := hb.form
  refine ⟨_, (sames_ct la lb ada adb capa capb b1 0 b2 0 h1 h2 hbig).mono (fun _ h => h) (fun v C' h => by rw [decide_eq_true heq] at h; exact h), fun w hs => ⟨fun i u hi => r1 X C1 C2 w (e1 ▸ hs) i u hi, fun i u hi => r2 X C3 C4 w (e2 ▸ hs) i u hi⟩⟩
theorem lists_walk (l : List (Int × Int)) (n : Int) (ad : Option Addr) (cap b o : Nat) (had : l ≠ [] → ad = some ⟨b, o, none⟩) (hcap : l.length ≤ cap) (hbig : l.length ≤ 1048576) :
    Ct Try.prog 7 [.slice ad l.length cap, .int .i64 n].toArray (fun w => At w b o (l.flatMap enc1)) [] (fun v C' => v = .bool true ∧ C' = []) := by
  refine ct_of_walk (fn := Try.f7) Try.func7 rfl rfl fun w0 hpre hst => ?_
  clear hst
  repeat refine G.seq ?_
  refine G.region [.loc] (.take 0 .done) rfl ?_
  refine GP.take rfl rfl (Does.assign rfl ?_)
  refine GP.keep [(0, _), (1, _), (4, _)] (.cons rfl (.cons rfl (.cons rfl .nil))) ?_
  repeat refine G.seq ?_
  refine G.region [.loc, .loc, .gen, .loc, .loc, .loc, .loc, .loc, .loc, .loc] (.take 0 (.take 1 (.take 2 (.take 3 (.take 4 (.take 5 (.take 6 (.take 7 (.take 8 (.take 9 .done)))))))))) rfl ?_
  refine GP.take rfl rfl (Does.move rfl ?_)
  refine GP.take rfl rfl (Does.move rfl ?_)
  refine GP.take rfl rfl (Does.callN (.cons rfl (.cons rfl (.cons rfl .nil))) cb28 (listed_ct byK_ok (.func (.func 14) #[] #[]) (.inl rfl) (new_ct 14 #[] #[]) l n ad cap b o had (by omega)) (fun w hs i u hi => RowIn.old (C := []) (vs := l.flatMap enc1) (by simp) (fun i v h => hpre i v h) w (hs.sub .nil) i u hi) ?_)
  rintro _ _ ⟨sva, svb, Ca, Cb, rfl, hCa, hCb, rfl⟩
  simp only [List.nil_append]
  refine GP.take rfl rfl (Does.move rfl ?_)
  refine GP.take rfl rfl (Does.extract rfl rfl ?_)
  refine GP.take rfl rfl (Does.extract rfl rfl ?_)
  refine GP.take rfl rfl (Does.extract rfl rfl ?_)
  refine GP.take rfl rfl (Does.assign rfl ?_)
  refine GP.take rfl rfl (Does.assign rfl ?_)
  refine GP.take rfl rfl (Does.assign rfl ?_)
  refine GP.keep [(0, _), (1, _), (5, _), (6, _), (7, _)] (.cons rfl (.cons rfl (.cons rfl (.cons rfl (.cons rfl .nil))))) ?_
  repeat refine G.seq ?_
  refine G.region [.loc, .loc, .gen, .loc, .loc, .loc, .loc, .loc, .loc, .loc] (.take 0 (.take 1 (.take 2 (.take 3 (.take 4 (.take 5 (.take 6 (.take 7 (.take 8 (.take 9 .done)))))))))) rfl ?_
  refine GP.take rfl rfl (Does.move rfl ?_)
  refine GP.take rfl rfl (Does.move rfl ?_)
  refine GP.take rfl rfl (Does.callN (.cons rfl (.cons rfl (.cons rfl .nil))) cb28 (listed_ct same_ok .nilFunc (.inr ⟨rfl, rfl, rfl, rfl⟩) newNil_ct l n ad cap b o had (by omega)) (fun w hs i u hi => RowIn.old (C := []) (vs := l.flatMap enc1) (by simp) (fun i v h => hpre i v h) w (hs.sub .nil) i u hi) ?_)
  rintro _ _ ⟨svc, svd, Cc, Cd, rfl, hCc, hCd, rfl⟩
  refine GP.take rfl rfl (Does.move rfl ?_)
  refine GP.take rfl rfl (Does.extract rfl rfl ?_)
  refine GP.take rfl rfl (Does.extract rfl rfl ?_)
  refine GP.take rfl rfl (Does.extract rfl rfl ?_)
  refine GP.take rfl rfl (Does.assign rfl ?_)
  refine GP.take rfl rfl (Does.assign rfl ?_)
  refine GP.take rfl rfl (Does.assign rfl ?_)
  refine GP.keep [(0, _), (1, _), (5, _), (6, _), (7, _), (8, _), (9, _), (10, _)] (.cons rfl (.cons rfl (.cons rfl (.cons rfl (.cons rfl (.cons rfl (.cons rfl (.cons rfl .nil)))))))) ?_
  repeat refine G.seq ?_
  have aK : AllOk false cmpK := .inl ⟨rfl, rfl⟩
  have a0 : AllOk true cmp0 := .inr ⟨rfl, rfl⟩
  rw [sortF_doc aK] at hCa
  rw [least_doc aK] at hCb
  rw [sortF_doc a0] at hCc
  rw [least_doc a0] at hCd
  have hl1 := docF_length false l.length l rfl
  have hl0 := docF_length true l.length l rfl
  have hd1 : ((docF false l.length l).take (max n 0).toNat).length ≤ 1048576 := by rw [List.length_take]; omega
  have hd0 : ((docF true l.length l).take (max n 0).toNat).length ≤ 1048576 := by rw [List.length_take]; omega
  refine G.region [.loc, .loc, .loc, .loc, .loc, .loc, .loc, .loc, .loc, .gen, .gen, .loc, .loc, .loc, .loc, .loc, .loc, .gen, .gen, .loc, .loc] (.take 0 (.take 1 (.take 2 (.take 3 (.take 4 (.take 5 (.take 6 (.take 7 (.take 8 (.take 9 (.take 10 (.take 11 (.take 12 (.take 13 (.take 14 (.take 15 (.take 16 (.take 17 (.take 18 (.take 19 (.take 20 .done))))))))))))))))))))) rfl ?_
  refine GP.take rfl rfl (Does.move rfl ?_)
  refine GP.take rfl rfl (Does.not rfl rfl ?_)
  refine GP.take rfl rfl (Does.move rfl ?_)
  refine GP.takeG rfl rfl rfl rfl (Does.move rfl ?_)
  refine GP.takeG rfl rfl rfl rfl (Does.not rfl rfl ?_)
  refine GP.take rfl rfl (Does.pickF rfl rfl ?_)
  refine GP.take rfl rfl (Does.move rfl ?_)
  refine GP.takeG rfl rfl rfl rfl (Does.move rfl ?_)
  refine GP.takeG rfl rfl rfl rfl (Does.move rfl ?_)
  refine GP.takeG rfl rfl rfl rfl (Does.callN (.cons rfl (.cons rfl .nil)) cb30 (docSort_ct l false ad cap b o had hcap (by omega)) (fun w hs i u hi => RowIn.old (C := []) (vs := l.flatMap enc1) (by simp) (fun i v h => hpre i v h) w (hs.sub .nil) i u hi) ?_)
  intro sv1 C1 h1
  obtain ⟨pr, hct, hpr⟩ := same_call (X := cxF Try.prog 7 Try.f7.ntmps w0 (List.map Prod.fst ([] : Chunks)) fun v C' => v = .bool true ∧ C' = []) (C := [] ++ (Ca ++ Cb ++ (Cc ++ Cd) ++ C1)) _ _ sva sv1 ([]) (Ca) (Cb ++ (Cc ++ Cd) ++ C1) (Ca ++ Cb ++ (Cc ++ Cd)) (C1) ([]) hCa h1 rfl (by omega) (by simp) (by simp)
  refine GP.takeG rfl rfl rfl rfl (Does.callN (.cons rfl (.cons rfl .nil)) cb29 hct (fun w hs => hpr w (by simpa using hs)) ?_)
  rintro _ _ ⟨rfl, rfl⟩
  clear hct hpr
  simp only [List.append_nil]
  refine GP.takeG rfl rfl rfl rfl (Does.not rfl rfl ?_)
  refine GP.take rfl rfl (Does.pickF rfl rfl ?_)
  refine GP.take rfl rfl (Does.move rfl ?_)
  refine GP.takeG rfl rfl rfl rfl (Does.move rfl ?_)
  refine GP.takeG rfl rfl rfl rfl (Does.move rfl ?_)
  refine GP.takeG rfl rfl rfl rfl (Does.move rfl ?_)
  refine GP.takeG rfl rfl rfl rfl (Does.callN (.cons rfl (.cons rfl (.cons rfl .nil))) cb31 (docLeast_ct l n false ad cap b o had hcap (by omega)) (fun w hs i u hi => RowIn.old (C := []) (vs := l.flatMap enc1) (by simp) (fun i v h => hpre i v h) w (hs.sub .nil) i u hi) ?_)
  intro sv2 C2 h2
  obtain ⟨pr, hct, hpr⟩ := same_call (X := cxF Try.prog 7 Try.f7.ntmps w0 (List.map Prod.fst ([] : Chunks)) fun v C' => v = .bool true ∧ C' = []) (C := Ca ++ (Cb ++ Cc ++ Cd ++ C1 ++ C2)) _ _ svb sv2 (Ca) (Cb) (Cc ++ Cd ++ C1 ++ C2) (Ca ++ Cb ++ (Cc ++ Cd) ++ C1) (C2) ([]) hCb h2 rfl (by omega) (by simp) (by simp)
  refine GP.takeG rfl rfl rfl rfl (Does.callN (.cons rfl (.cons rfl .nil)) cb29 hct (fun w hs => hpr w (by simpa using hs)) ?_)
  rintro _ _ ⟨rfl, rfl⟩
  clear hct hpr
  simp only [List.append_nil]
  refine GP.takeG rfl rfl rfl rfl (Does.not rfl rfl ?_)
  refine GP.take rfl rfl (Does.pickF rfl rfl ?_)
  refine GP.keep [(0, _), (1, _), (8, _), (9, _), (45, _)] (.cons rfl (.cons rfl (.cons rfl (.cons rfl (.cons rfl .nil))))) ?_
  repeat refine G.seq ?_
  refine G.condF rfl ?_
  refine G.skip ?_
  repeat refine G.seq ?_
  refine G.region [.loc, .loc, .gen, .gen, .loc, .loc, .loc, .loc, .gen, .gen, .loc, .loc] (.take 0 (.take 1 (.take 2 (.take 3 (.take 4 (.take 5 (.take 6 (.take 7 (.take 8 (.take 9 (.take 10 (.take 11 .done)))))))))))) rfl ?_
  refine GP.take rfl rfl (Does.move rfl ?_)
  refine GP.take rfl rfl (Does.move rfl ?_)
  refine GP.take rfl rfl (Does.callN (.cons rfl (.cons rfl .nil)) cb30 (docSort_ct l true ad cap b o had hcap (by omega)) (fun w hs i u hi => RowIn.old (C := []) (vs := l.flatMap enc1) (by simp) (fun i v h => hpre i v h) w (hs.sub .nil) i u hi) ?_)
  intro sv3 C3 h3
  obtain ⟨pr, hct, hpr⟩ := same_call (X := cxF Try.prog 7 Try.f7.ntmps w0 (List.map Prod.fst ([] : Chunks)) fun v C' => v = .bool true ∧ C' = []) (C := Ca ++ Cb ++ (Cc ++ Cd ++ C1 ++ C2 ++ C3)) _ _ svc sv3 (Ca ++ Cb) (Cc) (Cd ++ C1 ++ C2 ++ C3) (Ca ++ Cb ++ (Cc ++ Cd) ++ C1 ++ C2) (C3) ([]) hCc h3 rfl (by omega) (by simp) (by simp)
  refine GP.take rfl rfl (Does.callN (.cons rfl (.cons rfl .nil)) cb29 hct (fun w hs => hpr w (by simpa using hs)) ?_)
  rintro _ _ ⟨rfl, rfl⟩
  clear hct hpr
  simp only [List.append_nil]
  refine GP.take rfl rfl (Does.move rfl ?_)
  refine GP.takeG rfl rfl rfl rfl (Does.move rfl ?_)
  refine GP.takeG rfl rfl rfl rfl (Does.move rfl ?_)
  refine GP.takeG rfl rfl rfl rfl (Does.move rfl ?_)
  refine GP.takeG rfl rfl rfl rfl (Does.callN (.cons rfl (.cons rfl (.cons rfl .nil))) cb31 (docLeast_ct l n true ad cap b o had hcap (by omega)) (fun w hs i u hi => RowIn.old (C := []) (vs := l.flatMap enc1) (by simp) (fun i v h => hpre i v h) w (hs.sub .nil) i u hi) ?_)
  intro sv4 C4 h4
  obtain ⟨pr, hct, hpr⟩ := same_call (X := cxF Try.prog 7 Try.f7.ntmps w0 (List.map Prod.fst ([] : Chunks)) fun v C' => v = .bool true ∧ C' = []) (C := Ca ++ Cb ++ Cc ++ (Cd ++ C1 ++ C2 ++ C3 ++ C4)) _ _ svd sv4 (Ca ++ Cb ++ Cc) (Cd) (C1 ++ C2 ++ C3 ++ C4) (Ca ++ Cb ++ (Cc ++ Cd) ++ C1 ++ C2 ++ C3) (C4) ([]) hCd h4 rfl (by omega) (by simp) (by simp)
  refine GP.takeG rfl rfl rfl rfl (Does.callN (.cons rfl (.cons rfl .nil)) cb29 hct (fun w hs => hpr w (by simpa using hs)) ?_)
  rintro _ _ ⟨rfl, rfl⟩
  clear hct hpr
  simp only [List.append_nil]
  refine GP.take rfl rfl (Does.pickT rfl rfl ?_)
  refine GP.take rfl rfl (Does.assign rfl ?_)
  refine GP.keep [(4, _)] (.cons rfl .nil) ?_
  exact fin_ret (fn := Try.f7) Try.func7 (res1 rfl rfl) .nil ⟨rfl, rfl⟩
set_option maxRecDepth 100000 in
theorem heapLists_contract (H : Type) (enc : TypeId × Value → H) (W : World) (base : Nat) (args : Array Value) (ds gs : List (DataW H)) (before : List MemPlace)
    (hval : ∀ (j : Nat) t v, Try.f7.params[j]? = some t → args[j]? = some v → Value.okWide Try.prog W .any base t v)
    (hW : DataW.Whole enc Try.prog Try.f7.params.toList Rows.heapListsSpec.vars false W args.toList ds gs before) (hk : Rows.uptoSmall H (ds ++ gs) = true) :
    Calls Try.prog 7 args W fun e W' => ∃ v, e = .returned v ∧ Rows.heapListsSpec.post enc Try.prog Try.f7 false true false false W args v W' := by
  have hW0 := hW
  obtain ⟨p, q, hA, -, -, -, -⟩ := hW
  have hsm : Rows.uptoBulkAll (ds ++ gs) ≤ 1048576 := of_decide_eq_true hk
  obtain ⟨v, vs, d, ds', p1, q1, n1, hargs, rfl, rfl, h1, h2⟩ := trodAll_split (t := 34) (ts := [3]) hA
  obtain ⟨v2, vs2, d2, ds2, p2, q2, n2, rfl, rfl, rfl, h3, h4⟩ := trodAll_split (t := 3) (ts := []) h2
  obtain ⟨rfl, rfl, rfl⟩ := trodAll_end h4
  obtain rfl : args = #[v, v2] := by cases args; simpa using hargs
  obtain ⟨a0, len, cap, rfl⟩ := Go.WideShapes.okWide_slice Try.underlying34 (hval 0 34 _ rfl rfl)
  obtain ⟨n, rfl⟩ := Go.WideShapes.okWide_int Try.underlying3 (hval 1 3 _ rfl rfl)
  obtain ⟨l, ad, cap', b, o, e1, e2, e3, e4, e5⟩ := inv_things h1
  have e1' : [Value.slice a0 len cap] = [.slice ad l.length cap'] := e1
  simp only [List.cons.injEq, Value.slice.injEq, and_true] at e1'
  obtain ⟨rfl, rfl, rfl⟩ := e1'
  have hbd : Rows.uptoBulk d + (Rows.uptoBulk d2 + Rows.uptoBulkAll gs) ≤ 1048576 := hsm
  have e5' : l.length + 1 ≤ Rows.uptoBulk d := e5
  refine (lists_walk l n a0 cap b o e3 e2 (by omega) W (by simp) (by simp) e4).mono ?_
  rintro e W' ⟨_, rfl, C', ⟨rfl, rfl⟩, hst⟩
  exact ⟨_, rfl, law_post laid maps full (by decide +kernel) rfl (fun ds hds => by match ds, hds with | [d, d2], _ => rfl) rfl Try.underlying4 hW0 hst.mods.below⟩
set_option maxRecDepth 100000 in
theorem heapLists_lifted (os : Os) (started : os.Started) (H : Type) (enc : TypeId × Value → H) (F : Stop.Interp) :
    ReturnsInHanded {} Try.checked os 7 .any ((Rows.OpenSpec.upto Rows.heapListsSpec).pre6 enc Try.prog Try.f7 Rows.heapListsUptoRow.domain false) (((Rows.OpenSpec.upto Rows.heapListsSpec).at F).post enc Try.prog Try.f7 false true false false) := by
  refine returnsInHanded_of_cond (C := Try.checked) (s := Rows.OpenSpec.upto Rows.heapListsSpec) (k := Rows.uptoSmall) rfl own started (by kernel_rfl) Try.func7
    (OpenSpec.witness (enc := enc) (C := Try.checked) (s := Rows.OpenSpec.upto Rows.heapListsSpec) (k := Rows.uptoSmall) rfl false ⟨#[], #[.slice none 0 0, .int .i64 0], []⟩ 8 (by kernel_rfl) (by kernel_rfl) (by kernel_rfl)
      (x := ([.nil, .lit (.int .i64 0)], [], [])) (by kernel_rfl) rfl (by kernel_rfl)) ?_
  intro W base args ds gs before hval hW _ hk _
  exact heapLists_contract H enc W base args ds gs before hval hW hk

/-- THE STATEMENT. -/
theorem heapLists_holds : Rows.HeapListsUptoSaid :=
  OpenClaim.holds_of_cond 7 Try.f7 rfl rfl rfl rfl rfl rfl rfl ⟨rfl, rfl, rfl, rfl, rfl⟩ rfl rfl rfl rfl rfl (by kernel_rfl) Try.func7 (by kernel_rfl)
    (of_decide_eq_true (by kernel_rfl)) (by unfold Func.isWrapper; first | (rw [if_pos (by decide +kernel)]; kernel_rfl) | (rw [if_neg (by decide +kernel)]; exact ⟨rfl, rfl⟩))
    (fun os started H enc _ F => heapLists_lifted os started H enc F)

end Go.Proofs.Ytcgenmfnlocbbaa.T
