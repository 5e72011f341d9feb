/- A step of the scanner outside of a quoted word, walked. Nothing is claimed of a law here. -/
import Derived.Test.YtcgenmfnlocbbaaDoorA1
namespace Go.Proofs.YtcgenmfnlocbbaaDoor.T
open Go.Lg

def outF (s : Sc) (c : Nat) (b : List UInt8) : Sc × Bool × Bool :=
  if blankF c = true then (if s.at_ = 1 ∨ s.at_ = 6 then endS s else { s with at_ := 0 }, true, true)
  else if c = 35 ∧ s.at_ ≠ 1 then (s, false, true)
  else if s.at_ = 6 ∨ (c = 34 ∧ s.at_ = 1) then (s, false, false)
  else if c = 34 then ({ s with at_ := 2 }, true, true)
  else ({ s with at_ := 1, word := s.word ++ b }, true, true)
def strokeF (c : Nat) : Option UInt8 := if c = 92 then some 92 else if c = 34 then some 34 else if c = 110 then some 10 else if c = 116 then some 9 else none
def byteF (n : Int) : UInt8 := UInt8.ofNat (IntKind.u8.wrap n).toNat
def inF (s : Sc) (c : Nat) (b : List UInt8) : Sc × Bool :=
  if s.at_ = 2 then (if c = 34 then { s with at_ := 6 } else if c = 92 then { s with at_ := 3 } else { s with word := s.word ++ b }, true)
  else if s.at_ = 3 then (if c = 120 then ({ s with at_ := 4 }, true) else match strokeF c with
    | some x => ({ s with at_ := 2, word := s.word ++ [x] }, true)
    | none => (s, false))
  else if s.at_ = 4 then ({ s with at_ := 5, high := digF c }, decide (digF c ≥ 0))
  else ({ s with at_ := 2, word := s.word ++ [byteF (16 * s.high + digF c)] }, decide (digF c ≥ 0))
theorem outside_ct (sb : Nat) (s : Sc) (C : Chunks) (c : Nat) (b : List UInt8) (hs : ScR sb s C) (hw : s.words.length ≤ 1048575) (hb : 1 ≤ b.length) (hl : s.word.length + b.length ≤ 1048576) :
    Ct Tryd.prog 10 [.pointer (some ⟨sb, 0, none⟩), .int .i32 (c : Int), str b].toArray (fun _ => True) C (fun v C' => v = .tuple #[.bool (outF s c b).2.1, .bool (outF s c b).2.2] ∧ ScR sb (outF s c b).1 C') := by
  have hs0 := hs
  obtain ⟨wv, wsv, Cw, Cws, rfl, h1, h2⟩ := hs
  have hC0 : ScR sb s ((sb, scell s wv wsv) :: (Cw ++ Cws)) := hs0
  unfold scell at hC0 ⊢
  refine ct_of_walk (fn := Tryd.f10) Tryd.func10 rfl rfl fun w0 hpre hst => ?_
  clear hst
  repeat refine G.seq ?_
  refine G.region [.loc, .loc] (.take 0 (.take 1 .done)) rfl ?_
  refine GP.take rfl rfl (Does.assign rfl ?_)
  refine GP.take rfl rfl (Does.assign rfl ?_)
  refine GP.keep [(0, _), (1, _), (2, _)] (.cons rfl (.cons rfl (.cons rfl .nil))) ?_
  repeat refine G.seq ?_
  refine G.block ?_
  repeat refine G.seq ?_
  refine G.region [.loc, .gen, .loc] (.take 0 (.take 1 (.take 2 .done))) rfl ?_
  refine GP.take rfl rfl (Does.move rfl ?_)
  refine GP.take rfl rfl (Does.callN (.cons rfl .nil) cb16 (blank_ct c) (fun _ _ => trivial) ?_)
  rintro _ _ ⟨rfl, rfl⟩
  simp only [List.append_nil]
  refine GP.take rfl rfl (Does.assign rfl ?_)
  refine GP.keep [(0, _), (1, _), (2, _), (20, _)] (.cons rfl (.cons rfl (.cons rfl (.cons rfl .nil)))) ?_
  repeat refine G.seq ?_
  cases hbl : blankF c with
  | true =>
    refine G.condT rfl ?_
    repeat refine G.seq ?_
    refine G.join (S := Unit) (fun _ => [(0, .pointer (some ⟨sb, 0, none⟩)), (1, .int .i32 (c : Int)), (2, str b), (34, .bool (decide (s.at_ = 1 ∨ s.at_ = 6)))]) (fun _ => (sb, cel 35 [.int .i64 s.at_, .int .i64 s.high, wv, wsv]) :: (Cw ++ Cws)) (fun _ => True) ?_ fun key => ?_
    case refine_2 =>
      by_cases a1 : s.at_ = 1
      · skip
        rw [decide_eq_true (show (s.at_ = 1 ∨ s.at_ = 6) from .inl a1)] at key
        refine G.region [.loc, .loc, .loc, .gen, .loc, .loc, .loc, .loc, .loc, .gen, .loc, .loc] (.take 0 (.take 1 (.take 2 (.take 3 (.take 4 (.take 5 (.take 6 (.take 7 (.take 8 (.take 9 (.take 10 (.take 11 .done)))))))))))) rfl ?_
        refine GP.take rfl rfl (Does.move rfl ?_)
        refine GP.take rfl rfl (Does.nilCheck rfl ?_)
        refine GP.take rfl rfl (Does.fieldAddr rfl fo35_0 ?_)
        refine GP.take rfl rfl (Does.load1 rfl ft3 (CellIn.own (.head _) rfl) ?_)
        refine GP.take rfl rfl (Does.eql rfl rfl (show decide (s.at_ = 1) = true from decide_eq_true (by omega)) ?_)
        refine GP.take rfl rfl (Does.move rfl ?_)
        refine GP.pass rfl rfl rfl rfl rfl ?_
        refine GP.pass rfl rfl rfl rfl rfl ?_
        refine GP.pass rfl rfl rfl rfl rfl ?_
        refine GP.pass rfl rfl rfl rfl rfl ?_
        refine GP.pass rfl rfl rfl rfl rfl ?_
        refine GP.take rfl rfl (Does.pickT rfl rfl ?_)
        refine GP.keep [(0, _), (1, _), (2, _), (34, _)] (.cons rfl (.cons rfl (.cons rfl (.cons rfl .nil)))) ?_
        exact (key () trivial)
      by_cases a6 : s.at_ = 6
      · skip
        rw [decide_eq_true (show (s.at_ = 1 ∨ s.at_ = 6) from .inr a6)] at key
        refine G.region [.loc, .loc, .loc, .gen, .loc, .loc, .loc, .loc, .loc, .gen, .loc, .loc] (.take 0 (.take 1 (.take 2 (.take 3 (.take 4 (.take 5 (.take 6 (.take 7 (.take 8 (.take 9 (.take 10 (.take 11 .done)))))))))))) rfl ?_
        refine GP.take rfl rfl (Does.move rfl ?_)
        refine GP.take rfl rfl (Does.nilCheck rfl ?_)
        refine GP.take rfl rfl (Does.fieldAddr rfl fo35_0 ?_)
        refine GP.take rfl rfl (Does.load1 rfl ft3 (CellIn.own (.head _) rfl) ?_)
        refine GP.take rfl rfl (Does.eql rfl rfl (show decide (s.at_ = 1) = false from decide_eq_false (by omega)) ?_)
        refine GP.take rfl rfl (Does.move rfl ?_)
        refine GP.takeG rfl rfl rfl rfl (Does.move rfl ?_)
        refine GP.takeG rfl rfl rfl rfl (Does.nilCheck rfl ?_)
        refine GP.takeG rfl rfl rfl rfl (Does.fieldAddr rfl fo35_0 ?_)
        refine GP.takeG rfl rfl rfl rfl (Does.load1 rfl ft3 (CellIn.own (.head _) rfl) ?_)
        refine GP.takeG rfl rfl rfl rfl (Does.eql rfl rfl (show decide (s.at_ = 6) = true from decide_eq_true (by omega)) ?_)
        refine GP.take rfl rfl (Does.pickF rfl rfl ?_)
        refine GP.keep [(0, _), (1, _), (2, _), (34, _)] (.cons rfl (.cons rfl (.cons rfl (.cons rfl .nil)))) ?_
        exact (key () trivial)
      · skip
        rw [decide_eq_false (show ¬ (s.at_ = 1 ∨ s.at_ = 6) from (fun h => by omega))] at key
        refine G.region [.loc, .loc, .loc, .gen, .loc, .loc, .loc, .loc, .loc, .gen, .loc, .loc] (.take 0 (.take 1 (.take 2 (.take 3 (.take 4 (.take 5 (.take 6 (.take 7 (.take 8 (.take 9 (.take 10 (.take 11 .done)))))))))))) rfl ?_
        refine GP.take rfl rfl (Does.move rfl ?_)
        refine GP.take rfl rfl (Does.nilCheck rfl ?_)
        refine GP.take rfl rfl (Does.fieldAddr rfl fo35_0 ?_)
        refine GP.take rfl rfl (Does.load1 rfl ft3 (CellIn.own (.head _) rfl) ?_)
        refine GP.take rfl rfl (Does.eql rfl rfl (show decide (s.at_ = 1) = false from decide_eq_false (by omega)) ?_)
        refine GP.take rfl rfl (Does.move rfl ?_)
        refine GP.takeG rfl rfl rfl rfl (Does.move rfl ?_)
        refine GP.takeG rfl rfl rfl rfl (Does.nilCheck rfl ?_)
        refine GP.takeG rfl rfl rfl rfl (Does.fieldAddr rfl fo35_0 ?_)
        refine GP.takeG rfl rfl rfl rfl (Does.load1 rfl ft3 (CellIn.own (.head _) rfl) ?_)
        refine GP.takeG rfl rfl rfl rfl (Does.eql rfl rfl (show decide (s.at_ = 6) = false from decide_eq_false (by omega)) ?_)
        refine GP.take rfl rfl (Does.pickF rfl rfl ?_)
        refine GP.keep [(0, _), (1, _), (2, _), (34, _)] (.cons rfl (.cons rfl (.cons rfl (.cons rfl .nil)))) ?_
        exact (key () trivial)
    rintro - -
    refine G.cond rfl ?_ ?_
    · intro hp
      repeat refine G.seq ?_
      refine G.region [.loc, .gen] (.take 0 (.take 1 .done)) rfl ?_
      refine GP.take rfl rfl (Does.move rfl ?_)
      refine GP.take rfl rfl (Does.callP [] ((sb, cel 35 [.int .i64 s.at_, .int .i64 s.high, wv, wsv]) :: (Cw ++ Cws)) (.cons rfl .nil) cb11 (by classical exact List.perm_iff_count.2 fun q => by simp only [List.append_eq, List.nil_append, List.append_nil, List.cons_append, List.count_append, List.count_cons, List.count_nil] <;> omega) (end_ct sb s _ hC0 (by omega)) (fun _ _ => trivial) ?_)
      rintro _ C9 ⟨rfl, wn, wsn, Cn, Csn, rfl, g1, g2⟩
      refine ⟨(sb, scell (endS s) wn wsn) :: (Cn ++ Csn), (by classical exact List.perm_iff_count.2 fun q => by simp only [List.append_eq, List.nil_append, List.append_nil, List.cons_append, List.count_append, List.count_cons, List.count_nil] <;> omega), ?_⟩
      refine GP.keep [(0, _), (1, _), (2, _)] (.cons rfl (.cons rfl (.cons rfl .nil))) ?_
      repeat refine G.seq ?_
      unfold scell
      refine G.region [.loc, .loc, .loc, .gen] (.take 0 (.take 1 (.take 2 (.take 3 .done)))) rfl ?_
      refine GP.take rfl rfl (Does.move rfl ?_)
      refine GP.take rfl rfl (Does.nilCheck rfl ?_)
      refine GP.take rfl rfl (Does.fieldAddr rfl fo35_0 ?_)
      refine GP.take0 rfl (Does.store1 rfl rfl sz3 rfl .head .head ?_)
      refine GP.keep [(0, _), (1, _), (2, _)] (.cons rfl (.cons rfl (.cons rfl .nil))) ?_
      refine G.inBlock ?_
      repeat refine G.seq ?_
      refine G.region [.loc, .loc] (.take 0 (.take 1 .done)) rfl ?_
      refine GP.take rfl rfl (Does.assign rfl ?_)
      refine GP.take rfl rfl (Does.assign rfl ?_)
      refine GP.keep [(6, _), (7, _)] (.cons rfl (.cons rfl .nil)) ?_
      exact fin_ret (fn := Tryd.f10) (R := []) Tryd.func10 (res2 rfl rfl rfl) .all ⟨by rw [outF]; simp [hbl, hp], by rw [outF]; simp only [hbl, if_true, if_pos hp]; exact ⟨wn, wsn, Cn, Csn, rfl, g1, g2⟩⟩
    · intro hp
      refine G.skip ?_
      repeat refine G.seq ?_
      refine G.region [.loc, .loc, .loc, .gen] (.take 0 (.take 1 (.take 2 (.take 3 .done)))) rfl ?_
      refine GP.take rfl rfl (Does.move rfl ?_)
      refine GP.take rfl rfl (Does.nilCheck rfl ?_)
      refine GP.take rfl rfl (Does.fieldAddr rfl fo35_0 ?_)
      refine GP.take0 rfl (Does.store1 rfl rfl sz3 rfl .head .head ?_)
      refine GP.keep [(0, _), (1, _), (2, _)] (.cons rfl (.cons rfl (.cons rfl .nil))) ?_
      refine G.inBlock ?_
      repeat refine G.seq ?_
      refine G.region [.loc, .loc] (.take 0 (.take 1 .done)) rfl ?_
      refine GP.take rfl rfl (Does.assign rfl ?_)
      refine GP.take rfl rfl (Does.assign rfl ?_)
      refine GP.keep [(6, _), (7, _)] (.cons rfl (.cons rfl .nil)) ?_
      exact fin_ret (fn := Tryd.f10) (R := []) Tryd.func10 (res2 rfl rfl rfl) .all ⟨by rw [outF]; simp [hbl], by rw [outF]; simp only [hbl, if_true, if_neg hp]; exact ⟨wv, wsv, Cw, Cws, rfl, h1, h2⟩⟩
  | false =>
    have hbn : ¬ (blankF c = true) := by rw [hbl]; decide
    refine G.condF rfl ?_
    repeat refine G.seq ?_
    refine G.join (S := Unit) (fun _ => [(0, .pointer (some ⟨sb, 0, none⟩)), (1, .int .i32 (c : Int)), (2, str b), (40, .bool (decide (c = 35 ∧ s.at_ ≠ 1)))]) (fun _ => (sb, cel 35 [.int .i64 s.at_, .int .i64 s.high, wv, wsv]) :: (Cw ++ Cws)) (fun _ => True) ?_ fun key => ?_
    case refine_2 =>
      by_cases c35 : c = 35
      · by_cases a1 : s.at_ = 1
        · skip
          rw [decide_eq_false (show ¬ (c = 35 ∧ s.at_ ≠ 1) from (fun h => h.2 a1))] at key
          refine G.region [.loc, .loc, .loc, .loc, .loc, .loc, .gen, .loc, .loc, .loc] (.take 0 (.take 1 (.take 2 (.take 3 (.take 4 (.take 5 (.take 6 (.take 7 (.take 8 (.take 9 .done)))))))))) rfl ?_
          refine GP.take rfl rfl (Does.move rfl ?_)
          refine GP.take rfl rfl (Does.eql rfl rfl (show decide ((c : Int) = 35) = true from decide_eq_true (by omega)) ?_)
          refine GP.take rfl rfl (Does.move rfl ?_)
          refine GP.takeG rfl rfl rfl rfl (Does.move rfl ?_)
          refine GP.takeG rfl rfl rfl rfl (Does.nilCheck rfl ?_)
          refine GP.takeG rfl rfl rfl rfl (Does.fieldAddr rfl fo35_0 ?_)
          refine GP.takeG rfl rfl rfl rfl (Does.load1 rfl ft3 (CellIn.own (.head _) rfl) ?_)
          refine GP.takeG rfl rfl rfl rfl (Does.neq rfl rfl (show (!decide (s.at_ = 1)) = false by simp <;> omega) ?_)
          refine GP.take rfl rfl (Does.pickT rfl rfl ?_)
          refine GP.take rfl rfl (Does.assign rfl ?_)
          refine GP.keep [(0, _), (1, _), (2, _), (40, _)] (.cons rfl (.cons rfl (.cons rfl (.cons rfl .nil)))) ?_
          exact (key () trivial)
        · skip
          rw [decide_eq_true (show (c = 35 ∧ s.at_ ≠ 1) from ⟨c35, a1⟩)] at key
          refine G.region [.loc, .loc, .loc, .loc, .loc, .loc, .gen, .loc, .loc, .loc] (.take 0 (.take 1 (.take 2 (.take 3 (.take 4 (.take 5 (.take 6 (.take 7 (.take 8 (.take 9 .done)))))))))) rfl ?_
          refine GP.take rfl rfl (Does.move rfl ?_)
          refine GP.take rfl rfl (Does.eql rfl rfl (show decide ((c : Int) = 35) = true from decide_eq_true (by omega)) ?_)
          refine GP.take rfl rfl (Does.move rfl ?_)
          refine GP.takeG rfl rfl rfl rfl (Does.move rfl ?_)
          refine GP.takeG rfl rfl rfl rfl (Does.nilCheck rfl ?_)
          refine GP.takeG rfl rfl rfl rfl (Does.fieldAddr rfl fo35_0 ?_)
          refine GP.takeG rfl rfl rfl rfl (Does.load1 rfl ft3 (CellIn.own (.head _) rfl) ?_)
          refine GP.takeG rfl rfl rfl rfl (Does.neq rfl rfl (show (!decide (s.at_ = 1)) = true by simp <;> omega) ?_)
          refine GP.take rfl rfl (Does.pickT rfl rfl ?_)
          refine GP.take rfl rfl (Does.assign rfl ?_)
          refine GP.keep [(0, _), (1, _), (2, _), (40, _)] (.cons rfl (.cons rfl (.cons rfl (.cons rfl .nil)))) ?_
          exact (key () trivial)
      · skip
        rw [decide_eq_false (show ¬ (c = 35 ∧ s.at_ ≠ 1) from (fun h => c35 h.1))] at key
        refine G.region [.loc, .loc, .loc, .loc, .loc, .loc, .gen, .loc, .loc, .loc] (.take 0 (.take 1 (.take 2 (.take 3 (.take 4 (.take 5 (.take 6 (.take 7 (.take 8 (.take 9 .done)))))))))) rfl ?_
        refine GP.take rfl rfl (Does.move rfl ?_)
        refine GP.take rfl rfl (Does.eql rfl rfl (show decide ((c : Int) = 35) = false from decide_eq_false (by omega)) ?_)
        refine GP.take rfl rfl (Does.move rfl ?_)
        refine GP.pass rfl rfl rfl rfl rfl ?_
        refine GP.pass rfl rfl rfl rfl rfl ?_
        refine GP.pass rfl rfl rfl rfl rfl ?_
        refine GP.pass rfl rfl rfl rfl rfl ?_
        refine GP.pass rfl rfl rfl rfl rfl ?_
        refine GP.take rfl rfl (Does.pickF rfl rfl ?_)
        refine GP.take rfl rfl (Does.assign rfl ?_)
        refine GP.keep [(0, _), (1, _), (2, _), (40, _)] (.cons rfl (.cons rfl (.cons rfl (.cons rfl .nil)))) ?_
        exact (key () trivial)
    rintro - -
    refine G.cond rfl ?_ ?_
    · intro hp
      repeat refine G.seq ?_
      refine G.region [.loc, .loc] (.take 0 (.take 1 .done)) rfl ?_
      refine GP.take rfl rfl (Does.assign rfl ?_)
      refine GP.take rfl rfl (Does.assign rfl ?_)
      refine GP.keep [(6, _), (7, _)] (.cons rfl (.cons rfl .nil)) ?_
      exact fin_ret (fn := Tryd.f10) (R := []) Tryd.func10 (res2 rfl rfl rfl) .all ⟨by rw [outF, if_neg hbn, if_pos hp], by rw [outF, if_neg hbn, if_pos hp]; exact hC0⟩
    intro hp7
    repeat refine G.seq ?_
    refine G.join (S := Unit) (fun _ => [(0, .pointer (some ⟨sb, 0, none⟩)), (1, .int .i32 (c : Int)), (2, str b), (50, .bool (decide (s.at_ = 6 ∨ (c = 34 ∧ s.at_ = 1))))]) (fun _ => (sb, cel 35 [.int .i64 s.at_, .int .i64 s.high, wv, wsv]) :: (Cw ++ Cws)) (fun _ => True) ?_ fun key => ?_
    case refine_2 =>
      by_cases a6 : s.at_ = 6
      · skip
        rw [decide_eq_true (show (s.at_ = 6 ∨ (c = 34 ∧ s.at_ = 1)) from .inl a6)] at key
        refine G.region [.loc, .loc, .loc, .gen, .loc, .loc, .loc, .loc, .loc, .loc, .loc, .loc, .gen, .loc, .loc, .loc, .loc] (.take 0 (.take 1 (.take 2 (.take 3 (.take 4 (.take 5 (.take 6 (.take 7 (.take 8 (.take 9 (.take 10 (.take 11 (.take 12 (.take 13 (.take 14 (.take 15 (.take 16 .done))))))))))))))))) rfl ?_
        refine GP.take rfl rfl (Does.move rfl ?_)
        refine GP.take rfl rfl (Does.nilCheck rfl ?_)
        refine GP.take rfl rfl (Does.fieldAddr rfl fo35_0 ?_)
        refine GP.take rfl rfl (Does.load1 rfl ft3 (CellIn.own (.head _) rfl) ?_)
        refine GP.take rfl rfl (Does.eql rfl rfl (show decide (s.at_ = 6) = true from decide_eq_true (by omega)) ?_)
        refine GP.take rfl rfl (Does.move rfl ?_)
        refine GP.pass rfl rfl rfl rfl rfl ?_
        refine GP.pass rfl rfl rfl rfl rfl ?_
        refine GP.pass rfl rfl rfl rfl rfl ?_
        refine GP.pass rfl rfl rfl rfl rfl ?_
        refine GP.pass rfl rfl rfl rfl rfl ?_
        refine GP.pass rfl rfl rfl rfl rfl ?_
        refine GP.pass rfl rfl rfl rfl rfl ?_
        refine GP.pass rfl rfl rfl rfl rfl ?_
        refine GP.pass rfl rfl rfl rfl rfl ?_
        refine GP.take rfl rfl (Does.pickT rfl rfl ?_)
        refine GP.take rfl rfl (Does.assign rfl ?_)
        refine GP.keep [(0, _), (1, _), (2, _), (50, _)] (.cons rfl (.cons rfl (.cons rfl (.cons rfl .nil)))) ?_
        exact (key () trivial)
      by_cases c34 : c = 34
      · by_cases a1 : s.at_ = 1
        · skip
          rw [decide_eq_true (show (s.at_ = 6 ∨ (c = 34 ∧ s.at_ = 1)) from .inr ⟨c34, a1⟩)] at key
          refine G.region [.loc, .loc, .loc, .gen, .loc, .loc, .loc, .loc, .loc, .loc, .loc, .loc, .gen, .loc, .loc, .loc, .loc] (.take 0 (.take 1 (.take 2 (.take 3 (.take 4 (.take 5 (.take 6 (.take 7 (.take 8 (.take 9 (.take 10 (.take 11 (.take 12 (.take 13 (.take 14 (.take 15 (.take 16 .done))))))))))))))))) rfl ?_
          refine GP.take rfl rfl (Does.move rfl ?_)
          refine GP.take rfl rfl (Does.nilCheck rfl ?_)
          refine GP.take rfl rfl (Does.fieldAddr rfl fo35_0 ?_)
          refine GP.take rfl rfl (Does.load1 rfl ft3 (CellIn.own (.head _) rfl) ?_)
          refine GP.take rfl rfl (Does.eql rfl rfl (show decide (s.at_ = 6) = false from decide_eq_false (by omega)) ?_)
          refine GP.take rfl rfl (Does.move rfl ?_)
          refine GP.takeG rfl rfl rfl rfl (Does.move rfl ?_)
          refine GP.takeG rfl rfl rfl rfl (Does.eql rfl rfl (show decide ((c : Int) = 34) = true from decide_eq_true (by omega)) ?_)
          refine GP.takeG rfl rfl rfl rfl (Does.move rfl ?_)
          refine GP.takeG rfl rfl rfl rfl (Does.move rfl ?_)
          refine GP.takeG rfl rfl rfl rfl (Does.nilCheck rfl ?_)
          refine GP.takeG rfl rfl rfl rfl (Does.fieldAddr rfl fo35_0 ?_)
          refine GP.takeG rfl rfl rfl rfl (Does.load1 rfl ft3 (CellIn.own (.head _) rfl) ?_)
          refine GP.takeG rfl rfl rfl rfl (Does.eql rfl rfl (show decide (s.at_ = 1) = true from decide_eq_true (by omega)) ?_)
          refine GP.takeG rfl rfl rfl rfl (Does.pickT rfl rfl ?_)
          refine GP.take rfl rfl (Does.pickF rfl rfl ?_)
          refine GP.take rfl rfl (Does.assign rfl ?_)
          refine GP.keep [(0, _), (1, _), (2, _), (50, _)] (.cons rfl (.cons rfl (.cons rfl (.cons rfl .nil)))) ?_
          exact (key () trivial)
        · skip
          rw [decide_eq_false (show ¬ (s.at_ = 6 ∨ (c = 34 ∧ s.at_ = 1)) from (fun h => h.elim a6 (fun h => a1 h.2)))] at key
          refine G.region [.loc, .loc, .loc, .gen, .loc, .loc, .loc, .loc, .loc, .loc, .loc, .loc, .gen, .loc, .loc, .loc, .loc] (.take 0 (.take 1 (.take 2 (.take 3 (.take 4 (.take 5 (.take 6 (.take 7 (.take 8 (.take 9 (.take 10 (.take 11 (.take 12 (.take 13 (.take 14 (.take 15 (.take 16 .done))))))))))))))))) rfl ?_
          refine GP.take rfl rfl (Does.move rfl ?_)
          refine GP.take rfl rfl (Does.nilCheck rfl ?_)
          refine GP.take rfl rfl (Does.fieldAddr rfl fo35_0 ?_)
          refine GP.take rfl rfl (Does.load1 rfl ft3 (CellIn.own (.head _) rfl) ?_)
          refine GP.take rfl rfl (Does.eql rfl rfl (show decide (s.at_ = 6) = false from decide_eq_false (by omega)) ?_)
          refine GP.take rfl rfl (Does.move rfl ?_)
          refine GP.takeG rfl rfl rfl rfl (Does.move rfl ?_)
          refine GP.takeG rfl rfl rfl rfl (Does.eql rfl rfl (show decide ((c : Int) = 34) = true from decide_eq_true (by omega)) ?_)
          refine GP.takeG rfl rfl rfl rfl (Does.move rfl ?_)
          refine GP.takeG rfl rfl rfl rfl (Does.move rfl ?_)
          refine GP.takeG rfl rfl rfl rfl (Does.nilCheck rfl ?_)
          refine GP.takeG rfl rfl rfl rfl (Does.fieldAddr rfl fo35_0 ?_)
          refine GP.takeG rfl rfl rfl rfl (Does.load1 rfl ft3 (CellIn.own (.head _) rfl) ?_)
          refine GP.takeG rfl rfl rfl rfl (Does.eql rfl rfl (show decide (s.at_ = 1) = false from decide_eq_false (by omega)) ?_)
          refine GP.takeG rfl rfl rfl rfl (Does.pickT rfl rfl ?_)
          refine GP.take rfl rfl (Does.pickF rfl rfl ?_)
          refine GP.take rfl rfl (Does.assign rfl ?_)
          refine GP.keep [(0, _), (1, _), (2, _), (50, _)] (.cons rfl (.cons rfl (.cons rfl (.cons rfl .nil)))) ?_
          exact (key () trivial)
      · skip
        rw [decide_eq_false (show ¬ (s.at_ = 6 ∨ (c = 34 ∧ s.at_ = 1)) from (fun h => h.elim a6 (fun h => c34 h.1)))] at key
        refine G.region [.loc, .loc, .loc, .gen, .loc, .loc, .loc, .loc, .loc, .loc, .loc, .loc, .gen, .loc, .loc, .loc, .loc] (.take 0 (.take 1 (.take 2 (.take 3 (.take 4 (.take 5 (.take 6 (.take 7 (.take 8 (.take 9 (.take 10 (.take 11 (.take 12 (.take 13 (.take 14 (.take 15 (.take 16 .done))))))))))))))))) rfl ?_
        refine GP.take rfl rfl (Does.move rfl ?_)
        refine GP.take rfl rfl (Does.nilCheck rfl ?_)
        refine GP.take rfl rfl (Does.fieldAddr rfl fo35_0 ?_)
        refine GP.take rfl rfl (Does.load1 rfl ft3 (CellIn.own (.head _) rfl) ?_)
        refine GP.take rfl rfl (Does.eql rfl rfl (show decide (s.at_ = 6) = false from decide_eq_false (by omega)) ?_)
        refine GP.take rfl rfl (Does.move rfl ?_)
        refine GP.takeG rfl rfl rfl rfl (Does.move rfl ?_)
        refine GP.takeG rfl rfl rfl rfl (Does.eql rfl rfl (show decide ((c : Int) = 34) = false from decide_eq_false (by omega)) ?_)
        refine GP.takeG rfl rfl rfl rfl (Does.move rfl ?_)
        refine GP.pass rfl rfl rfl rfl rfl ?_
        refine GP.pass rfl rfl rfl rfl rfl ?_
        refine GP.pass rfl rfl rfl rfl rfl ?_
        refine GP.pass rfl rfl rfl rfl rfl ?_
        refine GP.pass rfl rfl rfl rfl rfl ?_
        refine GP.takeG rfl rfl rfl rfl (Does.pickF rfl rfl ?_)
        refine GP.take rfl rfl (Does.pickF rfl rfl ?_)
        refine GP.take rfl rfl (Does.assign rfl ?_)
        refine GP.keep [(0, _), (1, _), (2, _), (50, _)] (.cons rfl (.cons rfl (.cons rfl (.cons rfl .nil)))) ?_
        exact (key () trivial)
    rintro - -
    refine G.cond rfl ?_ ?_
    · intro hp
      repeat refine G.seq ?_
      refine G.region [.loc, .loc] (.take 0 (.take 1 .done)) rfl ?_
      refine GP.take rfl rfl (Does.assign rfl ?_)
      refine GP.take rfl rfl (Does.assign rfl ?_)
      refine GP.keep [(6, _), (7, _)] (.cons rfl (.cons rfl .nil)) ?_
      exact fin_ret (fn := Tryd.f10) (R := []) Tryd.func10 (res2 rfl rfl rfl) .all ⟨by rw [outF, if_neg hbn, if_neg hp7, if_pos hp], by rw [outF, if_neg hbn, if_neg hp7, if_pos hp]; exact hC0⟩
    intro hp9
    repeat refine G.seq ?_
    refine G.region [.loc, .loc, .loc] (.take 0 (.take 1 (.take 2 .done))) rfl ?_
    refine GP.take rfl rfl (Does.move rfl ?_)
    refine GP.take rfl rfl (Does.eql rfl rfl (show decide ((c : Int) = 34) = decide (c = 34) from decide_eq_decide.2 (by omega)) ?_)
    refine GP.take rfl rfl (Does.assign rfl ?_)
    refine GP.keep [(0, _), (1, _), (2, _), (67, _)] (.cons rfl (.cons rfl (.cons rfl (.cons rfl .nil)))) ?_
    refine G.cond rfl ?_ ?_
    · intro hc
      repeat refine G.seq ?_
      refine G.region [.loc, .loc, .loc, .gen] (.take 0 (.take 1 (.take 2 (.take 3 .done)))) rfl ?_
      refine GP.take rfl rfl (Does.move rfl ?_)
      refine GP.take rfl rfl (Does.nilCheck rfl ?_)
      refine GP.take rfl rfl (Does.fieldAddr rfl fo35_0 ?_)
      refine GP.take0 rfl (Does.store1 rfl rfl sz3 rfl .head .head ?_)
      refine GP.keep [(0, _), (1, _), (2, _)] (.cons rfl (.cons rfl (.cons rfl .nil))) ?_
      refine G.inBlock ?_
      repeat refine G.seq ?_
      refine G.region [.loc, .loc] (.take 0 (.take 1 .done)) rfl ?_
      refine GP.take rfl rfl (Does.assign rfl ?_)
      refine GP.take rfl rfl (Does.assign rfl ?_)
      refine GP.keep [(6, _), (7, _)] (.cons rfl (.cons rfl .nil)) ?_
      exact fin_ret (fn := Tryd.f10) (R := []) Tryd.func10 (res2 rfl rfl rfl) .all ⟨by rw [outF, if_neg hbn, if_neg hp7, if_neg hp9, if_pos hc], by rw [outF, if_neg hbn, if_neg hp7, if_neg hp9, if_pos hc]; exact ⟨wv, wsv, Cw, Cws, rfl, h1, h2⟩⟩
    intro hc
    repeat refine G.seq ?_
    refine G.region [.loc, .loc, .loc, .gen] (.take 0 (.take 1 (.take 2 (.take 3 .done)))) rfl ?_
    refine GP.take rfl rfl (Does.move rfl ?_)
    refine GP.take rfl rfl (Does.nilCheck rfl ?_)
    refine GP.take rfl rfl (Does.fieldAddr rfl fo35_0 ?_)
    refine GP.take0 rfl (Does.store1 rfl rfl sz3 rfl .head .head ?_)
    refine GP.keep [(0, _), (1, _), (2, _)] (.cons rfl (.cons rfl (.cons rfl .nil))) ?_
    repeat refine G.seq ?_
    refine G.region [.loc, .loc, .loc, .loc, .gen, .loc, .gen, .loc, .loc, .gen] (.take 0 (.take 1 (.take 2 (.take 3 (.take 4 (.take 5 (.take 6 (.take 7 (.take 8 (.take 9 .done)))))))))) rfl ?_
    refine GP.take rfl rfl (Does.move rfl ?_)
    refine GP.take rfl rfl (Does.move rfl ?_)
    refine GP.take rfl rfl (Does.nilCheck rfl ?_)
    refine GP.take rfl rfl (Does.fieldAddr rfl fo35_2 ?_)
    refine GP.take rfl rfl (Does.load1 rfl ft30 (CellIn.own (.head _) rfl) ?_)
    refine GP.take rfl rfl (Does.move rfl ?_)
    refine GP.take rfl rfl (Does.appendRS (l := s.word) (s := b) [(sb, cel 35 [.int .i64 1, .int .i64 s.high, wv, wsv])] Cw Cws rfl rfl Tryd.underlying9 si30 zl5 rfl h1 hb (by decide) (by omega) ?_)
    intro wn Cn g1
    refine GP.take rfl rfl (Does.nilCheck rfl ?_)
    refine GP.take rfl rfl (Does.fieldAddr rfl fo35_2 ?_)
    refine GP.take0 rfl (Does.store1 rfl rfl sz30 g1.one .head (.tail (.tail .head)) ?_)
    refine GP.keep [(0, _), (1, _), (2, _)] (.cons rfl (.cons rfl (.cons rfl .nil))) ?_
    refine G.inBlock ?_
    repeat refine G.seq ?_
    refine G.region [.loc, .loc] (.take 0 (.take 1 .done)) rfl ?_
    refine GP.take rfl rfl (Does.assign rfl ?_)
    refine GP.take rfl rfl (Does.assign rfl ?_)
    refine GP.keep [(6, _), (7, _)] (.cons rfl (.cons rfl .nil)) ?_
    exact fin_ret (fn := Tryd.f10) (R := []) Tryd.func10 (res2 rfl rfl rfl) .all ⟨by rw [outF, if_neg hbn, if_neg hp7, if_neg hp9, if_neg hc], by rw [outF, if_neg hbn, if_neg hp7, if_neg hp9, if_neg hc]; exact ⟨wn, wsv, Cn, Cws, rfl, g1, h2⟩⟩
end Go.Proofs.YtcgenmfnlocbbaaDoor.T
