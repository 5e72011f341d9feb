/- 'AuditCleans': audit.Clean and the document's own Clean answer alike of any report, and the report's findings stay as many as they were: for every report. No condition. -/
import Derived.Test.YtcgenmfnlocbbaaRows
import Derived.Test.YtcgenmfnlocbbaaL6
namespace Go.Proofs.Ytcgenmfnlocbbaa
open Go.Lg
theorem ag25 : aggT Try.prog 25 = some 7 := by kernel_rfl
theorem cb11 : callable Try.prog 11 = true := by kernel_rfl
theorem cb12 : callable Try.prog 12 = true := by kernel_rfl
theorem co25 : Try.prog.cellsOf 25 = 7 := by kernel_rfl
theorem fo25_0 : fieldOff Try.prog 25 0 = some 0 := by kernel_rfl
theorem fo25_6 : fieldOff Try.prog 25 6 = some 6 := by kernel_rfl
theorem ft23 : flatT Try.prog 23 = true := by kernel_rfl
theorem ft3 : flatT Try.prog 3 = true := by kernel_rfl
theorem is23 : isSlice Try.prog 23 = true := by kernel_rfl
theorem mixed : Try.prog.follows .mixedOrders = true := by kernel_rfl
theorem own : ownKnob Try.prog.godebug = none := by kernel_rfl
theorem laid : laidOutB Try.prog = true := by kernel_rfl
theorem maps : mapsRowed Try.prog = true := by kernel_rfl
theorem full : ∀ t e, t < Try.prog.types.size → Try.prog.underlying t = some (.slice e) → 0 < Try.prog.cellsOf e := slices_full_of Try.prog (by kernel_rfl)

/-- has a report nothing to say? -/
def cleanB (s : Int) (len : Nat) : Bool := decide (len = 0) && (decide (s = 1) || decide (s = 2))
theorem clean11 (s : Int) (len cap : Nat) (x1 x2 x3 x4 x5 : Value) (ad : Option Addr) :
    Ct Try.prog 11 [.agg [.int .i64 s, x1, x2, x3, x4, x5, .slice ad len cap].toArray].toArray (fun _ => True) [] (fun v C' => v = .bool (cleanB s len) ∧ C' = []) := by
  refine ct_of_walk (fn := Try.f11) Try.func11 rfl rfl fun w0 _ hst => ?_
  clear hst
  repeat refine G.seq ?_
  refine G.region [.alloc, .loc] (.take 0 (.take 1 .done)) rfl ?_
  refine GP.take rfl rfl (Does.box (T := 25) rfl rfl fun b1 Nb1 hb1 nb1 => ?_)
  refine GP.take rfl rfl (Does.assign rfl ?_)
  refine GP.keep [(0, _), (1, _), (2, _)] (.cons rfl (.cons rfl (.cons rfl .nil))) ?_
  repeat refine G.seq ?_
  by_cases h1 : len = 0
  · have t1 : decide ((len : Int) = 0) = true := decide_eq_true (by omega)
    by_cases h2 : s = 1
    · have t2 : decide (s = 1) = true := decide_eq_true h2
      refine G.region [.loc, .gen, .loc, .loc, .loc, .loc, .gen, .loc, .loc, .loc, .gen, .loc, .loc, .loc, .loc] (.take 0 (.take 1 (.take 2 (.take 3 (.take 4 (.take 5 (.take 6 (.take 7 (.take 8 (.take 9 (.take 10 (.take 11 (.take 12 (.take 13 (.take 14 .done))))))))))))))) rfl ?_
      refine GP.take rfl rfl (Does.fieldAddr rfl fo25_6 ?_)
      refine GP.take rfl rfl (Does.load1 rfl ft23 (CellIn.own (by first | exact .head _ | exact .tail _ (.head _) | exact .tail _ (.tail _ (.head _)) | exact .tail _ (.tail _ (.tail _ (.head _))) | exact .tail _ (.tail _ (.tail _ (.tail _ (.head _)))) | exact .tail _ (.tail _ (.tail _ (.tail _ (.tail _ (.head _)))))) rfl) ?_)
      refine GP.take rfl rfl (Does.len rfl is23 ?_)
      refine GP.take rfl rfl (Does.eql rfl rfl t1 ?_)
      refine GP.take rfl rfl (Does.move rfl ?_)
      refine GP.takeG rfl rfl rfl rfl (Does.fieldAddr rfl fo25_0 ?_)
      refine GP.takeG rfl rfl rfl rfl (Does.load1 rfl ft3 (CellIn.own (by first | exact .head _ | exact .tail _ (.head _) | exact .tail _ (.tail _ (.head _)) | exact .tail _ (.tail _ (.tail _ (.head _))) | exact .tail _ (.tail _ (.tail _ (.tail _ (.head _)))) | exact .tail _ (.tail _ (.tail _ (.tail _ (.tail _ (.head _)))))) rfl) ?_)
      refine GP.takeG rfl rfl rfl rfl (Does.eql rfl rfl t2 ?_)
      refine GP.takeG rfl rfl rfl rfl (Does.move rfl ?_)
      refine GP.pass rfl rfl rfl rfl rfl ?_
      refine GP.pass rfl rfl rfl rfl rfl ?_
      refine GP.pass rfl rfl rfl rfl rfl ?_
      refine GP.takeG rfl rfl rfl rfl (Does.pickT rfl rfl ?_)
      refine GP.take rfl rfl (Does.pickT rfl rfl ?_)
      refine GP.take rfl rfl (Does.assign rfl ?_)
      refine GP.keep [(0, _), (1, _), (2, _)] (.cons rfl (.cons rfl (.cons rfl .nil))) ?_
      exact fin_ret (fn := Try.f11) Try.func11 (res1 rfl rfl) .split1 ⟨by simp [cleanB, h1, h2], rfl⟩
    · have t2 : decide (s = 1) = false := decide_eq_false h2
      refine G.region [.loc, .gen, .loc, .loc, .loc, .loc, .gen, .loc, .loc, .loc, .gen, .loc, .loc, .loc, .loc] (.take 0 (.take 1 (.take 2 (.take 3 (.take 4 (.take 5 (.take 6 (.take 7 (.take 8 (.take 9 (.take 10 (.take 11 (.take 12 (.take 13 (.take 14 .done))))))))))))))) rfl ?_
      refine GP.take rfl rfl (Does.fieldAddr rfl fo25_6 ?_)
      refine GP.take rfl rfl (Does.load1 rfl ft23 (CellIn.own (by first | exact .head _ | exact .tail _ (.head _) | exact .tail _ (.tail _ (.head _)) | exact .tail _ (.tail _ (.tail _ (.head _))) | exact .tail _ (.tail _ (.tail _ (.tail _ (.head _)))) | exact .tail _ (.tail _ (.tail _ (.tail _ (.tail _ (.head _)))))) rfl) ?_)
      refine GP.take rfl rfl (Does.len rfl is23 ?_)
      refine GP.take rfl rfl (Does.eql rfl rfl t1 ?_)
      refine GP.take rfl rfl (Does.move rfl ?_)
      refine GP.takeG rfl rfl rfl rfl (Does.fieldAddr rfl fo25_0 ?_)
      refine GP.takeG rfl rfl rfl rfl (Does.load1 rfl ft3 (CellIn.own (by first | exact .head _ | exact .tail _ (.head _) | exact .tail _ (.tail _ (.head _)) | exact .tail _ (.tail _ (.tail _ (.head _))) | exact .tail _ (.tail _ (.tail _ (.tail _ (.head _)))) | exact .tail _ (.tail _ (.tail _ (.tail _ (.tail _ (.head _)))))) rfl) ?_)
      refine GP.takeG rfl rfl rfl rfl (Does.eql rfl rfl t2 ?_)
      refine GP.takeG rfl rfl rfl rfl (Does.move rfl ?_)
      refine GP.takeG rfl rfl rfl rfl (Does.fieldAddr rfl fo25_0 ?_)
      refine GP.takeG rfl rfl rfl rfl (Does.load1 rfl ft3 (CellIn.own (by first | exact .head _ | exact .tail _ (.head _) | exact .tail _ (.tail _ (.head _)) | exact .tail _ (.tail _ (.tail _ (.head _))) | exact .tail _ (.tail _ (.tail _ (.tail _ (.head _)))) | exact .tail _ (.tail _ (.tail _ (.tail _ (.tail _ (.head _)))))) rfl) ?_)
      refine GP.takeG rfl rfl rfl rfl (Does.eql rfl rfl rfl ?_)
      refine GP.takeG rfl rfl rfl rfl (Does.pickF rfl rfl ?_)
      refine GP.take rfl rfl (Does.pickT rfl rfl ?_)
      refine GP.take rfl rfl (Does.assign rfl ?_)
      refine GP.keep [(0, _), (1, _), (2, _)] (.cons rfl (.cons rfl (.cons rfl .nil))) ?_
      exact fin_ret (fn := Try.f11) Try.func11 (res1 rfl rfl) .split1 ⟨by simp [cleanB, h1, h2], rfl⟩
  · have t1 : decide ((len : Int) = 0) = false := decide_eq_false (by omega)
    refine G.region [.loc, .gen, .loc, .loc, .loc, .loc, .gen, .loc, .loc, .loc, .gen, .loc, .loc, .loc, .loc] (.take 0 (.take 1 (.take 2 (.take 3 (.take 4 (.take 5 (.take 6 (.take 7 (.take 8 (.take 9 (.take 10 (.take 11 (.take 12 (.take 13 (.take 14 .done))))))))))))))) rfl ?_
    refine GP.take rfl rfl (Does.fieldAddr rfl fo25_6 ?_)
    refine GP.take rfl rfl (Does.load1 rfl ft23 (CellIn.own (by first | exact .head _ | exact .tail _ (.head _) | exact .tail _ (.tail _ (.head _)) | exact .tail _ (.tail _ (.tail _ (.head _))) | exact .tail _ (.tail _ (.tail _ (.tail _ (.head _)))) | exact .tail _ (.tail _ (.tail _ (.tail _ (.tail _ (.head _)))))) rfl) ?_)
    refine GP.take rfl rfl (Does.len rfl is23 ?_)
    refine GP.take rfl rfl (Does.eql rfl rfl t1 ?_)
    refine GP.take rfl rfl (Does.move rfl ?_)
    refine GP.pass rfl rfl rfl rfl rfl ?_
    refine GP.pass rfl rfl rfl rfl rfl ?_
    refine GP.pass rfl rfl rfl rfl rfl ?_
    refine GP.pass rfl rfl rfl rfl rfl ?_
    refine GP.pass rfl rfl rfl rfl rfl ?_
    refine GP.pass rfl rfl rfl rfl rfl ?_
    refine GP.pass rfl rfl rfl rfl rfl ?_
    refine GP.pass rfl rfl rfl rfl rfl ?_
    refine GP.take rfl rfl (Does.pickF rfl rfl ?_)
    refine GP.take rfl rfl (Does.assign rfl ?_)
    refine GP.keep [(0, _), (1, _), (2, _)] (.cons rfl (.cons rfl (.cons rfl .nil))) ?_
    exact fin_ret (fn := Try.f11) Try.func11 (res1 rfl rfl) .split1 ⟨by simp [cleanB, h1], rfl⟩
theorem clean12 (s : Int) (len cap : Nat) (x1 x2 x3 x4 x5 : Value) (ad : Option Addr) :
    Ct Try.prog 12 [.agg [.int .i64 s, x1, x2, x3, x4, x5, .slice ad len cap].toArray].toArray (fun _ => True) [] (fun v C' => v = .bool (cleanB s len) ∧ C' = []) := by
  refine ct_of_walk (fn := Try.f12) Try.func12 rfl rfl fun w0 _ hst => ?_
  clear hst
  repeat refine G.seq ?_
  refine G.region [.alloc, .loc] (.take 0 (.take 1 .done)) rfl ?_
  refine GP.take rfl rfl (Does.box (T := 25) rfl rfl fun b1 Nb1 hb1 nb1 => ?_)
  refine GP.take rfl rfl (Does.assign rfl ?_)
  refine GP.keep [(0, _), (1, _), (2, _)] (.cons rfl (.cons rfl (.cons rfl .nil))) ?_
  repeat refine G.seq ?_
  by_cases h1 : len = 0
  · have t1 : decide ((len : Int) = 0) = true := decide_eq_true (by omega)
    by_cases h2 : s = 1
    · have t2 : decide (s = 1) = true := decide_eq_true h2
      refine G.region [.loc, .gen, .loc, .loc, .loc, .loc, .gen, .loc, .loc, .loc, .gen, .loc, .loc, .loc, .loc] (.take 0 (.take 1 (.take 2 (.take 3 (.take 4 (.take 5 (.take 6 (.take 7 (.take 8 (.take 9 (.take 10 (.take 11 (.take 12 (.take 13 (.take 14 .done))))))))))))))) rfl ?_
      refine GP.take rfl rfl (Does.fieldAddr rfl fo25_6 ?_)
      refine GP.take rfl rfl (Does.load1 rfl ft23 (CellIn.own (by first | exact .head _ | exact .tail _ (.head _) | exact .tail _ (.tail _ (.head _)) | exact .tail _ (.tail _ (.tail _ (.head _))) | exact .tail _ (.tail _ (.tail _ (.tail _ (.head _)))) | exact .tail _ (.tail _ (.tail _ (.tail _ (.tail _ (.head _)))))) rfl) ?_)
      refine GP.take rfl rfl (Does.len rfl is23 ?_)
      refine GP.take rfl rfl (Does.eql rfl rfl t1 ?_)
      refine GP.take rfl rfl (Does.move rfl ?_)
      refine GP.takeG rfl rfl rfl rfl (Does.fieldAddr rfl fo25_0 ?_)
      refine GP.takeG rfl rfl rfl rfl (Does.load1 rfl ft3 (CellIn.own (by first | exact .head _ | exact .tail _ (.head _) | exact .tail _ (.tail _ (.head _)) | exact .tail _ (.tail _ (.tail _ (.head _))) | exact .tail _ (.tail _ (.tail _ (.tail _ (.head _)))) | exact .tail _ (.tail _ (.tail _ (.tail _ (.tail _ (.head _)))))) rfl) ?_)
      refine GP.takeG rfl rfl rfl rfl (Does.eql rfl rfl t2 ?_)
      refine GP.takeG rfl rfl rfl rfl (Does.move rfl ?_)
      refine GP.pass rfl rfl rfl rfl rfl ?_
      refine GP.pass rfl rfl rfl rfl rfl ?_
      refine GP.pass rfl rfl rfl rfl rfl ?_
      refine GP.takeG rfl rfl rfl rfl (Does.pickT rfl rfl ?_)
      refine GP.take rfl rfl (Does.pickT rfl rfl ?_)
      refine GP.take rfl rfl (Does.assign rfl ?_)
      refine GP.keep [(0, _), (1, _), (2, _)] (.cons rfl (.cons rfl (.cons rfl .nil))) ?_
      exact fin_ret (fn := Try.f12) Try.func12 (res1 rfl rfl) .split1 ⟨by simp [cleanB, h1, h2], rfl⟩
    · have t2 : decide (s = 1) = false := decide_eq_false h2
      refine G.region [.loc, .gen, .loc, .loc, .loc, .loc, .gen, .loc, .loc, .loc, .gen, .loc, .loc, .loc, .loc] (.take 0 (.take 1 (.take 2 (.take 3 (.take 4 (.take 5 (.take 6 (.take 7 (.take 8 (.take 9 (.take 10 (.take 11 (.take 12 (.take 13 (.take 14 .done))))))))))))))) rfl ?_
      refine GP.take rfl rfl (Does.fieldAddr rfl fo25_6 ?_)
      refine GP.take rfl rfl (Does.load1 rfl ft23 (CellIn.own (by first | exact .head _ | exact .tail _ (.head _) | exact .tail _ (.tail _ (.head _)) | exact .tail _ (.tail _ (.tail _ (.head _))) | exact .tail _ (.tail _ (.tail _ (.tail _ (.head _)))) | exact .tail _ (.tail _ (.tail _ (.tail _ (.tail _ (.head _)))))) rfl) ?_)
      refine GP.take rfl rfl (Does.len rfl is23 ?_)
      refine GP.take rfl rfl (Does.eql rfl rfl t1 ?_)
      refine GP.take rfl rfl (Does.move rfl ?_)
      refine GP.takeG rfl rfl rfl rfl (Does.fieldAddr rfl fo25_0 ?_)
      refine GP.takeG rfl rfl rfl rfl (Does.load1 rfl ft3 (CellIn.own (by first | exact .head _ | exact .tail _ (.head _) | exact .tail _ (.tail _ (.head _)) | exact .tail _ (.tail _ (.tail _ (.head _))) | exact .tail _ (.tail _ (.tail _ (.tail _ (.head _)))) | exact .tail _ (.tail _ (.tail _ (.tail _ (.tail _ (.head _)))))) rfl) ?_)
      refine GP.takeG rfl rfl rfl rfl (Does.eql rfl rfl t2 ?_)
      refine GP.takeG rfl rfl rfl rfl (Does.move rfl ?_)
      refine GP.takeG rfl rfl rfl rfl (Does.fieldAddr rfl fo25_0 ?_)
      refine GP.takeG rfl rfl rfl rfl (Does.load1 rfl ft3 (CellIn.own (by first | exact .head _ | exact .tail _ (.head _) | exact .tail _ (.tail _ (.head _)) | exact .tail _ (.tail _ (.tail _ (.head _))) | exact .tail _ (.tail _ (.tail _ (.tail _ (.head _)))) | exact .tail _ (.tail _ (.tail _ (.tail _ (.tail _ (.head _)))))) rfl) ?_)
      refine GP.takeG rfl rfl rfl rfl (Does.eql rfl rfl rfl ?_)
      refine GP.takeG rfl rfl rfl rfl (Does.pickF rfl rfl ?_)
      refine GP.take rfl rfl (Does.pickT rfl rfl ?_)
      refine GP.take rfl rfl (Does.assign rfl ?_)
      refine GP.keep [(0, _), (1, _), (2, _)] (.cons rfl (.cons rfl (.cons rfl .nil))) ?_
      exact fin_ret (fn := Try.f12) Try.func12 (res1 rfl rfl) .split1 ⟨by simp [cleanB, h1, h2], rfl⟩
  · have t1 : decide ((len : Int) = 0) = false := decide_eq_false (by omega)
    refine G.region [.loc, .gen, .loc, .loc, .loc, .loc, .gen, .loc, .loc, .loc, .gen, .loc, .loc, .loc, .loc] (.take 0 (.take 1 (.take 2 (.take 3 (.take 4 (.take 5 (.take 6 (.take 7 (.take 8 (.take 9 (.take 10 (.take 11 (.take 12 (.take 13 (.take 14 .done))))))))))))))) rfl ?_
    refine GP.take rfl rfl (Does.fieldAddr rfl fo25_6 ?_)
    refine GP.take rfl rfl (Does.load1 rfl ft23 (CellIn.own (by first | exact .head _ | exact .tail _ (.head _) | exact .tail _ (.tail _ (.head _)) | exact .tail _ (.tail _ (.tail _ (.head _))) | exact .tail _ (.tail _ (.tail _ (.tail _ (.head _)))) | exact .tail _ (.tail _ (.tail _ (.tail _ (.tail _ (.head _)))))) rfl) ?_)
    refine GP.take rfl rfl (Does.len rfl is23 ?_)
    refine GP.take rfl rfl (Does.eql rfl rfl t1 ?_)
    refine GP.take rfl rfl (Does.move rfl ?_)
    refine GP.pass rfl rfl rfl rfl rfl ?_
    refine GP.pass rfl rfl rfl rfl rfl ?_
    refine GP.pass rfl rfl rfl rfl rfl ?_
    refine GP.pass rfl rfl rfl rfl rfl ?_
    refine GP.pass rfl rfl rfl rfl rfl ?_
    refine GP.pass rfl rfl rfl rfl rfl ?_
    refine GP.pass rfl rfl rfl rfl rfl ?_
    refine GP.pass rfl rfl rfl rfl rfl ?_
    refine GP.take rfl rfl (Does.pickF rfl rfl ?_)
    refine GP.take rfl rfl (Does.assign rfl ?_)
    refine GP.keep [(0, _), (1, _), (2, _)] (.cons rfl (.cons rfl (.cons rfl .nil))) ?_
    exact fin_ret (fn := Try.f12) Try.func12 (res1 rfl rfl) .split1 ⟨by simp [cleanB, h1], rfl⟩
theorem auditCleans_walk (s : Int) (len cap : Nat) (x1 x2 x3 x4 x5 : Value) (ad : Option Addr) :
    Ct Try.prog 3 [.agg [.int .i64 s, x1, x2, x3, x4, x5, .slice ad len cap].toArray].toArray (fun _ => True) [] (fun v C' => v = .bool true ∧ C' = []) := by
  refine ct_of_walk (fn := Try.f3) Try.func3 rfl rfl fun w0 _ hst => ?_
  clear hst
  repeat refine G.seq ?_
  refine G.region [.alloc, .loc] (.take 0 (.take 1 .done)) rfl ?_
  refine GP.take rfl rfl (Does.box (T := 25) rfl rfl fun b1 Nb1 hb1 nb1 => ?_)
  refine GP.take rfl rfl (Does.assign rfl ?_)
  refine GP.keep [(0, _), (1, _), (2, _)] (.cons rfl (.cons rfl (.cons rfl .nil))) ?_
  repeat refine G.seq ?_
  refine G.region [.loc, .gen, .loc, .loc] (.take 0 (.take 1 (.take 2 (.take 3 .done)))) rfl ?_
  refine GP.take rfl rfl (Does.fieldAddr rfl fo25_6 ?_)
  refine GP.take rfl rfl (Does.load1 rfl ft23 (CellIn.own (by first | exact .head _ | exact .tail _ (.head _) | exact .tail _ (.tail _ (.head _)) | exact .tail _ (.tail _ (.tail _ (.head _))) | exact .tail _ (.tail _ (.tail _ (.tail _ (.head _)))) | exact .tail _ (.tail _ (.tail _ (.tail _ (.tail _ (.head _)))))) rfl) ?_)
  refine GP.take rfl rfl (Does.len rfl is23 ?_)
  refine GP.take rfl rfl (Does.assign rfl ?_)
  refine GP.keep [(0, _), (1, _), (2, _), (3, _)] (.cons rfl (.cons rfl (.cons rfl (.cons rfl .nil)))) ?_
  repeat refine G.seq ?_
  refine G.draw [.load, .gen, .load, .gen, .loc, .loc, .loc, .load, .loc, .loc, .loc, .loc, .loc] (.take 0 (.alt 1 (.take 2 (.alt 3 (.take 4 (.take 5 (.take 6 (.take 9 (.take 7 (.take 8 (.take 10 (.take 11 (.take 12 .done))))))))) .stop)) (.alt 2 (.alt 1 (.alt 3 (.take 4 (.take 5 (.take 6 (.take 9 (.take 7 (.take 8 (.take 10 (.take 11 (.take 12 .done))))))))) .stop) .stop) .stop))) (by exact mixed) (by kernel_rfl) ?_
  intro N hN0 hN
  refine GP.take rfl rfl (Does.loadAN (vs := [_, _, _, _, _, _, _]) rfl ag25 (by first | exact hN _ (.head _) | exact hN _ (.tail _ (.head _)) | exact hN _ (.tail _ (.tail _ (.head _))) | exact hN _ (.tail _ (.tail _ (.tail _ (.head _)))) | exact hN _ (.tail _ (.tail _ (.tail _ (.tail _ (.head _))))) | exact hN _ (.tail _ (.tail _ (.tail _ (.tail _ (.tail _ (.head _)))))) | exact hN _ (.tail _ (.tail _ (.tail _ (.tail _ (.tail _ (.tail _ (.head _)))))))) (RowIn.own (by first | exact .head _ | exact .tail _ (.head _) | exact .tail _ (.tail _ (.head _)) | exact .tail _ (.tail _ (.tail _ (.head _))) | exact .tail _ (.tail _ (.tail _ (.tail _ (.head _)))) | exact .tail _ (.tail _ (.tail _ (.tail _ (.tail _ (.head _)))))) rfl) ?_)
  refine GP.alt ?_ ?_
  · skip
    refine GP.take rfl rfl (Does.callF [(b1, _)] [] (.cons rfl .nil) cb11 rfl (clean11 s len cap x1 x2 x3 x4 x5 ad) (fun _ _ => trivial) ?_)
    rintro _ _ ⟨rfl, rfl⟩
    simp only [List.append_nil]
    refine GP.take rfl rfl (Does.loadAN (vs := [_, _, _, _, _, _, _]) rfl ag25 (by first | exact hN _ (.head _) | exact hN _ (.tail _ (.head _)) | exact hN _ (.tail _ (.tail _ (.head _))) | exact hN _ (.tail _ (.tail _ (.tail _ (.head _)))) | exact hN _ (.tail _ (.tail _ (.tail _ (.tail _ (.head _))))) | exact hN _ (.tail _ (.tail _ (.tail _ (.tail _ (.tail _ (.head _)))))) | exact hN _ (.tail _ (.tail _ (.tail _ (.tail _ (.tail _ (.tail _ (.head _)))))))) (RowIn.own (by first | exact .head _ | exact .tail _ (.head _) | exact .tail _ (.tail _ (.head _)) | exact .tail _ (.tail _ (.tail _ (.head _))) | exact .tail _ (.tail _ (.tail _ (.tail _ (.head _)))) | exact .tail _ (.tail _ (.tail _ (.tail _ (.tail _ (.head _)))))) rfl) ?_)
    refine GP.one ?_
    refine GP.take rfl rfl (Does.callF [(b1, _)] [] (.cons rfl .nil) cb12 rfl (clean12 s len cap x1 x2 x3 x4 x5 ad) (fun _ _ => trivial) ?_)
    rintro _ _ ⟨rfl, rfl⟩
    simp only [List.append_nil]
    refine GP.take rfl rfl (Does.eqlB rfl rfl Try.underlying4 (beq_self_eq_true _) ?_)
    refine GP.take rfl rfl (Does.move rfl ?_)
    refine GP.takeG rfl rfl rfl rfl (Does.fieldAddr rfl fo25_6 ?_)
    refine GP.takeG rfl rfl rfl rfl (Does.move rfl ?_)
    refine GP.takeG rfl rfl rfl rfl (Does.load1N rfl ft23 (by first | exact hN _ (.head _) | exact hN _ (.tail _ (.head _)) | exact hN _ (.tail _ (.tail _ (.head _))) | exact hN _ (.tail _ (.tail _ (.tail _ (.head _)))) | exact hN _ (.tail _ (.tail _ (.tail _ (.tail _ (.head _))))) | exact hN _ (.tail _ (.tail _ (.tail _ (.tail _ (.tail _ (.head _)))))) | exact hN _ (.tail _ (.tail _ (.tail _ (.tail _ (.tail _ (.tail _ (.head _)))))))) (CellIn.own (by first | exact .head _ | exact .tail _ (.head _) | exact .tail _ (.tail _ (.head _)) | exact .tail _ (.tail _ (.tail _ (.head _))) | exact .tail _ (.tail _ (.tail _ (.tail _ (.head _)))) | exact .tail _ (.tail _ (.tail _ (.tail _ (.tail _ (.head _)))))) rfl) ?_)
    refine GP.takeG rfl rfl rfl rfl (Does.len rfl is23 ?_)
    refine GP.takeG rfl rfl rfl rfl (Does.eql rfl rfl (decide_eq_true rfl) ?_)
    refine GP.take rfl rfl (Does.pickT rfl rfl ?_)
    refine GP.take rfl rfl (Does.assign rfl ?_)
    refine GP.keep [(0, _), (1, _), (2, _), (3, _)] (.cons rfl (.cons rfl (.cons rfl (.cons rfl .nil)))) ?_
    exact fin_ret (fn := Try.f3) Try.func3 (res1 rfl rfl) .split1 ⟨rfl, rfl⟩
  refine GP.alt ?_ ?_
  · skip
    refine GP.take rfl rfl (Does.loadAN (vs := [_, _, _, _, _, _, _]) rfl ag25 (by first | exact hN _ (.head _) | exact hN _ (.tail _ (.head _)) | exact hN _ (.tail _ (.tail _ (.head _))) | exact hN _ (.tail _ (.tail _ (.tail _ (.head _)))) | exact hN _ (.tail _ (.tail _ (.tail _ (.tail _ (.head _))))) | exact hN _ (.tail _ (.tail _ (.tail _ (.tail _ (.tail _ (.head _)))))) | exact hN _ (.tail _ (.tail _ (.tail _ (.tail _ (.tail _ (.tail _ (.head _)))))))) (RowIn.own (by first | exact .head _ | exact .tail _ (.head _) | exact .tail _ (.tail _ (.head _)) | exact .tail _ (.tail _ (.tail _ (.head _))) | exact .tail _ (.tail _ (.tail _ (.tail _ (.head _)))) | exact .tail _ (.tail _ (.tail _ (.tail _ (.tail _ (.head _)))))) rfl) ?_)
    refine GP.one ?_
    refine GP.take rfl rfl (Does.callF [(b1, _)] [] (.cons rfl .nil) cb11 rfl (clean11 s len cap x1 x2 x3 x4 x5 ad) (fun _ _ => trivial) ?_)
    rintro _ _ ⟨rfl, rfl⟩
    simp only [List.append_nil]
    refine GP.one ?_
    refine GP.take rfl rfl (Does.callF [(b1, _)] [] (.cons rfl .nil) cb12 rfl (clean12 s len cap x1 x2 x3 x4 x5 ad) (fun _ _ => trivial) ?_)
    rintro _ _ ⟨rfl, rfl⟩
    simp only [List.append_nil]
    refine GP.take rfl rfl (Does.eqlB rfl rfl Try.underlying4 (beq_self_eq_true _) ?_)
    refine GP.take rfl rfl (Does.move rfl ?_)
    refine GP.takeG rfl rfl rfl rfl (Does.fieldAddr rfl fo25_6 ?_)
    refine GP.takeG rfl rfl rfl rfl (Does.move rfl ?_)
    refine GP.takeG rfl rfl rfl rfl (Does.load1N rfl ft23 (by first | exact hN _ (.head _) | exact hN _ (.tail _ (.head _)) | exact hN _ (.tail _ (.tail _ (.head _))) | exact hN _ (.tail _ (.tail _ (.tail _ (.head _)))) | exact hN _ (.tail _ (.tail _ (.tail _ (.tail _ (.head _))))) | exact hN _ (.tail _ (.tail _ (.tail _ (.tail _ (.tail _ (.head _)))))) | exact hN _ (.tail _ (.tail _ (.tail _ (.tail _ (.tail _ (.tail _ (.head _)))))))) (CellIn.own (by first | exact .head _ | exact .tail _ (.head _) | exact .tail _ (.tail _ (.head _)) | exact .tail _ (.tail _ (.tail _ (.head _))) | exact .tail _ (.tail _ (.tail _ (.tail _ (.head _)))) | exact .tail _ (.tail _ (.tail _ (.tail _ (.tail _ (.head _)))))) rfl) ?_)
    refine GP.takeG rfl rfl rfl rfl (Does.len rfl is23 ?_)
    refine GP.takeG rfl rfl rfl rfl (Does.eql rfl rfl (decide_eq_true rfl) ?_)
    refine GP.take rfl rfl (Does.pickT rfl rfl ?_)
    refine GP.take rfl rfl (Does.assign rfl ?_)
    refine GP.keep [(0, _), (1, _), (2, _), (3, _)] (.cons rfl (.cons rfl (.cons rfl (.cons rfl .nil)))) ?_
    exact fin_ret (fn := Try.f3) Try.func3 (res1 rfl rfl) .split1 ⟨rfl, rfl⟩
  exact GP.stop
set_option maxRecDepth 100000 in
theorem auditCleans_contract (H : Type) (enc : TypeId × Value → H) (W : World) (args : Array Value) (ds gs : List (DataW H)) (before : List MemPlace)
    (hW : DataW.Whole enc Try.prog Try.f3.params.toList Rows.auditCleansSpec.vars false W args.toList ds gs before) :
    Calls Try.prog 3 args W fun e W' => ∃ v, e = .returned v ∧ Rows.auditCleansSpec.post enc Try.prog Try.f3 false true false false W args v W' := by
  have hW0 := hW
  obtain ⟨p, q, hA, -, -, -, -⟩ := hW
  obtain ⟨v, vs, d, ds', p1, q1, n, hargs, rfl, rfl, h1, h2⟩ := trodAll_split (t := 25) (ts := []) hA
  obtain ⟨rfl, rfl, rfl⟩ := trodAll_end h2
  obtain ⟨n', hl, xs, hm, -⟩ := inv_struct Try.underlying25 h1
  obtain ⟨hx1, hx2⟩ := mapM_get hm
  have hfl : (#[Field.mk "" 3 0 false "" "" 0] : Array Field).size = 1 := rfl
  clear hfl
  rw [co25] at hl
  have hv := agg_of (v := v) rfl (by omega)
  generalize v.cells.toList = l at *
  have hxl : xs.length = 7 := hx1
  have h0 := hx2 0 _ (xs[0]'(by omega)) rfl (by simp [hxl])
  have h6 := hx2 6 _ (xs[6]'(by omega)) rfl (by simp [hxl])
  obtain ⟨c0, c1, c2, c3, c4, c5, c6, rfl⟩ : ∃ c0 c1 c2 c3 c4 c5 c6, l = [c0, c1, c2, c3, c4, c5, c6] := by
    match l, hl with
    | [c0, c1, c2, c3, c4, c5, c6], _ => exact ⟨_, _, _, _, _, _, _, rfl⟩
  have done : True := trivial
  · clear done
    obtain ⟨s, e0, -, -⟩ := inv_int (k := .i64) Try.underlying3 h0
    have e0' : c0 = .int .i64 s := by
      have : [c0] = [Value.int .i64 s] := e0
      simpa using this
    have e6' : ∃ ad len cap, c6 = .slice ad len cap := by
      rcases inv_slice Try.underlying23 h6 with ⟨e6, -⟩ | ⟨_, a, len, cap, _, _, e6, -⟩
      · have : [c6] = [Value.slice none 0 0] := e6
        exact ⟨none, 0, 0, by simpa using this⟩
      · have : [c6] = [Value.slice (some a) len cap] := e6
        exact ⟨some a, len, cap, by simpa using this⟩
    obtain ⟨ad, len, cap, rfl⟩ := e6'
    subst hv
    subst e0'
    obtain rfl : args = #[.agg [.int .i64 s, c1, c2, c3, c4, c5, .slice ad len cap].toArray] := by cases args; simpa using hargs
    refine (auditCleans_walk s len cap c1 c2 c3 c4 c5 ad W (by simp) (by simp) trivial).mono ?_
    rintro e W' ⟨_, rfl, C', ⟨rfl, rfl⟩, hst⟩
    exact ⟨_, rfl, law_post laid maps full (by decide +kernel) rfl (fun ds hds => by match ds, hds with | [d], _ => rfl) rfl Try.underlying4 hW0 hst.mods.below⟩
set_option maxRecDepth 100000 in
theorem auditCleans_lifted (os : Os) (started : os.Started) (H : Type) (enc : TypeId × Value → H) :
    ReturnsInHanded {} Try.checked os 3 .any (Rows.auditCleansSpec.pre6 enc Try.prog Try.f3 Rows.auditCleansRow.domain false) (Rows.auditCleansSpec.post enc Try.prog Try.f3 false true false false) := by
  refine returnsInHanded_of_change (C := Try.checked) own started (by kernel_rfl) Try.func3
    (ChangeSpec.witness6 (enc := enc) (C := Try.checked) false ⟨#[], #[.agg #[.int .i64 0, .int .i64 0, .int .i64 0, .int .i64 0, .int .i64 0, .int .u64 0, .slice none 0 0]], []⟩ 8 (by kernel_rfl) (by kernel_rfl) (by kernel_rfl) (by kernel_rfl)) ?_
  intro W base args ds gs before _ hW _ _
  exact auditCleans_contract H enc W args ds gs before hW

/-- THE STATEMENT. -/
theorem auditCleans_holds : Rows.AuditCleansSaid :=
  OpenClaim.holds_of_wide 3 Try.f3 rfl rfl rfl rfl rfl rfl rfl ⟨rfl, rfl, rfl, rfl, rfl⟩ rfl rfl rfl rfl rfl (by kernel_rfl) Try.func3 (by kernel_rfl)
    (of_decide_eq_true (by kernel_rfl)) (by unfold Func.isWrapper; first | (rw [if_pos (by decide +kernel)]; kernel_rfl) | (rw [if_neg (by decide +kernel)]; exact ⟨rfl, rfl⟩))
    (fun os started H enc _ => auditCleans_lifted os started H enc)

end Go.Proofs.Ytcgenmfnlocbbaa
