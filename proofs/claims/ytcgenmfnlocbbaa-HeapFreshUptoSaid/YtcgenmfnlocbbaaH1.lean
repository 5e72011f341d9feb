/- The heap's functions, walked (generic instance 1). Nothing is claimed of a law here. -/
import Derived.Test.YtcgenmfnlocbbaaChecked
import Derived.Test.YtcgenmfnlocbbaaH0
namespace Go.Proofs.Ytcgenmfnlocbbaa
open Go.Lg Go.Hp
theorem ag31 : aggT Try.prog 31 = some 2 := by kernel_rfl
theorem ag73 : aggT Try.prog 73 = some 3 := by kernel_rfl
theorem cb17 : callable Try.prog 17 = true := by kernel_rfl
theorem cb20 : callable Try.prog 20 = true := by kernel_rfl
theorem cb21 : callable Try.prog 21 = true := by kernel_rfl
theorem cb22 : callable Try.prog 22 = true := by kernel_rfl
theorem cb41 : callable Try.prog 41 = true := by kernel_rfl
theorem cb42 : callable Try.prog 42 = true := by kernel_rfl
theorem cb49 : callable Try.prog 49 = true := by kernel_rfl
theorem cb50 : callable Try.prog 50 = true := by kernel_rfl
theorem cb51 : callable Try.prog 51 = true := by kernel_rfl
theorem fo71_0 : fieldOff Try.prog 71 0 = some 0 := by kernel_rfl
theorem fo71_1 : fieldOff Try.prog 71 1 = some 1 := by kernel_rfl
theorem fo71_2 : fieldOff Try.prog 71 2 = some 2 := by kernel_rfl
theorem fo73_0 : fieldOff Try.prog 73 0 = some 0 := by kernel_rfl
theorem fo73_1 : fieldOff Try.prog 73 1 = some 2 := by kernel_rfl
theorem ft22 : flatT Try.prog 22 = true := by kernel_rfl
theorem ft32 : flatT Try.prog 32 = true := by kernel_rfl
theorem ft69 : flatT Try.prog 69 = true := by kernel_rfl
theorem is34 : isSlice Try.prog 34 = true := by kernel_rfl
theorem is69 : isSlice Try.prog 69 = true := by kernel_rfl
theorem mixed : Try.prog.follows .mixedOrders = true := by kernel_rfl
theorem si69 : sliceInfo Try.prog 69 = some (73, 3, 24) := by kernel_rfl
theorem sl34 : sliceElem Try.prog 34 = some (31, 2) := by kernel_rfl
theorem sl69 : sliceElem Try.prog 69 = some (73, 3) := by kernel_rfl
theorem sp73 : structPlaces Try.prog 73 = some [(0, 2), (2, 1)] := by kernel_rfl
theorem sz22 : sizeT Try.prog 22 = some 1 := by kernel_rfl
theorem sz31 : sizeT Try.prog 31 = some 2 := by kernel_rfl
theorem sz69 : sizeT Try.prog 69 = some 1 := by kernel_rfl
theorem sz73 : sizeT Try.prog 73 = some 3 := by kernel_rfl
theorem zl31 : zeroL Try.prog 31 = some [.int .i64 0, .int .i64 0] := by kernel_rfl
theorem zl73 : zeroL Try.prog 73 = some [.int .i64 0, .int .i64 0, .int .u64 0] := by kernel_rfl
abbrev enc1 (x : Int × Int) : List Value := [.int .i64 x.1, .int .i64 x.2]
def row1 (x : (Int × Int) × Nat) : List Value := [.int .i64 x.1.1, .int .i64 x.1.2, .int .u64 x.2]
theorem row1_length (x : (Int × Int) × Nat) : (row1 x).length = 3 := rfl
theorem row1_one (x : (Int × Int) × Nat) : ∀ v ∈ row1 x, oneC v = true := by intro v hv; simp [row1] at hv; rcases hv with rfl | rfl | rfl <;> rfl
theorem row1_at (items : List ((Int × Int) × Nat)) (sp : List Value) (i : Nat) (hi : i < items.length) : ((items.flatMap row1 ++ sp).drop (0 + i * 3)).take 3 = [.int .i64 (at_ items i).1.1, .int .i64 (at_ items i).1.2, .int .u64 (at_ items i).2] := by
  rw [at_eq _ _ hi]; exact flat_row row1 3 row1_length items sp i hi
theorem row1_set (items : List ((Int × Int) × Nat)) (sp : List Value) (i : Nat) (hi : i < items.length) (x : (Int × Int) × Nat) : SetRow [.int .i64 x.1.1, .int .i64 x.1.2, .int .u64 x.2] (items.flatMap row1 ++ sp) (0 + i * 3) ((items.set i x).flatMap row1 ++ sp) := flat_set row1 3 row1_length row1_one items sp i hi x
theorem row1_el (items : List ((Int × Int) × Nat)) (sp : List Value) (i : Nat) (hi : i < items.length) : ((items.flatMap row1 ++ sp).drop (0 + i * 3 + 0)).take 2 = [.int .i64 (at_ items i).1.1, .int .i64 (at_ items i).1.2] := by
  have h2 := congrArg (List.take 2) (row1_at items sp i hi)
  rw [List.take_take] at h2
  simpa using h2
theorem ahead1 {g : FuncId} {fs cs : Array Value} {E : Nat → Chunks} {cmp : Int × Int → Int × Int → Int} (hc : CmpOk Try.prog g fs cs E enc1 cmp) (hb ib cap : Nat) (came : Int) (items : List ((Int × Int) × Nat)) (sp : List Value) (c i k : Nat) (hi : i < items.length) (hk : k < items.length) :
    Ct Try.prog 49 [.pointer (some ⟨hb, 0, none⟩), .int .i64 (i : Int), .int .i64 (k : Int)].toArray (fun _ => True) ((hb, cel 71 [.func (.func g) fs cs, .slice (some ⟨ib, 0, none⟩) items.length cap, .int .u64 came]) :: (ib, cel 73 (items.flatMap row1 ++ sp)) :: E c) (fun v C' => v = .bool (ahB cmp (at_ items i) (at_ items k)) ∧ C' = (hb, cel 71 [.func (.func g) fs cs, .slice (some ⟨ib, 0, none⟩) items.length cap, .int .u64 came]) :: (ib, cel 73 (items.flatMap row1 ++ sp)) :: E (c + 1)) := by
  refine ct_of_walk (fn := Try.f49) Try.func49 rfl rfl fun w0 _ hst => ?_
  clear hst
  repeat refine G.seq ?_
  refine G.region [.loc] (.take 0 .done) rfl ?_
  refine GP.take rfl rfl (Does.assign rfl ?_)
  refine GP.keep [(0, _), (1, _), (2, _), (6, _)] (.cons rfl (.cons rfl (.cons rfl (.cons rfl .nil)))) ?_
  repeat refine G.seq ?_
  refine G.join (S := Nat × Nat) (fun s => [(0, .pointer (some ⟨hb, 0, none⟩)), (7, .pointer (some ⟨s.1, 0, none⟩)), (8, .pointer (some ⟨s.2, 0, none⟩))]) (fun s => (s.1, cel 73 [.int .i64 (at_ items i).1.1, .int .i64 (at_ items i).1.2, .int .u64 (at_ items i).2]) :: (s.2, cel 73 [.int .i64 (at_ items k).1.1, .int .i64 (at_ items k).1.2, .int .u64 (at_ items k).2]) :: (hb, cel 71 [.func (.func g) fs cs, .slice (some ⟨ib, 0, none⟩) items.length cap, .int .u64 came]) :: (ib, cel 73 (items.flatMap row1 ++ sp)) :: E c) (fun _ => True) ?_ fun key => ?_
  · rintro ⟨b7, b8⟩ -
    dsimp only
    repeat refine G.seq ?_
    refine G.draw [.loc, .loc, .loc, .load, .loc, .load, .loc, .load, .gen, .loc] (.take 0 (.take 1 (.take 2 (.take 4 (.take 6 (.take 3 (.take 5 (.take 7 (.alt 8 (.take 9 .done) .stop))))))))) (by exact mixed) (by kernel_rfl) ?_
    intro N hN0 hN
    refine GP.take rfl rfl (Does.move rfl ?_)
    refine GP.take rfl rfl (Does.nilCheck rfl ?_)
    refine GP.take rfl rfl (Does.fieldAddr rfl fo71_0 ?_)
    refine GP.take rfl rfl (Does.fieldAddr rfl fo73_0 ?_)
    refine GP.take rfl rfl (Does.fieldAddr rfl fo73_0 ?_)
    refine GP.take rfl rfl (Does.load1N rfl ft32 (by first | exact hN _ (.head _) | exact hN _ (.tail _ (.head _)) | exact hN _ (.tail _ (.tail _ (.head _))) | exact hN _ (.tail _ (.tail _ (.tail _ (.head _)))) | exact hN _ (.tail _ (.tail _ (.tail _ (.tail _ (.head _))))) | exact hN _ (.tail _ (.tail _ (.tail _ (.tail _ (.tail _ (.head _)))))) | exact hN _ (.tail _ (.tail _ (.tail _ (.tail _ (.tail _ (.tail _ (.head _)))))))) (CellIn.own (by first | exact .head _ | exact .tail _ (.head _) | exact .tail _ (.tail _ (.head _)) | exact .tail _ (.tail _ (.tail _ (.head _))) | exact .tail _ (.tail _ (.tail _ (.tail _ (.head _)))) | exact .tail _ (.tail _ (.tail _ (.tail _ (.tail _ (.head _)))))) rfl) ?_)
    refine GP.take rfl rfl (Does.loadAN (vs := [.int .i64 (at_ items i).1.1, .int .i64 (at_ items i).1.2]) rfl ag31 (by first | exact hN _ (.head _) | exact hN _ (.tail _ (.head _)) | exact hN _ (.tail _ (.tail _ (.head _))) | exact hN _ (.tail _ (.tail _ (.tail _ (.head _)))) | exact hN _ (.tail _ (.tail _ (.tail _ (.tail _ (.head _))))) | exact hN _ (.tail _ (.tail _ (.tail _ (.tail _ (.tail _ (.head _)))))) | exact hN _ (.tail _ (.tail _ (.tail _ (.tail _ (.tail _ (.tail _ (.head _)))))))) (RowIn.own (by first | exact .head _ | exact .tail _ (.head _) | exact .tail _ (.tail _ (.head _)) | exact .tail _ (.tail _ (.tail _ (.head _))) | exact .tail _ (.tail _ (.tail _ (.tail _ (.head _)))) | exact .tail _ (.tail _ (.tail _ (.tail _ (.tail _ (.head _)))))) rfl) ?_)
    refine GP.take rfl rfl (Does.loadAN (vs := [.int .i64 (at_ items k).1.1, .int .i64 (at_ items k).1.2]) rfl ag31 (by first | exact hN _ (.head _) | exact hN _ (.tail _ (.head _)) | exact hN _ (.tail _ (.tail _ (.head _))) | exact hN _ (.tail _ (.tail _ (.tail _ (.head _)))) | exact hN _ (.tail _ (.tail _ (.tail _ (.tail _ (.head _))))) | exact hN _ (.tail _ (.tail _ (.tail _ (.tail _ (.tail _ (.head _)))))) | exact hN _ (.tail _ (.tail _ (.tail _ (.tail _ (.tail _ (.tail _ (.head _)))))))) (RowIn.own (by first | exact .head _ | exact .tail _ (.head _) | exact .tail _ (.tail _ (.head _)) | exact .tail _ (.tail _ (.tail _ (.head _))) | exact .tail _ (.tail _ (.tail _ (.tail _ (.head _)))) | exact .tail _ (.tail _ (.tail _ (.tail _ (.tail _ (.head _)))))) rfl) ?_)
    refine GP.one ?_
    refine GP.take rfl rfl (Does.callS (Cl := [(b7, _), (b8, _), (hb, _), (ib, _)]) (Ci := E c) rfl (.cons rfl (.cons rfl .nil)) hc.1 rfl rfl (hc.2 c (at_ items i).1 (at_ items k).1) (fun _ _ => trivial) ?_)
    rintro _ _ ⟨rfl, rfl⟩
    refine GP.take rfl rfl (Does.assign rfl ?_)
    refine GP.keep [(0, _), (7, _), (8, _), (9, _)] (.cons rfl (.cons rfl (.cons rfl (.cons rfl .nil)))) ?_
    simp only [List.cons_append, List.nil_append]
    repeat refine G.seq ?_
    by_cases h1 : cmp (at_ items i).1 (at_ items k).1 < 0
    · have t1 : decide (cmp (at_ items i).1 (at_ items k).1 < 0) = true := decide_eq_true h1
      refine G.region [.loc, .loc, .loc, .loc, .loc, .loc, .loc, .gen, .loc, .gen, .loc, .loc, .loc, .loc] (.take 0 (.take 1 (.take 2 (.take 3 (.take 4 (.take 5 (.take 6 (.take 7 (.take 8 (.take 9 (.take 10 (.take 11 (.take 12 (.take 13 .done)))))))))))))) rfl ?_
      refine GP.take rfl rfl (Does.move rfl ?_)
      refine GP.take rfl rfl (Does.lss rfl rfl t1 ?_)
      refine GP.take rfl rfl (Does.move rfl ?_)
      refine GP.pass rfl rfl rfl rfl rfl ?_
      refine GP.pass rfl rfl rfl rfl rfl ?_
      refine GP.pass rfl rfl rfl rfl rfl ?_
      refine GP.pass rfl rfl rfl rfl rfl ?_
      refine GP.pass rfl rfl rfl rfl rfl ?_
      refine GP.pass rfl rfl rfl rfl rfl ?_
      refine GP.pass rfl rfl rfl rfl rfl ?_
      refine GP.pass rfl rfl rfl rfl rfl ?_
      refine GP.pass rfl rfl rfl rfl rfl ?_
      refine GP.take rfl rfl (Does.pickT rfl rfl ?_)
      refine GP.take rfl rfl (Does.assign rfl ?_)
      refine GP.keep [(0, _), (6, _), (7, _), (8, _), (9, _)] (.cons rfl (.cons rfl (.cons rfl (.cons rfl (.cons rfl .nil))))) ?_
      refine fin_ret (fn := Try.f49) (A := (hb, cel 71 [.func (.func g) fs cs, .slice (some ⟨ib, 0, none⟩) items.length cap, .int .u64 came]) :: (ib, cel 73 (items.flatMap row1 ++ sp)) :: E (c + 1)) Try.func49 (res1 rfl rfl) .split2 ⟨?_, rfl⟩
      simp [ahB, h1]
    · have t1 : decide (cmp (at_ items i).1 (at_ items k).1 < 0) = false := decide_eq_false h1
      by_cases h2 : cmp (at_ items i).1 (at_ items k).1 = 0
      · have t2 : decide (cmp (at_ items i).1 (at_ items k).1 = 0) = true := decide_eq_true h2
        refine G.region [.loc, .loc, .loc, .loc, .loc, .loc, .loc, .gen, .loc, .gen, .loc, .loc, .loc, .loc] (.take 0 (.take 1 (.take 2 (.take 3 (.take 4 (.take 5 (.take 6 (.take 7 (.take 8 (.take 9 (.take 10 (.take 11 (.take 12 (.take 13 .done)))))))))))))) rfl ?_
        refine GP.take rfl rfl (Does.move rfl ?_)
        refine GP.take rfl rfl (Does.lss rfl rfl t1 ?_)
        refine GP.take rfl rfl (Does.move rfl ?_)
        refine GP.takeG rfl rfl rfl rfl (Does.move rfl ?_)
        refine GP.takeG rfl rfl rfl rfl (Does.eql rfl rfl t2 ?_)
        refine GP.takeG rfl rfl rfl rfl (Does.move rfl ?_)
        refine GP.takeG rfl rfl rfl rfl (Does.fieldAddr rfl fo73_1 ?_)
        refine GP.takeG rfl rfl rfl rfl (Does.load1 rfl ft22 (CellIn.own (by first | exact .head _ | exact .tail _ (.head _) | exact .tail _ (.tail _ (.head _)) | exact .tail _ (.tail _ (.tail _ (.head _))) | exact .tail _ (.tail _ (.tail _ (.tail _ (.head _)))) | exact .tail _ (.tail _ (.tail _ (.tail _ (.tail _ (.head _)))))) rfl) ?_)
        refine GP.takeG rfl rfl rfl rfl (Does.fieldAddr rfl fo73_1 ?_)
        refine GP.takeG rfl rfl rfl rfl (Does.load1 rfl ft22 (CellIn.own (by first | exact .head _ | exact .tail _ (.head _) | exact .tail _ (.tail _ (.head _)) | exact .tail _ (.tail _ (.tail _ (.head _))) | exact .tail _ (.tail _ (.tail _ (.tail _ (.head _)))) | exact .tail _ (.tail _ (.tail _ (.tail _ (.tail _ (.head _)))))) rfl) ?_)
        refine GP.takeG rfl rfl rfl rfl (Does.lss rfl rfl rfl ?_)
        refine GP.takeG rfl rfl rfl rfl (Does.pickT rfl rfl ?_)
        refine GP.take rfl rfl (Does.pickF rfl rfl ?_)
        refine GP.take rfl rfl (Does.assign rfl ?_)
        refine GP.keep [(0, _), (6, _), (7, _), (8, _), (9, _)] (.cons rfl (.cons rfl (.cons rfl (.cons rfl (.cons rfl .nil))))) ?_
        refine fin_ret (fn := Try.f49) (A := (hb, cel 71 [.func (.func g) fs cs, .slice (some ⟨ib, 0, none⟩) items.length cap, .int .u64 came]) :: (ib, cel 73 (items.flatMap row1 ++ sp)) :: E (c + 1)) Try.func49 (res1 rfl rfl) .split2 ⟨?_, rfl⟩
        simp [ahB, h2]
      · have t2 : decide (cmp (at_ items i).1 (at_ items k).1 = 0) = false := decide_eq_false h2
        refine G.region [.loc, .loc, .loc, .loc, .loc, .loc, .loc, .gen, .loc, .gen, .loc, .loc, .loc, .loc] (.take 0 (.take 1 (.take 2 (.take 3 (.take 4 (.take 5 (.take 6 (.take 7 (.take 8 (.take 9 (.take 10 (.take 11 (.take 12 (.take 13 .done)))))))))))))) rfl ?_
        refine GP.take rfl rfl (Does.move rfl ?_)
        refine GP.take rfl rfl (Does.lss rfl rfl t1 ?_)
        refine GP.take rfl rfl (Does.move rfl ?_)
        refine GP.takeG rfl rfl rfl rfl (Does.move rfl ?_)
        refine GP.takeG rfl rfl rfl rfl (Does.eql rfl rfl t2 ?_)
        refine GP.takeG rfl rfl rfl rfl (Does.move rfl ?_)
        refine GP.pass rfl rfl rfl rfl rfl ?_
        refine GP.pass rfl rfl rfl rfl rfl ?_
        refine GP.pass rfl rfl rfl rfl rfl ?_
        refine GP.pass rfl rfl rfl rfl rfl ?_
        refine GP.pass rfl rfl rfl rfl rfl ?_
        refine GP.takeG rfl rfl rfl rfl (Does.pickF rfl rfl ?_)
        refine GP.take rfl rfl (Does.pickF rfl rfl ?_)
        refine GP.take rfl rfl (Does.assign rfl ?_)
        refine GP.keep [(0, _), (6, _), (7, _), (8, _), (9, _)] (.cons rfl (.cons rfl (.cons rfl (.cons rfl (.cons rfl .nil))))) ?_
        refine fin_ret (fn := Try.f49) (A := (hb, cel 71 [.func (.func g) fs cs, .slice (some ⟨ib, 0, none⟩) items.length cap, .int .u64 came]) :: (ib, cel 73 (items.flatMap row1 ++ sp)) :: E (c + 1)) Try.func49 (res1 rfl rfl) .split2 ⟨?_, rfl⟩
        simp [ahB, h1, h2]
  refine G.draw [.loc, .loc, .loc, .load, .loc, .loc, .load, .loc, .loc, .loc, .load, .loc, .loc, .load, .alloc, .alloc, .fst, .fst] (.take 0 (.take 1 (.take 2 (.take 4 (.take 7 (.take 8 (.take 9 (.take 11 (.take 3 (.take 5 (.take 6 (.take 10 (.take 12 (.take 13 (.alt 14 (.alt 15 (.alt 16 (.alt 17 .done .stop) .stop) .stop) (.alt 15 (.alt 14 (.alt 16 (.alt 17 .done .stop) .stop) .stop) .stop)))))))))))))))) (by exact mixed) (by kernel_rfl) ?_
  intro N hN0 hN
  refine GP.take rfl rfl (Does.move rfl ?_)
  refine GP.take rfl rfl (Does.nilCheck rfl ?_)
  refine GP.take rfl rfl (Does.fieldAddr rfl fo71_1 ?_)
  refine GP.take rfl rfl (Does.move rfl ?_)
  refine GP.take rfl rfl (Does.move rfl ?_)
  refine GP.take rfl rfl (Does.nilCheck rfl ?_)
  refine GP.take rfl rfl (Does.fieldAddr rfl fo71_1 ?_)
  refine GP.take rfl rfl (Does.move rfl ?_)
  refine GP.take rfl rfl (Does.load1N rfl ft69 (by first | exact hN _ (.head _) | exact hN _ (.tail _ (.head _)) | exact hN _ (.tail _ (.tail _ (.head _))) | exact hN _ (.tail _ (.tail _ (.tail _ (.head _)))) | exact hN _ (.tail _ (.tail _ (.tail _ (.tail _ (.head _))))) | exact hN _ (.tail _ (.tail _ (.tail _ (.tail _ (.tail _ (.head _)))))) | exact hN _ (.tail _ (.tail _ (.tail _ (.tail _ (.tail _ (.tail _ (.head _)))))))) (CellIn.own (by first | exact .head _ | exact .tail _ (.head _) | exact .tail _ (.tail _ (.head _)) | exact .tail _ (.tail _ (.tail _ (.head _))) | exact .tail _ (.tail _ (.tail _ (.tail _ (.head _)))) | exact .tail _ (.tail _ (.tail _ (.tail _ (.tail _ (.head _)))))) rfl) ?_)
  refine GP.take rfl rfl (Does.indexAddr i rfl rfl sl69 rfl hi ?_)
  refine GP.take rfl rfl (Does.loadAN (vs := [.int .i64 (at_ items i).1.1, .int .i64 (at_ items i).1.2, .int .u64 (at_ items i).2]) rfl ag73 (by first | exact hN _ (.head _) | exact hN _ (.tail _ (.head _)) | exact hN _ (.tail _ (.tail _ (.head _))) | exact hN _ (.tail _ (.tail _ (.tail _ (.head _)))) | exact hN _ (.tail _ (.tail _ (.tail _ (.tail _ (.head _))))) | exact hN _ (.tail _ (.tail _ (.tail _ (.tail _ (.tail _ (.head _)))))) | exact hN _ (.tail _ (.tail _ (.tail _ (.tail _ (.tail _ (.tail _ (.head _)))))))) (RowIn.own (l := items.flatMap row1 ++ sp) (by first | exact .head _ | exact .tail _ (.head _) | exact .tail _ (.tail _ (.head _)) | exact .tail _ (.tail _ (.tail _ (.head _))) | exact .tail _ (.tail _ (.tail _ (.tail _ (.head _)))) | exact .tail _ (.tail _ (.tail _ (.tail _ (.tail _ (.head _)))))) (row1_at items sp i hi)) ?_)
  refine GP.take rfl rfl (Does.load1N rfl ft69 (by first | exact hN _ (.head _) | exact hN _ (.tail _ (.head _)) | exact hN _ (.tail _ (.tail _ (.head _))) | exact hN _ (.tail _ (.tail _ (.tail _ (.head _)))) | exact hN _ (.tail _ (.tail _ (.tail _ (.tail _ (.head _))))) | exact hN _ (.tail _ (.tail _ (.tail _ (.tail _ (.tail _ (.head _)))))) | exact hN _ (.tail _ (.tail _ (.tail _ (.tail _ (.tail _ (.tail _ (.head _)))))))) (CellIn.own (by first | exact .head _ | exact .tail _ (.head _) | exact .tail _ (.tail _ (.head _)) | exact .tail _ (.tail _ (.tail _ (.head _))) | exact .tail _ (.tail _ (.tail _ (.tail _ (.head _)))) | exact .tail _ (.tail _ (.tail _ (.tail _ (.tail _ (.head _)))))) rfl) ?_)
  refine GP.take rfl rfl (Does.indexAddr k rfl rfl sl69 rfl hk ?_)
  refine GP.take rfl rfl (Does.loadAN (vs := [.int .i64 (at_ items k).1.1, .int .i64 (at_ items k).1.2, .int .u64 (at_ items k).2]) rfl ag73 (by first | exact hN _ (.head _) | exact hN _ (.tail _ (.head _)) | exact hN _ (.tail _ (.tail _ (.head _))) | exact hN _ (.tail _ (.tail _ (.tail _ (.head _)))) | exact hN _ (.tail _ (.tail _ (.tail _ (.tail _ (.head _))))) | exact hN _ (.tail _ (.tail _ (.tail _ (.tail _ (.tail _ (.head _)))))) | exact hN _ (.tail _ (.tail _ (.tail _ (.tail _ (.tail _ (.tail _ (.head _)))))))) (RowIn.own (l := items.flatMap row1 ++ sp) (by first | exact .head _ | exact .tail _ (.head _) | exact .tail _ (.tail _ (.head _)) | exact .tail _ (.tail _ (.tail _ (.head _))) | exact .tail _ (.tail _ (.tail _ (.tail _ (.head _)))) | exact .tail _ (.tail _ (.tail _ (.tail _ (.tail _ (.head _)))))) (row1_at items sp k hk)) ?_)
  refine GP.alt ?_ ?_
  · skip
    refine GP.take rfl rfl (Does.alloc zl73 fun b7 Nb7 hb7 nb7 => ?_)
    refine GP.one ?_
    refine GP.take rfl rfl (Does.alloc zl73 fun b8 Nb8 hb8 nb8 => ?_)
    refine GP.one ?_
    refine GP.take0 rfl (Does.storeAF rfl rfl sz73 (by assumption) (by first | exact .head | exact .tail .head | exact .tail (.tail .head) | exact .tail (.tail (.tail .head)) | exact .tail (.tail (.tail (.tail .head))) | exact .tail (.tail (.tail (.tail (.tail .head))))) (.cons rfl .head (.cons rfl (.tail .head) (.cons rfl (.tail (.tail .head)) .nil))) ?_)
    refine GP.one ?_
    refine GP.take0 rfl (Does.storeAF rfl rfl sz73 (by assumption) (by first | exact .head | exact .tail .head | exact .tail (.tail .head) | exact .tail (.tail (.tail .head)) | exact .tail (.tail (.tail (.tail .head))) | exact .tail (.tail (.tail (.tail (.tail .head))))) (.cons rfl .head (.cons rfl (.tail .head) (.cons rfl (.tail (.tail .head)) .nil))) ?_)
    refine GP.keep [(0, _), (7, _), (8, _)] (.cons rfl (.cons rfl (.cons rfl .nil))) ?_
    exact (key (b7, b8) trivial).perm (by first | exact .refl _ | exact .swap _ _ _)
  refine GP.alt ?_ ?_
  · skip
    refine GP.take rfl rfl (Does.alloc zl73 fun b8 Nb8 hb8 nb8 => ?_)
    refine GP.one ?_
    refine GP.take rfl rfl (Does.alloc zl73 fun b7 Nb7 hb7 nb7 => ?_)
    refine GP.one ?_
    refine GP.take0 rfl (Does.storeAF rfl rfl sz73 (by assumption) (by first | exact .head | exact .tail .head | exact .tail (.tail .head) | exact .tail (.tail (.tail .head)) | exact .tail (.tail (.tail (.tail .head))) | exact .tail (.tail (.tail (.tail (.tail .head))))) (.cons rfl .head (.cons rfl (.tail .head) (.cons rfl (.tail (.tail .head)) .nil))) ?_)
    refine GP.one ?_
    refine GP.take0 rfl (Does.storeAF rfl rfl sz73 (by assumption) (by first | exact .head | exact .tail .head | exact .tail (.tail .head) | exact .tail (.tail (.tail .head)) | exact .tail (.tail (.tail (.tail .head))) | exact .tail (.tail (.tail (.tail (.tail .head))))) (.cons rfl .head (.cons rfl (.tail .head) (.cons rfl (.tail (.tail .head)) .nil))) ?_)
    refine GP.keep [(0, _), (7, _), (8, _)] (.cons rfl (.cons rfl (.cons rfl .nil))) ?_
    exact (key (b7, b8) trivial).perm (by first | exact .refl _ | exact .swap _ _ _)
  exact GP.stop
theorem exchange1 {g : FuncId} {fs cs : Array Value} (hb ib cap : Nat) (came : Int) (items : List ((Int × Int) × Nat)) (sp : List Value) (i k : Nat) (hi : i < items.length) (hk : k < items.length) :
    Ct Try.prog 50 [.pointer (some ⟨hb, 0, none⟩), .int .i64 (i : Int), .int .i64 (k : Int)].toArray (fun _ => True) ((hb, cel 71 [.func (.func g) fs cs, .slice (some ⟨ib, 0, none⟩) items.length cap, .int .u64 came]) :: (ib, cel 73 (items.flatMap row1 ++ sp)) :: []) (fun v C' => v = .tuple #[] ∧ C' = (hb, cel 71 [.func (.func g) fs cs, .slice (some ⟨ib, 0, none⟩) (swp items i k).length cap, .int .u64 came]) :: (ib, cel 73 ((swp items i k).flatMap row1 ++ sp)) :: []) := by
  rw [swp_length]
  refine ct_of_walk (fn := Try.f50) Try.func50 rfl rfl fun w0 _ hst => ?_
  clear hst
  repeat refine G.seq ?_
  refine G.draw [.loc, .loc, .loc, .load, .loc, .loc, .loc, .loc, .load, .loc, .loc, .loc, .loc, .load, .loc, .loc, .load, .loc, .loc, .loc, .load, .loc, .loc, .load, .loc, .gen, .loc, .gen] (.take 0 (.take 1 (.take 2 (.take 4 (.take 5 (.take 6 (.take 7 (.take 9 (.take 10 (.take 11 (.take 12 (.take 14 (.take 17 (.take 18 (.take 19 (.take 21 (.take 3 (.take 8 (.take 13 (.take 15 (.take 16 (.take 20 (.take 22 (.take 23 (.take 24 (.alt 25 (.take 26 (.alt 27 .done .stop)) .stop)))))))))))))))))))))))))) (by exact mixed) (by kernel_rfl) ?_
  intro N hN0 hN
  refine GP.take rfl rfl (Does.move rfl ?_)
  refine GP.take rfl rfl (Does.nilCheck rfl ?_)
  refine GP.take rfl rfl (Does.fieldAddr rfl fo71_1 ?_)
  refine GP.take rfl rfl (Does.move rfl ?_)
  refine GP.take rfl rfl (Does.move rfl ?_)
  refine GP.take rfl rfl (Does.nilCheck rfl ?_)
  refine GP.take rfl rfl (Does.fieldAddr rfl fo71_1 ?_)
  refine GP.take rfl rfl (Does.move rfl ?_)
  refine GP.take rfl rfl (Does.move rfl ?_)
  refine GP.take rfl rfl (Does.nilCheck rfl ?_)
  refine GP.take rfl rfl (Does.fieldAddr rfl fo71_1 ?_)
  refine GP.take rfl rfl (Does.move rfl ?_)
  refine GP.take rfl rfl (Does.move rfl ?_)
  refine GP.take rfl rfl (Does.nilCheck rfl ?_)
  refine GP.take rfl rfl (Does.fieldAddr rfl fo71_1 ?_)
  refine GP.take rfl rfl (Does.move rfl ?_)
  refine GP.take rfl rfl (Does.load1N rfl ft69 (by first | exact hN _ (.head _) | exact hN _ (.tail _ (.head _)) | exact hN _ (.tail _ (.tail _ (.head _))) | exact hN _ (.tail _ (.tail _ (.tail _ (.head _)))) | exact hN _ (.tail _ (.tail _ (.tail _ (.tail _ (.head _))))) | exact hN _ (.tail _ (.tail _ (.tail _ (.tail _ (.tail _ (.head _)))))) | exact hN _ (.tail _ (.tail _ (.tail _ (.tail _ (.tail _ (.tail _ (.head _)))))))) (CellIn.own (by first | exact .head _ | exact .tail _ (.head _) | exact .tail _ (.tail _ (.head _)) | exact .tail _ (.tail _ (.tail _ (.head _))) | exact .tail _ (.tail _ (.tail _ (.tail _ (.head _)))) | exact .tail _ (.tail _ (.tail _ (.tail _ (.tail _ (.head _)))))) rfl) ?_)
  refine GP.take rfl rfl (Does.load1N rfl ft69 (by first | exact hN _ (.head _) | exact hN _ (.tail _ (.head _)) | exact hN _ (.tail _ (.tail _ (.head _))) | exact hN _ (.tail _ (.tail _ (.tail _ (.head _)))) | exact hN _ (.tail _ (.tail _ (.tail _ (.tail _ (.head _))))) | exact hN _ (.tail _ (.tail _ (.tail _ (.tail _ (.tail _ (.head _)))))) | exact hN _ (.tail _ (.tail _ (.tail _ (.tail _ (.tail _ (.tail _ (.head _)))))))) (CellIn.own (by first | exact .head _ | exact .tail _ (.head _) | exact .tail _ (.tail _ (.head _)) | exact .tail _ (.tail _ (.tail _ (.head _))) | exact .tail _ (.tail _ (.tail _ (.tail _ (.head _)))) | exact .tail _ (.tail _ (.tail _ (.tail _ (.tail _ (.head _)))))) rfl) ?_)
  refine GP.take rfl rfl (Does.load1N rfl ft69 (by first | exact hN _ (.head _) | exact hN _ (.tail _ (.head _)) | exact hN _ (.tail _ (.tail _ (.head _))) | exact hN _ (.tail _ (.tail _ (.tail _ (.head _)))) | exact hN _ (.tail _ (.tail _ (.tail _ (.tail _ (.head _))))) | exact hN _ (.tail _ (.tail _ (.tail _ (.tail _ (.tail _ (.head _)))))) | exact hN _ (.tail _ (.tail _ (.tail _ (.tail _ (.tail _ (.tail _ (.head _)))))))) (CellIn.own (by first | exact .head _ | exact .tail _ (.head _) | exact .tail _ (.tail _ (.head _)) | exact .tail _ (.tail _ (.tail _ (.head _))) | exact .tail _ (.tail _ (.tail _ (.tail _ (.head _)))) | exact .tail _ (.tail _ (.tail _ (.tail _ (.tail _ (.head _)))))) rfl) ?_)
  refine GP.take rfl rfl (Does.indexAddr k rfl rfl sl69 rfl hk ?_)
  refine GP.take rfl rfl (Does.loadAN (vs := [.int .i64 (at_ items k).1.1, .int .i64 (at_ items k).1.2, .int .u64 (at_ items k).2]) rfl ag73 (by first | exact hN _ (.head _) | exact hN _ (.tail _ (.head _)) | exact hN _ (.tail _ (.tail _ (.head _))) | exact hN _ (.tail _ (.tail _ (.tail _ (.head _)))) | exact hN _ (.tail _ (.tail _ (.tail _ (.tail _ (.head _))))) | exact hN _ (.tail _ (.tail _ (.tail _ (.tail _ (.tail _ (.head _)))))) | exact hN _ (.tail _ (.tail _ (.tail _ (.tail _ (.tail _ (.tail _ (.head _)))))))) (RowIn.own (l := items.flatMap row1 ++ sp) (by first | exact .head _ | exact .tail _ (.head _) | exact .tail _ (.tail _ (.head _)) | exact .tail _ (.tail _ (.tail _ (.head _))) | exact .tail _ (.tail _ (.tail _ (.tail _ (.head _)))) | exact .tail _ (.tail _ (.tail _ (.tail _ (.tail _ (.head _)))))) (row1_at items sp k hk)) ?_)
  refine GP.take rfl rfl (Does.load1N rfl ft69 (by first | exact hN _ (.head _) | exact hN _ (.tail _ (.head _)) | exact hN _ (.tail _ (.tail _ (.head _))) | exact hN _ (.tail _ (.tail _ (.tail _ (.head _)))) | exact hN _ (.tail _ (.tail _ (.tail _ (.tail _ (.head _))))) | exact hN _ (.tail _ (.tail _ (.tail _ (.tail _ (.tail _ (.head _)))))) | exact hN _ (.tail _ (.tail _ (.tail _ (.tail _ (.tail _ (.tail _ (.head _)))))))) (CellIn.own (by first | exact .head _ | exact .tail _ (.head _) | exact .tail _ (.tail _ (.head _)) | exact .tail _ (.tail _ (.tail _ (.head _))) | exact .tail _ (.tail _ (.tail _ (.tail _ (.head _)))) | exact .tail _ (.tail _ (.tail _ (.tail _ (.tail _ (.head _)))))) rfl) ?_)
  refine GP.take rfl rfl (Does.indexAddr i rfl rfl sl69 rfl hi ?_)
  refine GP.take rfl rfl (Does.loadAN (vs := [.int .i64 (at_ items i).1.1, .int .i64 (at_ items i).1.2, .int .u64 (at_ items i).2]) rfl ag73 (by first | exact hN _ (.head _) | exact hN _ (.tail _ (.head _)) | exact hN _ (.tail _ (.tail _ (.head _))) | exact hN _ (.tail _ (.tail _ (.tail _ (.head _)))) | exact hN _ (.tail _ (.tail _ (.tail _ (.tail _ (.head _))))) | exact hN _ (.tail _ (.tail _ (.tail _ (.tail _ (.tail _ (.head _)))))) | exact hN _ (.tail _ (.tail _ (.tail _ (.tail _ (.tail _ (.tail _ (.head _)))))))) (RowIn.own (l := items.flatMap row1 ++ sp) (by first | exact .head _ | exact .tail _ (.head _) | exact .tail _ (.tail _ (.head _)) | exact .tail _ (.tail _ (.tail _ (.head _))) | exact .tail _ (.tail _ (.tail _ (.tail _ (.head _)))) | exact .tail _ (.tail _ (.tail _ (.tail _ (.tail _ (.head _)))))) (row1_at items sp i hi)) ?_)
  refine GP.take rfl rfl (Does.indexAddr i rfl rfl sl69 rfl hi ?_)
  refine GP.one ?_
  refine GP.take0 rfl (Does.storeA rfl rfl sz73 (by first | exact .head | exact .tail .head | exact .tail (.tail .head) | exact .tail (.tail (.tail .head)) | exact .tail (.tail (.tail (.tail .head))) | exact .tail (.tail (.tail (.tail (.tail .head))))) (row1_set items sp i hi (at_ items k)) ?_)
  refine GP.take rfl rfl (Does.indexAddr k rfl rfl sl69 rfl hk ?_)
  refine GP.one ?_
  refine GP.take0 rfl (Does.storeA rfl rfl sz73 (by first | exact .head | exact .tail .head | exact .tail (.tail .head) | exact .tail (.tail (.tail .head)) | exact .tail (.tail (.tail (.tail .head))) | exact .tail (.tail (.tail (.tail (.tail .head))))) (row1_set (items.set i (at_ items k)) sp k (by simpa using hk) (at_ items i)) ?_)
  refine GP.keep [(0, _)] (.cons rfl .nil) ?_
  refine fin_end (fn := Try.f50) (R := []) Try.func50 (res0 rfl) (.cons .head (.cons .head .nil)) ⟨rfl, rfl⟩
theorem down1 {g : FuncId} {fs cs : Array Value} {E : Nat → Chunks} {cmp : Int × Int → Int × Int → Int} (hc : CmpOk Try.prog g fs cs E enc1 cmp) (hb ib cap : Nat) (came : Int) (items : List ((Int × Int) × Nat)) (sp : List Value) (c : Nat) (hbig : items.length ≤ 4294967296) :
    Ct Try.prog 41 [.pointer (some ⟨hb, 0, none⟩)].toArray (fun _ => True) ((hb, cel 71 [.func (.func g) fs cs, .slice (some ⟨ib, 0, none⟩) items.length cap, .int .u64 came]) :: (ib, cel 73 (items.flatMap row1 ++ sp)) :: E c) (fun v C' => v = .tuple #[] ∧ C' = (hb, cel 71 [.func (.func g) fs cs, .slice (some ⟨ib, 0, none⟩) (downF cmp items.length items 0).1.length cap, .int .u64 came]) :: (ib, cel 73 ((downF cmp items.length items 0).1.flatMap row1 ++ sp)) :: E (c + (downF cmp items.length items 0).2)) := by
  refine ct_of_walk (fn := Try.f41) Try.func41 rfl rfl fun w0 _ hst => ?_
  clear hst
  repeat refine G.seq ?_
  refine G.region [.loc] (.take 0 .done) rfl ?_
  refine GP.take rfl rfl (Does.assign rfl ?_)
  refine GP.keep [(0, _), (2, _)] (.cons rfl (.cons rfl .nil)) ?_
  repeat refine G.seq ?_
  refine G.block ?_
  refine G.loop (S := List ((Int × Int) × Nat) × Nat × Nat × Nat) (fun s => [(0, .pointer (some ⟨hb, 0, none⟩)), (2, .int .i64 (s.2.1 : Int))]) (fun s => (hb, cel 71 [.func (.func g) fs cs, .slice (some ⟨ib, 0, none⟩) s.1.length cap, .int .u64 came]) :: (ib, cel 73 (s.1.flatMap row1 ++ sp)) :: E s.2.2.1)
    (fun s => s.1.length = items.length ∧ s.2.1 ≤ items.length ∧ items.length ≤ s.2.2.2 + s.2.1 ∧ (downF cmp s.2.2.2 s.1 s.2.1).1 = (downF cmp items.length items 0).1 ∧ s.2.2.1 + (downF cmp s.2.2.2 s.1 s.2.1).2 = c + (downF cmp items.length items 0).2)
    (fun s => items.length - s.2.1) (items, 0, c, items.length) ⟨rfl, Nat.zero_le _, by simp, rfl, rfl⟩ (.cons rfl (.cons rfl .nil)) .all ?_
  rintro ⟨its, i, c1, f⟩ ⟨hlen, hil, hf, h1, h2⟩ IH
  simp only at hlen hil hf h1 h2 IH ⊢
  refine G.block ?_
  repeat refine G.seq ?_
  refine G.region [.loc, .loc, .loc, .loc] (.take 0 (.take 1 (.take 2 (.take 3 .done)))) rfl ?_
  refine GP.take rfl rfl (Does.move rfl ?_)
  refine GP.take rfl rfl (Does.mul rfl rfl (r := ((2 * i : Nat) : Int)) (wrc_i64 (by omega) (by omega) (by omega)) ?_)
  refine GP.take rfl rfl (Does.add rfl rfl (r := ((2 * i + 1 : Nat) : Int)) (wrc_i64 (by omega) (by omega) (by omega)) ?_)
  refine GP.take rfl rfl (Does.assign rfl ?_)
  refine GP.keep [(0, _), (2, _), (3, _)] (.cons rfl (.cons rfl (.cons rfl .nil))) ?_
  repeat refine G.seq ?_
  refine G.region [.loc, .loc, .loc, .loc, .gen, .loc, .loc] (.take 0 (.take 1 (.take 2 (.take 3 (.take 4 (.take 5 (.take 6 .done))))))) rfl ?_
  refine GP.take rfl rfl (Does.move rfl ?_)
  refine GP.take rfl rfl (Does.move rfl ?_)
  refine GP.take rfl rfl (Does.nilCheck rfl ?_)
  refine GP.take rfl rfl (Does.fieldAddr rfl fo71_1 ?_)
  refine GP.take rfl rfl (Does.load1 rfl ft69 (CellIn.own (by first | exact .head _ | exact .tail _ (.head _) | exact .tail _ (.tail _ (.head _)) | exact .tail _ (.tail _ (.tail _ (.head _))) | exact .tail _ (.tail _ (.tail _ (.tail _ (.head _)))) | exact .tail _ (.tail _ (.tail _ (.tail _ (.tail _ (.head _)))))) rfl) ?_)
  refine GP.take rfl rfl (Does.len rfl is69 ?_)
  refine GP.take rfl rfl (Does.geq rfl rfl rfl ?_)
  refine GP.keep [(0, _), (2, _), (3, _), (13, _)] (.cons rfl (.cons rfl (.cons rfl (.cons rfl .nil)))) ?_
  repeat refine G.seq ?_
  refine G.cond rfl ?_ ?_
  · intro hge
    have hs := downF_stop cmp f its i (by omega)
    rw [hs] at h1 h2
    simp only at h1 h2
    refine fin_ret (fn := Try.f41) (A := (hb, cel 71 [.func (.func g) fs cs, .slice (some ⟨ib, 0, none⟩) its.length cap, .int .u64 came]) :: (ib, cel 73 (its.flatMap row1 ++ sp)) :: E c1) (R := []) Try.func41 (res0 rfl) .all ⟨rfl, ?_⟩
    rw [← h1, ← h2, Nat.add_zero]
  intro hge
  have hlt : 2 * i + 1 < its.length := by omega
  have hkl := kid_lt cmp its i hlt
  refine G.skip ?_
  repeat refine G.seq ?_
  refine G.joinB (S := Unit) (fun _ => [(0, .pointer (some ⟨hb, 0, none⟩)), (2, .int .i64 (i : Int)), (3, .int .i64 (((kid cmp its i).1 : Nat) : Int))]) (fun _ => (hb, cel 71 [.func (.func g) fs cs, .slice (some ⟨ib, 0, none⟩) its.length cap, .int .u64 came]) :: (ib, cel 73 (its.flatMap row1 ++ sp)) :: E (c1 + (kid cmp its i).2)) (fun _ => True) ?_ fun key => ?_
  · rintro - -
    repeat refine G.seq ?_
    refine G.region [.loc, .loc, .loc, .gen, .loc] (.take 0 (.take 1 (.take 2 (.take 3 (.take 4 .done))))) rfl ?_
    refine GP.take rfl rfl (Does.move rfl ?_)
    refine GP.take rfl rfl (Does.move rfl ?_)
    refine GP.take rfl rfl (Does.move rfl ?_)
    refine GP.take rfl rfl (Does.callF [] ((hb, cel 71 [.func (.func g) fs cs, .slice (some ⟨ib, 0, none⟩) its.length cap, .int .u64 came]) :: (ib, cel 73 (its.flatMap row1 ++ sp)) :: E (c1 + (kid cmp its i).2)) (.cons rfl (.cons rfl (.cons rfl .nil))) cb49 rfl (ahead1 hc hb ib cap came its sp (c1 + (kid cmp its i).2) (kid cmp its i).1 i hkl.1 (by omega)) (fun _ _ => trivial) ?_)
    rintro _ _ ⟨rfl, rfl⟩
    simp only [List.nil_append]
    refine GP.take rfl rfl (Does.not rfl rfl ?_)
    refine GP.keep [(0, _), (2, _), (3, _), (35, _)] (.cons rfl (.cons rfl (.cons rfl (.cons rfl .nil)))) ?_
    repeat refine G.seq ?_
    refine G.condB rfl ?_ ?_
    · intro hb1
      have ha : ahB cmp (at_ its (kid cmp its i).1) (at_ its i) = false := by simpa using hb1
      have hs := downF_no cmp f its i hlt (by omega) ha
      rw [hs] at h1 h2
      simp only at h1 h2
      refine fin_ret (fn := Try.f41) (A := (hb, cel 71 [.func (.func g) fs cs, .slice (some ⟨ib, 0, none⟩) its.length cap, .int .u64 came]) :: (ib, cel 73 (its.flatMap row1 ++ sp)) :: E (c1 + (kid cmp its i).2 + 1)) (R := []) Try.func41 (res0 rfl) .all ⟨rfl, ?_⟩
      rw [← h1, ← h2, Nat.add_assoc]
    · intro hb1
      have ha : ahB cmp (at_ its (kid cmp its i).1) (at_ its i) = true := by simpa using hb1
      have hs := downF_yes cmp f its i hlt (by omega) ha
      rw [hs] at h1 h2
      simp only at h1 h2
      refine G.skip ?_
      repeat refine G.seq ?_
      refine G.region [.loc, .loc, .loc, .gen] (.take 0 (.take 1 (.take 2 (.take 3 .done)))) rfl ?_
      refine GP.take rfl rfl (Does.move rfl ?_)
      refine GP.take rfl rfl (Does.move rfl ?_)
      refine GP.take rfl rfl (Does.move rfl ?_)
      refine GP.take rfl rfl (Does.callG [] ((hb, cel 71 [.func (.func g) fs cs, .slice (some ⟨ib, 0, none⟩) its.length cap, .int .u64 came]) :: (ib, cel 73 (its.flatMap row1 ++ sp)) :: []) (E (c1 + (kid cmp its i).2 + 1)) (.cons rfl (.cons rfl (.cons rfl .nil))) cb50 rfl (exchange1 hb ib cap came its sp (fs := fs) (cs := cs) (g := g) i (kid cmp its i).1 (by omega) hkl.1) (fun _ _ => trivial) ?_)
      rintro _ _ ⟨rfl, rfl⟩
      simp only [List.nil_append, List.cons_append]
      refine GP.keep [(0, _), (2, _), (3, _), (35, _)] (.cons rfl (.cons rfl (.cons rfl (.cons rfl .nil)))) ?_
      repeat refine G.seq ?_
      refine G.region [.loc, .loc] (.take 0 (.take 1 .done)) rfl ?_
      refine GP.take rfl rfl (Does.move rfl ?_)
      refine GP.take rfl rfl (Does.assign rfl ?_)
      refine GP.keep [(0, _), (2, _)] (.cons rfl (.cons rfl .nil)) ?_
      refine G.inBlock ?_
      exact IH (swp its i (kid cmp its i).1, (kid cmp its i).1, c1 + (kid cmp its i).2 + 1, f - 1) ⟨by simp [swp_length, hlen], by simp only; omega, by simp only; omega, h1, by rw [← h2]; simp only; omega⟩ (by simp only; omega)
  by_cases hk2 : 2 * i + 2 < its.length
  · have hg : decide (((2 * i + 2 : Nat) : Int) < (its.length : Int)) = true := decide_eq_true (by omega)
    refine G.region [.loc, .loc, .loc, .loc, .loc, .gen, .loc, .loc, .loc, .loc, .loc, .loc, .loc, .gen, .loc] (.take 0 (.take 1 (.take 2 (.take 3 (.take 4 (.take 5 (.take 6 (.take 7 (.take 8 (.take 9 (.take 10 (.take 11 (.take 12 (.take 13 (.take 14 .done))))))))))))))) rfl ?_
    refine GP.take rfl rfl (Does.move rfl ?_)
    refine GP.take rfl rfl (Does.add rfl rfl (r := ((2 * i + 2 : Nat) : Int)) (wrc_i64 (by omega) (by omega) (by omega)) ?_)
    refine GP.take rfl rfl (Does.move rfl ?_)
    refine GP.take rfl rfl (Does.nilCheck rfl ?_)
    refine GP.take rfl rfl (Does.fieldAddr rfl fo71_1 ?_)
    refine GP.take rfl rfl (Does.load1 rfl ft69 (CellIn.own (by first | exact .head _ | exact .tail _ (.head _) | exact .tail _ (.tail _ (.head _)) | exact .tail _ (.tail _ (.tail _ (.head _))) | exact .tail _ (.tail _ (.tail _ (.tail _ (.head _)))) | exact .tail _ (.tail _ (.tail _ (.tail _ (.tail _ (.head _)))))) rfl) ?_)
    refine GP.take rfl rfl (Does.len rfl is69 ?_)
    refine GP.take rfl rfl (Does.lss rfl rfl hg ?_)
    refine GP.take rfl rfl (Does.move rfl ?_)
    refine GP.takeG rfl rfl rfl rfl (Does.move rfl ?_)
    refine GP.takeG rfl rfl rfl rfl (Does.move rfl ?_)
    refine GP.takeG rfl rfl rfl rfl (Does.add rfl rfl (r := ((2 * i + 2 : Nat) : Int)) (wrc_i64 (by omega) (by omega) (by omega)) ?_)
    refine GP.takeG rfl rfl rfl rfl (Does.move rfl ?_)
    refine GP.takeG rfl rfl rfl rfl (Does.callF [] ((hb, cel 71 [.func (.func g) fs cs, .slice (some ⟨ib, 0, none⟩) its.length cap, .int .u64 came]) :: (ib, cel 73 (its.flatMap row1 ++ sp)) :: E c1) (.cons rfl (.cons rfl (.cons rfl .nil))) cb49 rfl (ahead1 hc hb ib cap came its sp c1 (2 * i + 2) (2 * i + 1) hk2 hlt) (fun _ _ => trivial) ?_)
    rintro _ _ ⟨rfl, rfl⟩
    simp only [List.nil_append]
    refine GP.take rfl rfl (Does.pickB rfl rfl rfl ?_)
    refine GP.keep [(0, _), (2, _), (3, _), (13, _), (28, _)] (.cons rfl (.cons rfl (.cons rfl (.cons rfl (.cons rfl .nil))))) ?_
    repeat refine G.seq ?_
    refine G.condB rfl ?_ ?_
    · intro hb1
      have ha : ahB cmp (at_ its (2 * i + 2)) (at_ its (2 * i + 1)) = true := by simpa using hb1
      have hkd : kid cmp its i = (2 * i + 2, 1) := by unfold kid; rw [if_pos hk2, if_pos ha]
      rw [hkd] at key
      refine G.region [.loc, .loc, .loc] (.take 0 (.take 1 (.take 2 .done))) rfl ?_
      refine GP.take rfl rfl (Does.move rfl ?_)
      refine GP.take rfl rfl (Does.add rfl rfl (r := ((2 * i + 2 : Nat) : Int)) (wrc_i64 (by omega) (by omega) (by omega)) ?_)
      refine GP.take rfl rfl (Does.assign rfl ?_)
      refine GP.keep [(0, _), (2, _), (3, _)] (.cons rfl (.cons rfl (.cons rfl .nil))) ?_
      exact key () trivial
    · intro hb1
      have ha : ahB cmp (at_ its (2 * i + 2)) (at_ its (2 * i + 1)) = false := by simpa using hb1
      have hkd : kid cmp its i = (2 * i + 1, 1) := by unfold kid; rw [if_pos hk2, if_neg (by simp [ha])]
      rw [hkd] at key
      refine G.skip ?_
      exact (key () trivial).weak (.cons rfl (.cons rfl (.cons rfl .nil)))
  · have hg : decide (((2 * i + 2 : Nat) : Int) < (its.length : Int)) = false := decide_eq_false (by omega)
    have hkd : kid cmp its i = (2 * i + 1, 0) := by unfold kid; rw [if_neg hk2]
    rw [hkd] at key
    refine G.region [.loc, .loc, .loc, .loc, .loc, .gen, .loc, .loc, .loc, .loc, .loc, .loc, .loc, .gen, .loc] (.take 0 (.take 1 (.take 2 (.take 3 (.take 4 (.take 5 (.take 6 (.take 7 (.take 8 (.take 9 (.take 10 (.take 11 (.take 12 (.take 13 (.take 14 .done))))))))))))))) rfl ?_
    refine GP.take rfl rfl (Does.move rfl ?_)
    refine GP.take rfl rfl (Does.add rfl rfl (r := ((2 * i + 2 : Nat) : Int)) (wrc_i64 (by omega) (by omega) (by omega)) ?_)
    refine GP.take rfl rfl (Does.move rfl ?_)
    refine GP.take rfl rfl (Does.nilCheck rfl ?_)
    refine GP.take rfl rfl (Does.fieldAddr rfl fo71_1 ?_)
    refine GP.take rfl rfl (Does.load1 rfl ft69 (CellIn.own (by first | exact .head _ | exact .tail _ (.head _) | exact .tail _ (.tail _ (.head _)) | exact .tail _ (.tail _ (.tail _ (.head _))) | exact .tail _ (.tail _ (.tail _ (.tail _ (.head _)))) | exact .tail _ (.tail _ (.tail _ (.tail _ (.tail _ (.head _)))))) rfl) ?_)
    refine GP.take rfl rfl (Does.len rfl is69 ?_)
    refine GP.take rfl rfl (Does.lss rfl rfl hg ?_)
    refine GP.take rfl rfl (Does.move rfl ?_)
    refine GP.pass rfl rfl rfl rfl rfl ?_
    refine GP.pass rfl rfl rfl rfl rfl ?_
    refine GP.pass rfl rfl rfl rfl rfl ?_
    refine GP.pass rfl rfl rfl rfl rfl ?_
    refine GP.pass rfl rfl rfl rfl rfl ?_
    refine GP.take rfl rfl (Does.pickF rfl rfl ?_)
    refine GP.keep [(0, _), (2, _), (3, _), (13, _), (28, _)] (.cons rfl (.cons rfl (.cons rfl (.cons rfl (.cons rfl .nil))))) ?_
    repeat refine G.seq ?_
    refine G.condF rfl ?_
    refine G.skip ?_
    exact (key () trivial).weak (.cons rfl (.cons rfl (.cons rfl .nil)))
theorem up1 {g : FuncId} {fs cs : Array Value} {E : Nat → Chunks} {cmp : Int × Int → Int × Int → Int} (hc : CmpOk Try.prog g fs cs E enc1 cmp) (hb ib cap : Nat) (came : Int) (items : List ((Int × Int) × Nat)) (sp : List Value) (c i0 : Nat) (hi0 : i0 < items.length) (hbig : items.length ≤ 4294967296) :
    Ct Try.prog 51 [.pointer (some ⟨hb, 0, none⟩), .int .i64 (i0 : Int)].toArray (fun _ => True) ((hb, cel 71 [.func (.func g) fs cs, .slice (some ⟨ib, 0, none⟩) items.length cap, .int .u64 came]) :: (ib, cel 73 (items.flatMap row1 ++ sp)) :: E c) (fun v C' => v = .tuple #[] ∧ C' = (hb, cel 71 [.func (.func g) fs cs, .slice (some ⟨ib, 0, none⟩) (upF cmp items.length items i0).1.length cap, .int .u64 came]) :: (ib, cel 73 ((upF cmp items.length items i0).1.flatMap row1 ++ sp)) :: E (c + (upF cmp items.length items i0).2)) := by
  refine ct_of_walk (fn := Try.f51) Try.func51 rfl rfl fun w0 _ hst => ?_
  clear hst
  repeat refine G.seq ?_
  refine G.block ?_
  refine G.loop (S := List ((Int × Int) × Nat) × Nat × Nat × Nat) (fun s => [(0, .pointer (some ⟨hb, 0, none⟩)), (1, .int .i64 (s.2.1 : Int))]) (fun s => (hb, cel 71 [.func (.func g) fs cs, .slice (some ⟨ib, 0, none⟩) s.1.length cap, .int .u64 came]) :: (ib, cel 73 (s.1.flatMap row1 ++ sp)) :: E s.2.2.1)
    (fun s => s.1.length = items.length ∧ s.2.1 < items.length ∧ s.2.1 ≤ s.2.2.2 ∧ (upF cmp s.2.2.2 s.1 s.2.1).1 = (upF cmp items.length items i0).1 ∧ s.2.2.1 + (upF cmp s.2.2.2 s.1 s.2.1).2 = c + (upF cmp items.length items i0).2)
    (fun s => s.2.1) (items, i0, c, items.length) ⟨rfl, hi0, by simp only; omega, rfl, rfl⟩ (.cons rfl (.cons rfl .nil)) .all ?_
  rintro ⟨its, i, c1, f⟩ ⟨hlen, hi, hf, h1, h2⟩ IH
  simp only at hlen hi hf h1 h2 IH ⊢
  repeat refine G.seq ?_
  refine G.region [.loc, .loc] (.take 0 (.take 1 .done)) rfl ?_
  refine GP.take rfl rfl (Does.move rfl ?_)
  refine GP.take rfl rfl (Does.gtr rfl rfl rfl ?_)
  refine GP.keep [(0, _), (1, _), (6, _)] (.cons rfl (.cons rfl (.cons rfl .nil))) ?_
  repeat refine G.seq ?_
  refine G.cond rfl ?_ ?_
  case refine_2 =>
    intro hz
    obtain rfl : i = 0 := by omega
    rw [upF_zero] at h1 h2
    simp only at h1 h2
    refine G.exit rfl ?_
    refine fin_end (fn := Try.f51) (A := (hb, cel 71 [.func (.func g) fs cs, .slice (some ⟨ib, 0, none⟩) its.length cap, .int .u64 came]) :: (ib, cel 73 (its.flatMap row1 ++ sp)) :: E c1) (R := []) Try.func51 (res0 rfl) .all ⟨rfl, ?_⟩
    rw [← h1, ← h2, Nat.add_zero]
  intro hz
  refine G.skip ?_
  refine G.block ?_
  repeat refine G.seq ?_
  refine G.region [.loc, .loc, .loc, .loc] (.take 0 (.take 1 (.take 2 (.take 3 .done)))) rfl ?_
  refine GP.take rfl rfl (Does.move rfl ?_)
  refine GP.take rfl rfl (Does.sub rfl rfl (r := ((i - 1 : Nat) : Int)) (wrc_i64 (by omega) (by omega) (by omega)) ?_)
  refine GP.take rfl rfl (Does.quo rfl rfl (by omega) (r := (((i - 1) / 2 : Nat) : Int)) (by rw [show ((i - 1 : Nat) : Int).tdiv 2 = (((i - 1) / 2 : Nat) : Int) from rfl]; exact wr_i64 (by omega) (by omega)) ?_)
  refine GP.take rfl rfl (Does.assign rfl ?_)
  refine GP.keep [(0, _), (1, _), (4, _), (6, _)] (.cons rfl (.cons rfl (.cons rfl (.cons rfl .nil)))) ?_
  repeat refine G.seq ?_
  refine G.region [.loc, .loc, .loc, .gen, .loc] (.take 0 (.take 1 (.take 2 (.take 3 (.take 4 .done))))) rfl ?_
  refine GP.take rfl rfl (Does.move rfl ?_)
  refine GP.take rfl rfl (Does.move rfl ?_)
  refine GP.take rfl rfl (Does.move rfl ?_)
  refine GP.take rfl rfl (Does.callF [] ((hb, cel 71 [.func (.func g) fs cs, .slice (some ⟨ib, 0, none⟩) its.length cap, .int .u64 came]) :: (ib, cel 73 (its.flatMap row1 ++ sp)) :: E c1) (.cons rfl (.cons rfl (.cons rfl .nil))) cb49 rfl (ahead1 hc hb ib cap came its sp c1 i ((i - 1) / 2) (by omega) (by omega)) (fun _ _ => trivial) ?_)
  rintro _ _ ⟨rfl, rfl⟩
  simp only [List.nil_append]
  refine GP.take rfl rfl (Does.not rfl rfl ?_)
  refine GP.keep [(0, _), (1, _), (4, _), (6, _), (14, _)] (.cons rfl (.cons rfl (.cons rfl (.cons rfl (.cons rfl .nil))))) ?_
  repeat refine G.seq ?_
  refine G.condB rfl ?_ ?_
  · intro hb1
    have ha : ahB cmp (at_ its i) (at_ its ((i - 1) / 2)) = false := by simpa using hb1
    have hs := upF_no cmp f its i (by omega) (by omega) ha
    rw [hs] at h1 h2
    simp only at h1 h2
    refine fin_ret (fn := Try.f51) (A := (hb, cel 71 [.func (.func g) fs cs, .slice (some ⟨ib, 0, none⟩) its.length cap, .int .u64 came]) :: (ib, cel 73 (its.flatMap row1 ++ sp)) :: E (c1 + 1)) (R := []) Try.func51 (res0 rfl) .all ⟨rfl, ?_⟩
    rw [← h1, ← h2]
  · intro hb1
    have ha : ahB cmp (at_ its i) (at_ its ((i - 1) / 2)) = true := by simpa using hb1
    have hs := upF_yes cmp f its i (by omega) (by omega) ha
    rw [hs] at h1 h2
    simp only at h1 h2
    refine G.skip ?_
    repeat refine G.seq ?_
    refine G.region [.loc, .loc, .loc, .gen] (.take 0 (.take 1 (.take 2 (.take 3 .done)))) rfl ?_
    refine GP.take rfl rfl (Does.move rfl ?_)
    refine GP.take rfl rfl (Does.move rfl ?_)
    refine GP.take rfl rfl (Does.move rfl ?_)
    refine GP.take rfl rfl (Does.callG [] ((hb, cel 71 [.func (.func g) fs cs, .slice (some ⟨ib, 0, none⟩) its.length cap, .int .u64 came]) :: (ib, cel 73 (its.flatMap row1 ++ sp)) :: []) (E (c1 + 1)) (.cons rfl (.cons rfl (.cons rfl .nil))) cb50 rfl (exchange1 hb ib cap came its sp (fs := fs) (cs := cs) (g := g) i ((i - 1) / 2) (by omega) (by omega)) (fun _ _ => trivial) ?_)
    rintro _ _ ⟨rfl, rfl⟩
    simp only [List.nil_append, List.cons_append]
    refine GP.keep [(0, _), (1, _), (4, _), (6, _), (14, _)] (.cons rfl (.cons rfl (.cons rfl (.cons rfl (.cons rfl .nil))))) ?_
    repeat refine G.seq ?_
    refine G.region [.loc, .loc] (.take 0 (.take 1 .done)) rfl ?_
    refine GP.take rfl rfl (Does.move rfl ?_)
    refine GP.take rfl rfl (Does.assign rfl ?_)
    refine GP.keep [(0, _), (1, _)] (.cons rfl (.cons rfl .nil)) ?_
    refine G.inBlock ?_
    exact IH (swp its i ((i - 1) / 2), (i - 1) / 2, c1 + 1, f - 1) ⟨by simp [swp_length, hlen], by simp only; omega, by simp only; omega, h1, by rw [← h2]; simp only; omega⟩ (by simp only; omega)
theorem len1 {g : FuncId} {fs cs : Array Value} (hb : Nat) (items : List ((Int × Int) × Nat)) (came : Nat) (C0 : Chunks) (h : HRep 71 73 row1 3 hb (.func (.func g) fs cs) items came C0) :
    Ct Try.prog 15 [.pointer (some ⟨hb, 0, none⟩)].toArray (fun _ => True) C0 (fun v C' => v = .int .i64 (items.length : Int) ∧ C' = C0) := by
  have hx : ∃ ad cap Cr, C0 = (hb, cel 71 [(.func (.func g) fs cs), .slice ad items.length cap, .int .u64 (came : Int)]) :: Cr := by
    obtain ⟨sv, Cr, rfl, ho⟩ := h
    generalize items.flatMap row1 = q2 at ho
    generalize items.length = q at ho ⊢
    cases ho with
    | nil => exact ⟨_, _, _, rfl⟩
    | blk h h1 h2 h3 => exact ⟨_, _, _, rfl⟩
  obtain ⟨ad, cap, Cr, rfl⟩ := hx
  refine ct_of_walk (fn := Try.f15) Try.func15 rfl rfl fun w0 _ hst => ?_
  clear hst
  repeat refine G.seq ?_
  refine G.region [.loc] (.take 0 .done) rfl ?_
  refine GP.take rfl rfl (Does.assign rfl ?_)
  refine GP.keep [(0, _), (2, _)] (.cons rfl (.cons rfl .nil)) ?_
  repeat refine G.seq ?_
  refine G.region [.loc, .loc, .loc, .gen, .loc, .loc] (.take 0 (.take 1 (.take 2 (.take 3 (.take 4 (.take 5 .done)))))) rfl ?_
  refine GP.take rfl rfl (Does.move rfl ?_)
  refine GP.take rfl rfl (Does.nilCheck rfl ?_)
  refine GP.take rfl rfl (Does.fieldAddr rfl fo71_1 ?_)
  refine GP.take rfl rfl (Does.load1 rfl ft69 (CellIn.own (by first | exact .head _ | exact .tail _ (.head _) | exact .tail _ (.tail _ (.head _)) | exact .tail _ (.tail _ (.tail _ (.head _))) | exact .tail _ (.tail _ (.tail _ (.tail _ (.head _)))) | exact .tail _ (.tail _ (.tail _ (.tail _ (.tail _ (.head _)))))) rfl) ?_)
  refine GP.take rfl rfl (Does.len rfl is69 ?_)
  refine GP.take rfl rfl (Does.assign rfl ?_)
  refine GP.keep [(0, _), (2, _)] (.cons rfl (.cons rfl .nil)) ?_
  exact fin_ret (fn := Try.f15) (R := []) Try.func15 (res1 rfl rfl) .all ⟨rfl, rfl⟩
theorem peek1 {g : FuncId} {fs cs : Array Value} (hb : Nat) (items : List ((Int × Int) × Nat)) (came : Nat) (C0 : Chunks) (h : HRep 71 73 row1 3 hb (.func (.func g) fs cs) items came C0) :
    Ct Try.prog 21 [.pointer (some ⟨hb, 0, none⟩)].toArray (fun _ => True) C0 (fun v C' => v = .tuple #[.agg (enc1 (firstF items)).toArray, .bool (!items.isEmpty)] ∧ C' = C0) := by
  cases items with
  | nil =>
    obtain ⟨ad, cap, Cr, rfl⟩ := h.empty
    refine ct_of_walk (fn := Try.f21) Try.func21 rfl rfl fun w0 _ hst => ?_
    clear hst
    repeat refine G.seq ?_
    refine G.region [.alloc, .loc] (.take 0 (.take 1 .done)) rfl ?_
    refine GP.take rfl rfl (Does.alloc zl31 fun b2 Nb2 hb2 nb2 => ?_)
    refine GP.take rfl rfl (Does.assign rfl ?_)
    refine GP.keep [(0, _), (2, _), (3, _)] (.cons rfl (.cons rfl (.cons rfl .nil))) ?_
    repeat refine G.seq ?_
    refine G.region [.loc, .loc, .loc, .gen, .loc, .loc] (.take 0 (.take 1 (.take 2 (.take 3 (.take 4 (.take 5 .done)))))) rfl ?_
    refine GP.take rfl rfl (Does.move rfl ?_)
    refine GP.take rfl rfl (Does.nilCheck rfl ?_)
    refine GP.take rfl rfl (Does.fieldAddr rfl fo71_1 ?_)
    refine GP.take rfl rfl (Does.load1 rfl ft69 (CellIn.own (by first | exact .head _ | exact .tail _ (.head _) | exact .tail _ (.tail _ (.head _)) | exact .tail _ (.tail _ (.tail _ (.head _))) | exact .tail _ (.tail _ (.tail _ (.tail _ (.head _)))) | exact .tail _ (.tail _ (.tail _ (.tail _ (.tail _ (.head _)))))) rfl) ?_)
    refine GP.take rfl rfl (Does.len rfl is69 ?_)
    refine GP.take rfl rfl (Does.eql rfl rfl rfl ?_)
    refine GP.keep [(0, _), (2, _), (3, _), (10, _)] (.cons rfl (.cons rfl (.cons rfl (.cons rfl .nil)))) ?_
    repeat refine G.seq ?_
    refine G.condT rfl ?_
    repeat refine G.seq ?_
    refine G.region [.alloc] (.take 0 .done) rfl ?_
    refine GP.take rfl rfl (Does.alloc zl31 fun b4 Nb4 hb4 nb4 => ?_)
    refine GP.keep [(0, _), (2, _), (3, _), (4, _), (10, _)] (.cons rfl (.cons rfl (.cons rfl (.cons rfl (.cons rfl .nil))))) ?_
    repeat refine G.seq ?_
    refine G.region [.gen, .gen, .loc] (.take 0 (.take 1 (.take 2 .done))) rfl ?_
    refine GP.take rfl rfl (Does.loadA (vs := [_, _]) rfl ag31 (RowIn.own (by first | exact .head _ | exact .tail _ (.head _) | exact .tail _ (.tail _ (.head _)) | exact .tail _ (.tail _ (.tail _ (.head _))) | exact .tail _ (.tail _ (.tail _ (.tail _ (.head _)))) | exact .tail _ (.tail _ (.tail _ (.tail _ (.tail _ (.head _)))))) rfl) ?_)
    refine GP.take0 rfl (Does.storeA rfl rfl sz31 (by first | exact .head | exact .tail .head | exact .tail (.tail .head) | exact .tail (.tail (.tail .head)) | exact .tail (.tail (.tail (.tail .head))) | exact .tail (.tail (.tail (.tail (.tail .head))))) (.cons rfl .head (.cons rfl (.tail .head) .nil)) ?_)
    refine GP.take rfl rfl (Does.assign rfl ?_)
    refine GP.keep [(0, _), (2, _), (3, _), (4, _), (10, _)] (.cons rfl (.cons rfl (.cons rfl (.cons rfl (.cons rfl .nil))))) ?_
    exact fin_ret (fn := Try.f21) Try.func21 (fun a w hs => resc1 (n := 0) (vs := [_, _]) rfl hs rfl ag31 rfl rfl (RowIn.own (by first | exact .head _ | exact .tail _ (.head _) | exact .tail _ (.tail _ (.head _)) | exact .tail _ (.tail _ (.tail _ (.head _))) | exact .tail _ (.tail _ (.tail _ (.tail _ (.head _)))) | exact .tail _ (.tail _ (.tail _ (.tail _ (.tail _ (.head _)))))) rfl)) .split2 ⟨rfl, rfl⟩
  | cons x0 xs0 =>
    obtain ⟨ib, cap, sp, rfl, hcap, hsp⟩ := h.full (by simp)
    generalize hits : x0 :: xs0 = items at *
    have hlen : 0 < items.length := by rw [← hits]; simp
    have hemp : items.isEmpty = false := by rw [← hits]; rfl
    clear hits
    refine ct_of_walk (fn := Try.f21) Try.func21 rfl rfl fun w0 _ hst => ?_
    clear hst
    repeat refine G.seq ?_
    refine G.region [.alloc, .loc] (.take 0 (.take 1 .done)) rfl ?_
    refine GP.take rfl rfl (Does.alloc zl31 fun b2 Nb2 hb2 nb2 => ?_)
    refine GP.take rfl rfl (Does.assign rfl ?_)
    refine GP.keep [(0, _), (2, _), (3, _)] (.cons rfl (.cons rfl (.cons rfl .nil))) ?_
    repeat refine G.seq ?_
    refine G.region [.loc, .loc, .loc, .gen, .loc, .loc] (.take 0 (.take 1 (.take 2 (.take 3 (.take 4 (.take 5 .done)))))) rfl ?_
    refine GP.take rfl rfl (Does.move rfl ?_)
    refine GP.take rfl rfl (Does.nilCheck rfl ?_)
    refine GP.take rfl rfl (Does.fieldAddr rfl fo71_1 ?_)
    refine GP.take rfl rfl (Does.load1 rfl ft69 (CellIn.own (by first | exact .head _ | exact .tail _ (.head _) | exact .tail _ (.tail _ (.head _)) | exact .tail _ (.tail _ (.tail _ (.head _))) | exact .tail _ (.tail _ (.tail _ (.tail _ (.head _)))) | exact .tail _ (.tail _ (.tail _ (.tail _ (.tail _ (.head _)))))) rfl) ?_)
    refine GP.take rfl rfl (Does.len rfl is69 ?_)
    refine GP.take rfl rfl (Does.eql rfl rfl (decide_eq_false (by omega)) ?_)
    refine GP.keep [(0, _), (2, _), (3, _), (10, _)] (.cons rfl (.cons rfl (.cons rfl (.cons rfl .nil)))) ?_
    repeat refine G.seq ?_
    refine G.condF rfl ?_
    refine G.skip ?_
    repeat refine G.seq ?_
    refine G.region [.loc, .loc, .loc, .gen, .loc, .loc, .gen, .gen, .loc] (.take 0 (.take 1 (.take 2 (.take 3 (.take 4 (.take 5 (.take 6 (.take 7 (.take 8 .done))))))))) rfl ?_
    refine GP.take rfl rfl (Does.move rfl ?_)
    refine GP.take rfl rfl (Does.nilCheck rfl ?_)
    refine GP.take rfl rfl (Does.fieldAddr rfl fo71_1 ?_)
    refine GP.take rfl rfl (Does.load1 rfl ft69 (CellIn.own (by first | exact .head _ | exact .tail _ (.head _) | exact .tail _ (.tail _ (.head _)) | exact .tail _ (.tail _ (.tail _ (.head _))) | exact .tail _ (.tail _ (.tail _ (.tail _ (.head _)))) | exact .tail _ (.tail _ (.tail _ (.tail _ (.tail _ (.head _)))))) rfl) ?_)
    refine GP.take rfl rfl (Does.indexAddr 0 rfl rfl sl69 rfl hlen ?_)
    refine GP.take rfl rfl (Does.fieldAddr rfl fo73_0 ?_)
    refine GP.take rfl rfl (Does.loadA (vs := [.int .i64 (at_ items 0).1.1, .int .i64 (at_ items 0).1.2]) rfl ag31 (RowIn.own (l := items.flatMap row1 ++ sp) (by first | exact .head _ | exact .tail _ (.head _) | exact .tail _ (.tail _ (.head _)) | exact .tail _ (.tail _ (.tail _ (.head _))) | exact .tail _ (.tail _ (.tail _ (.tail _ (.head _)))) | exact .tail _ (.tail _ (.tail _ (.tail _ (.tail _ (.head _)))))) (row1_el items sp 0 hlen)) ?_)
    refine GP.take0 rfl (Does.storeA rfl rfl sz31 (by first | exact .head | exact .tail .head | exact .tail (.tail .head) | exact .tail (.tail (.tail .head)) | exact .tail (.tail (.tail (.tail .head))) | exact .tail (.tail (.tail (.tail (.tail .head))))) (.cons rfl .head (.cons rfl (.tail .head) .nil)) ?_)
    refine GP.take rfl rfl (Does.assign rfl ?_)
    refine GP.keep [(0, _), (2, _), (3, _), (10, _)] (.cons rfl (.cons rfl (.cons rfl (.cons rfl .nil)))) ?_
    exact fin_ret (fn := Try.f21) Try.func21 (fun a w hs => resc1 (n := 0) (vs := [_, _]) rfl hs rfl ag31 rfl rfl (RowIn.own (by first | exact .head _ | exact .tail _ (.head _) | exact .tail _ (.tail _ (.head _)) | exact .tail _ (.tail _ (.tail _ (.head _))) | exact .tail _ (.tail _ (.tail _ (.tail _ (.head _)))) | exact .tail _ (.tail _ (.tail _ (.tail _ (.tail _ (.head _)))))) rfl)) .split1 ⟨by rw [hemp]; rfl, rfl⟩
theorem put1 {g : FuncId} {fs cs : Array Value} {E : Nat → Chunks} {cmp : Int × Int → Int × Int → Int} (hc : CmpOk Try.prog g fs cs E enc1 cmp) (hb : Nat) (items : List ((Int × Int) × Nat)) (came : Nat) (C0 : Chunks) (h : HRep 71 73 row1 3 hb (.func (.func g) fs cs) items came C0) (c : Nat) (x : Int × Int) (nth : Nat) (hbig : items.length < 4294967296) :
    Ct Try.prog 42 [.pointer (some ⟨hb, 0, none⟩), .agg (enc1 x).toArray, .int .u64 (nth : Int)].toArray (fun _ => True) (C0 ++ E c) (fun v C' => v = .tuple #[] ∧ ∃ C1, HRep 71 73 row1 3 hb (.func (.func g) fs cs) (putF cmp items x nth).1 came C1 ∧ C' = C1 ++ E (c + (putF cmp items x nth).2)) := by
  have hl : (items ++ [(x, nth)]).length = items.length + 1 := by simp
  have hput : putF cmp items x nth = upF cmp (items ++ [(x, nth)]).length (items ++ [(x, nth)]) items.length := by simp [putF]
  have hfl : items.flatMap row1 ++ [.int .i64 (x, nth).1.1, .int .i64 (x, nth).1.2, .int .u64 (x, nth).2] = (items ++ [(x, nth)]).flatMap row1 := by simp [row1]
  rw [hput]
  clear hput
  obtain ⟨sv, Cr, rfl, ho⟩ := h
  show Ct _ _ _ _ ((hb, cel 71 [(.func (.func g) fs cs), sv, .int .u64 (came : Int)]) :: (Cr ++ E c)) _
  refine ct_of_walk (fn := Try.f42) Try.func42 rfl rfl fun w0 _ hst => ?_
  clear hst
  repeat refine G.seq ?_
  refine G.region [.alloc] (.take 0 .done) rfl ?_
  refine GP.take rfl rfl (Does.box (T := 31) rfl rfl fun b4 Nb4 hb4 nb4 => ?_)
  refine GP.keep [(0, _), (1, _), (2, _), (4, _)] (.cons rfl (.cons rfl (.cons rfl (.cons rfl .nil)))) ?_
  repeat refine G.seq ?_
  refine G.draw [.loc, .loc, .loc, .loc, .load, .load, .loc, .loc, .alloc, .gen, .loc, .loc, .gen] (.take 0 (.take 1 (.take 2 (.take 3 (.take 6 (.take 4 (.take 5 (.take 7 (.alt 8 (.alt 9 (.take 10 (.take 11 (.alt 12 .done .stop))) .stop) .stop))))))))) (by exact mixed) (by kernel_rfl) ?_
  intro N hN0 hN
  refine GP.take rfl rfl (Does.move rfl ?_)
  refine GP.take rfl rfl (Does.move rfl ?_)
  refine GP.take rfl rfl (Does.nilCheck rfl ?_)
  refine GP.take rfl rfl (Does.fieldAddr rfl fo71_1 ?_)
  refine GP.take rfl rfl (Does.move rfl ?_)
  refine GP.take rfl rfl (Does.load1N rfl ft69 (by first | exact hN _ (.head _) | exact hN _ (.tail _ (.head _)) | exact hN _ (.tail _ (.tail _ (.head _))) | exact hN _ (.tail _ (.tail _ (.tail _ (.head _)))) | exact hN _ (.tail _ (.tail _ (.tail _ (.tail _ (.head _))))) | exact hN _ (.tail _ (.tail _ (.tail _ (.tail _ (.tail _ (.head _)))))) | exact hN _ (.tail _ (.tail _ (.tail _ (.tail _ (.tail _ (.tail _ (.head _)))))))) (CellIn.own (by first | exact .head _ | exact .tail _ (.head _) | exact .tail _ (.tail _ (.head _)) | exact .tail _ (.tail _ (.tail _ (.head _))) | exact .tail _ (.tail _ (.tail _ (.tail _ (.head _)))) | exact .tail _ (.tail _ (.tail _ (.tail _ (.tail _ (.head _)))))) rfl) ?_)
  refine GP.take rfl rfl (Does.loadAN (vs := [.int .i64 x.1, .int .i64 x.2]) rfl ag31 (by first | exact hN _ (.head _) | exact hN _ (.tail _ (.head _)) | exact hN _ (.tail _ (.tail _ (.head _))) | exact hN _ (.tail _ (.tail _ (.tail _ (.head _)))) | exact hN _ (.tail _ (.tail _ (.tail _ (.tail _ (.head _))))) | exact hN _ (.tail _ (.tail _ (.tail _ (.tail _ (.tail _ (.head _)))))) | exact hN _ (.tail _ (.tail _ (.tail _ (.tail _ (.tail _ (.tail _ (.head _)))))))) (RowIn.own (by first | exact .head _ | exact .tail _ (.head _) | exact .tail _ (.tail _ (.head _)) | exact .tail _ (.tail _ (.tail _ (.head _))) | exact .tail _ (.tail _ (.tail _ (.tail _ (.head _)))) | exact .tail _ (.tail _ (.tail _ (.tail _ (.tail _ (.head _)))))) rfl) ?_)
  refine GP.take rfl rfl (Does.build (r := [_, _, _]) (.cons rfl (.cons rfl .nil)) sp73 zl73 rfl ?_)
  refine GP.one ?_
  refine GP.take rfl rfl (Does.buildSlice (r := [_, _, _]) (.cons rfl .nil) sl69 zl73 (by decide) rfl fun b14 N14 h14 n14 => ?_)
  refine GP.one ?_
  refine GP.take rfl rfl (Does.append rfl rfl si69 zl73 (ho.frame [(b14, _), (b4, _), (hb, _)] (E c)) (RowIn.own (vs := [.int .i64 (x, nth).1.1, .int .i64 (x, nth).1.2, .int .u64 (x, nth).2]) (by first | exact .head _ | exact .tail _ (.head _) | exact .tail _ (.tail _ (.head _)) | exact .tail _ (.tail _ (.tail _ (.head _))) | exact .tail _ (.tail _ (.tail _ (.tail _ (.head _)))) | exact .tail _ (.tail _ (.tail _ (.tail _ (.tail _ (.head _)))))) rfl) rfl (row1_one (x, nth)) (by omega) rfl (by decide) (by omega) ?_)
  intro rb rcap sp hr1 hr2
  simp only [List.cons_append, List.nil_append]
  rw [hfl, ← hl]
  refine GP.reord (A := [(b14, _), (b4, _), (hb, _)]) (.cons (.tail .head) (.cons (.tail .head) (.cons (.tail .head) .nil))) rfl ?_
  refine GP.take rfl rfl (Does.nilCheck rfl ?_)
  refine GP.take rfl rfl (Does.fieldAddr rfl fo71_1 ?_)
  refine GP.one ?_
  refine GP.take0 rfl (Does.store1 rfl rfl sz69 rfl (by first | exact .head | exact .tail .head | exact .tail (.tail .head) | exact .tail (.tail (.tail .head)) | exact .tail (.tail (.tail (.tail .head))) | exact .tail (.tail (.tail (.tail (.tail .head))))) (by first | exact .head | exact .tail .head | exact .tail (.tail .head) | exact .tail (.tail (.tail .head))) ?_)
  refine GP.keep [(0, _)] (.cons rfl .nil) ?_
  repeat refine G.seq ?_
  show G _ _ _ _ ((b14, _) :: (b4, _) :: (hb, cel 71 [.func (.func g) fs cs, .slice (some ⟨rb, 0, none⟩) (items ++ [(x, nth)]).length rcap, .int .u64 came]) :: (rb, cel 73 ((items ++ [(x, nth)]).flatMap row1 ++ sp)) :: E c)
  refine G.region [.loc, .loc, .loc, .loc, .gen, .loc, .loc, .gen] (.take 0 (.take 1 (.take 2 (.take 3 (.take 4 (.take 5 (.take 6 (.take 7 .done)))))))) rfl ?_
  refine GP.take rfl rfl (Does.move rfl ?_)
  refine GP.take rfl rfl (Does.move rfl ?_)
  refine GP.take rfl rfl (Does.nilCheck rfl ?_)
  refine GP.take rfl rfl (Does.fieldAddr rfl fo71_1 ?_)
  refine GP.take rfl rfl (Does.load1 rfl ft69 (CellIn.own (by first | exact .head _ | exact .tail _ (.head _) | exact .tail _ (.tail _ (.head _)) | exact .tail _ (.tail _ (.tail _ (.head _))) | exact .tail _ (.tail _ (.tail _ (.tail _ (.head _)))) | exact .tail _ (.tail _ (.tail _ (.tail _ (.tail _ (.head _)))))) rfl) ?_)
  refine GP.take rfl rfl (Does.len rfl is69 ?_)
  refine GP.take rfl rfl (Does.sub rfl rfl (r := ((items.length : Nat) : Int)) (wrc_i64 (by omega) (by omega) (by omega)) ?_)
  refine GP.take rfl rfl (Does.callF [(b14, _), (b4, _)] ((hb, cel 71 [.func (.func g) fs cs, .slice (some ⟨rb, 0, none⟩) (items ++ [(x, nth)]).length rcap, .int .u64 came]) :: (rb, cel 73 ((items ++ [(x, nth)]).flatMap row1 ++ sp)) :: E c) (.cons rfl (.cons rfl .nil)) cb51 rfl (up1 hc hb rb rcap came (items ++ [(x, nth)]) sp c items.length (by omega) (by omega)) (fun _ _ => trivial) ?_)
  rintro _ _ ⟨rfl, rfl⟩
  simp only [List.nil_append, List.cons_append]
  refine GP.keep [(0, _)] (.cons rfl .nil) ?_
  refine fin_end (fn := Try.f42) Try.func42 (res0 rfl) .split2 ⟨rfl, [(hb, _), (rb, _)], HRep.mk (ib := rb) (cap := rcap) (sp := sp) row1_length ?_ ?_, rfl⟩
  · rw [upF_length, hl]; exact hr1
  · rw [upF_length, hl]; exact hr2
theorem enc1_length (x : Int × Int) : (enc1 x).length = 2 := rfl
theorem push1 {g : FuncId} {fs cs : Array Value} {E : Nat → Chunks} {cmp : Int × Int → Int × Int → Int} (hc : CmpOk Try.prog g fs cs E enc1 cmp) (hb : Nat) (items : List ((Int × Int) × Nat)) (came : Nat) (C0 : Chunks) (h : HRep 71 73 row1 3 hb (.func (.func g) fs cs) items came C0) (c : Nat) (l : List (Int × Int)) (ad : Option Addr) (lcap lb lo : Nat) (had : l ≠ [] → ad = some ⟨lb, lo, none⟩) (hlb : l ≠ [] → lb ∉ (C0 ++ E c).map Prod.fst) (hbig : items.length + l.length ≤ 4294967296) (hcame : came + l.length ≤ 9223372036854775807) :
    Ct Try.prog 20 [.pointer (some ⟨hb, 0, none⟩), .slice ad l.length lcap].toArray (fun w => ∀ i v, (l.flatMap enc1)[i]? = some v → w.cell? ⟨lb, lo + i, none⟩ = some v) (C0 ++ E c)
      (fun v C' => v = .tuple #[] ∧ ∃ C1, HRep 71 73 row1 3 hb (.func (.func g) fs cs) (pushF cmp items came l).1 (pushF cmp items came l).2.1 C1 ∧ C' = C1 ++ E (c + (pushF cmp items came l).2.2)) := by
  refine ct_of_walk (fn := Try.f20) Try.func20 rfl rfl fun w0 hpre hst => ?_
  clear hst
  repeat refine G.seq ?_
  refine G.region [.loc, .loc, .loc] (.take 0 (.take 1 (.take 2 .done))) rfl ?_
  refine GP.take rfl rfl (Does.move rfl ?_)
  refine GP.take rfl rfl (Does.len rfl is34 ?_)
  refine GP.take rfl rfl (Does.move rfl ?_)
  refine GP.keep [(0, _), (1, _), (6, _), (7, _), (8, _)] (.cons rfl (.cons rfl (.cons rfl (.cons rfl (.cons rfl .nil))))) ?_
  repeat refine G.seq ?_
  refine G.block ?_
  refine G.loop (S := List ((Int × Int) × Nat) × Chunks × Nat × Nat) (fun s => [(0, .pointer (some ⟨hb, 0, none⟩)), (6, .slice ad l.length lcap), (7, .int .i64 (l.length : Int)), (8, .int .i64 (s.2.2.1 : Int))]) (fun s => s.2.1 ++ E s.2.2.2)
    (fun s => s.2.2.1 ≤ l.length ∧ s.1.length = items.length + s.2.2.1 ∧ HRep 71 73 row1 3 hb (.func (.func g) fs cs) s.1 (came + s.2.2.1) s.2.1 ∧ (pushF cmp s.1 (came + s.2.2.1) (l.drop s.2.2.1)).1 = (pushF cmp items came l).1 ∧ s.2.2.2 + (pushF cmp s.1 (came + s.2.2.1) (l.drop s.2.2.1)).2.2 = c + (pushF cmp items came l).2.2)
    (fun s => l.length - s.2.2.1) (items, C0, 0, c) ⟨Nat.zero_le _, rfl, h, rfl, rfl⟩ (.cons rfl (.cons rfl (.cons rfl (.cons rfl .nil)))) .all ?_
  rintro ⟨its, C1, j, c1⟩ ⟨hj, hlen, hrep, h1, h2⟩ IH
  simp only at hj hlen hrep h1 h2 IH ⊢
  repeat refine G.seq ?_
  refine G.region [.loc] (.take 0 .done) rfl ?_
  refine GP.take rfl rfl (Does.lss rfl rfl rfl ?_)
  refine GP.keep [(0, _), (6, _), (7, _), (8, _), (9, _)] (.cons rfl (.cons rfl (.cons rfl (.cons rfl (.cons rfl .nil))))) ?_
  repeat refine G.seq ?_
  refine G.cond rfl ?_ ?_
  case refine_2 =>
    intro hz
    obtain rfl : j = l.length := by omega
    rw [List.drop_length] at h1 h2
    simp only [pushF] at h1 h2
    refine G.exit rfl ?_
    refine fin_end (fn := Try.f20) (R := []) Try.func20 (res0 rfl) .all ⟨rfl, C1, ?_, ?_⟩
    · rw [← h1, (pushF_length cmp l items came).2]; exact hrep
    · rw [← h2, Nat.add_zero]
  intro hz
  have hjl : j < l.length := by omega
  have hne : l ≠ [] := by intro e; rw [e] at hjl; simp at hjl
  obtain rfl := had hne
  have hdrop : l.drop j = l[j] :: l.drop (j + 1) := List.drop_eq_getElem_cons hjl
  rw [hdrop] at h1 h2
  simp only [pushF] at h1 h2
  have hrow : ∀ (C : Chunks), RowIn (cxF Try.prog 20 Try.f20.ntmps w0 ((C0 ++ E c).map Prod.fst) (fun v C' => v = .tuple #[] ∧ ∃ C1, HRep 71 73 row1 3 hb (.func (.func g) fs cs) (pushF cmp items came l).1 (pushF cmp items came l).2.1 C1 ∧ C' = C1 ++ E (c + (pushF cmp items came l).2.2))) C lb (lo + j * 2) (enc1 l[j]) := fun C => RowIn.old (hlb hne) fun i v hv => by
    rw [Nat.add_assoc]; exact hpre _ _ (flat_get enc1 2 enc1_length l j hjl i v hv)
  refine G.skip ?_
  repeat refine G.seq ?_
  refine G.block ?_
  repeat refine G.seq ?_
  obtain ⟨sv, Cr, rfl, ho⟩ := hrep
  simp only [List.cons_append]
  refine G.region [.loc, .gen, .alloc, .gen] (.take 0 (.take 1 (.take 2 (.take 3 .done)))) rfl ?_
  refine GP.take rfl rfl (Does.indexAddr j rfl rfl sl34 rfl hjl ?_)
  refine GP.take rfl rfl (Does.loadA (vs := [.int .i64 l[j].1, .int .i64 l[j].2]) rfl ag31 (hrow _) ?_)
  refine GP.take rfl rfl (Does.alloc zl31 fun b5 Nb5 hb5 nb5 => ?_)
  refine GP.take0 rfl (Does.storeA rfl rfl sz31 (by first | exact .head | exact .tail .head | exact .tail (.tail .head) | exact .tail (.tail (.tail .head)) | exact .tail (.tail (.tail (.tail .head))) | exact .tail (.tail (.tail (.tail (.tail .head))))) (.cons rfl .head (.cons rfl (.tail .head) .nil)) ?_)
  refine GP.keep [(0, _), (5, _), (6, _), (7, _), (8, _), (9, _)] (.cons rfl (.cons rfl (.cons rfl (.cons rfl (.cons rfl (.cons rfl .nil)))))) ?_
  repeat refine G.seq ?_
  refine G.draw [.loc, .load, .loc, .loc, .loc, .load, .gen] (.take 0 (.take 2 (.take 3 (.take 4 (.take 1 (.take 5 (.alt 6 .done .stop))))))) (by exact mixed) (by kernel_rfl) ?_
  intro N hN0 hN
  refine GP.take rfl rfl (Does.move rfl ?_)
  refine GP.take rfl rfl (Does.move rfl ?_)
  refine GP.take rfl rfl (Does.nilCheck rfl ?_)
  refine GP.take rfl rfl (Does.fieldAddr rfl fo71_2 ?_)
  refine GP.take rfl rfl (Does.loadAN (vs := [.int .i64 l[j].1, .int .i64 l[j].2]) rfl ag31 (by first | exact hN _ (.head _) | exact hN _ (.tail _ (.head _)) | exact hN _ (.tail _ (.tail _ (.head _))) | exact hN _ (.tail _ (.tail _ (.tail _ (.head _)))) | exact hN _ (.tail _ (.tail _ (.tail _ (.tail _ (.head _))))) | exact hN _ (.tail _ (.tail _ (.tail _ (.tail _ (.tail _ (.head _)))))) | exact hN _ (.tail _ (.tail _ (.tail _ (.tail _ (.tail _ (.tail _ (.head _)))))))) (RowIn.own (by first | exact .head _ | exact .tail _ (.head _) | exact .tail _ (.tail _ (.head _)) | exact .tail _ (.tail _ (.tail _ (.head _))) | exact .tail _ (.tail _ (.tail _ (.tail _ (.head _)))) | exact .tail _ (.tail _ (.tail _ (.tail _ (.tail _ (.head _)))))) rfl) ?_)
  refine GP.take rfl rfl (Does.load1N rfl ft22 (by first | exact hN _ (.head _) | exact hN _ (.tail _ (.head _)) | exact hN _ (.tail _ (.tail _ (.head _))) | exact hN _ (.tail _ (.tail _ (.tail _ (.head _)))) | exact hN _ (.tail _ (.tail _ (.tail _ (.tail _ (.head _))))) | exact hN _ (.tail _ (.tail _ (.tail _ (.tail _ (.tail _ (.head _)))))) | exact hN _ (.tail _ (.tail _ (.tail _ (.tail _ (.tail _ (.tail _ (.head _)))))))) (CellIn.own (by first | exact .head _ | exact .tail _ (.head _) | exact .tail _ (.tail _ (.head _)) | exact .tail _ (.tail _ (.tail _ (.head _))) | exact .tail _ (.tail _ (.tail _ (.tail _ (.head _)))) | exact .tail _ (.tail _ (.tail _ (.tail _ (.tail _ (.head _)))))) rfl) ?_)
  refine GP.one ?_
  refine GP.take rfl rfl (Does.callF [(b5, _)] (((hb, _) :: Cr) ++ E c1) (.cons rfl (.cons rfl (.cons rfl .nil))) cb42 rfl (put1 hc hb its (came + j) _ ⟨sv, Cr, rfl, ho⟩ c1 l[j] (came + j) (by omega)) (fun _ _ => trivial) ?_)
  rintro _ _ ⟨rfl, C2, ⟨sv2, Cr2, rfl, ho2⟩, rfl⟩
  simp only [List.nil_append, List.cons_append]
  refine GP.keep [(0, _), (5, _), (6, _), (7, _), (8, _), (9, _)] (.cons rfl (.cons rfl (.cons rfl (.cons rfl (.cons rfl (.cons rfl .nil)))))) ?_
  repeat refine G.seq ?_
  refine G.region [.loc, .loc, .loc, .gen, .loc, .loc, .loc, .gen] (.take 0 (.take 1 (.take 2 (.take 3 (.take 4 (.take 5 (.take 6 (.take 7 .done)))))))) rfl ?_
  refine GP.take rfl rfl (Does.move rfl ?_)
  refine GP.take rfl rfl (Does.nilCheck rfl ?_)
  refine GP.take rfl rfl (Does.fieldAddr rfl fo71_2 ?_)
  refine GP.take rfl rfl (Does.load1 rfl ft22 (CellIn.own (by first | exact .head _ | exact .tail _ (.head _) | exact .tail _ (.tail _ (.head _)) | exact .tail _ (.tail _ (.tail _ (.head _))) | exact .tail _ (.tail _ (.tail _ (.tail _ (.head _)))) | exact .tail _ (.tail _ (.tail _ (.tail _ (.tail _ (.head _)))))) rfl) ?_)
  refine GP.take rfl rfl (Does.add rfl rfl (r := ((came + (j + 1) : Nat) : Int)) (wrc_u64 (by omega) (by omega) (by omega)) ?_)
  refine GP.take rfl rfl (Does.nilCheck rfl ?_)
  refine GP.take rfl rfl (Does.fieldAddr rfl fo71_2 ?_)
  refine GP.take0 rfl (Does.store1 rfl rfl sz22 rfl (by first | exact .head | exact .tail .head | exact .tail (.tail .head) | exact .tail (.tail (.tail .head)) | exact .tail (.tail (.tail (.tail .head))) | exact .tail (.tail (.tail (.tail (.tail .head))))) (by first | exact .head | exact .tail .head | exact .tail (.tail .head) | exact .tail (.tail (.tail .head))) ?_)
  refine GP.keep [(0, _), (5, _), (6, _), (7, _), (8, _), (9, _)] (.cons rfl (.cons rfl (.cons rfl (.cons rfl (.cons rfl (.cons rfl .nil)))))) ?_
  repeat refine G.seq ?_
  refine G.inBlock ?_
  repeat refine G.seq ?_
  refine G.region [.loc, .loc] (.take 0 (.take 1 .done)) rfl ?_
  refine GP.take rfl rfl (Does.add rfl rfl (r := ((j + 1 : Nat) : Int)) (wrc_i64 (by omega) (by omega) (by omega)) ?_)
  refine GP.take rfl rfl (Does.move rfl ?_)
  refine GP.keep [(0, _), (6, _), (7, _), (8, _)] (.cons rfl (.cons rfl (.cons rfl (.cons rfl .nil)))) ?_
  refine G.sub (R := [(b5, _)]) ?_ .split1
  refine IH ((putF cmp its l[j] (came + j)).1, ((hb, _) :: Cr2), j + 1, c1 + (putF cmp its l[j] (came + j)).2) ⟨by simp only; omega, by simp only [putF_length]; omega, ⟨sv2, Cr2, rfl, ho2⟩, by simp only; rw [← h1, Nat.add_assoc], by simp only; rw [← h2, Nat.add_assoc, Nat.add_assoc]⟩ (by simp only; omega)
theorem pop1 {g : FuncId} {fs cs : Array Value} {E : Nat → Chunks} {cmp : Int × Int → Int × Int → Int} (hc : CmpOk Try.prog g fs cs E enc1 cmp) (hb : Nat) (items : List ((Int × Int) × Nat)) (came : Nat) (C0 : Chunks) (h : HRep 71 73 row1 3 hb (.func (.func g) fs cs) items came C0) (c : Nat) (hbig : items.length ≤ 4294967296) :
    Ct Try.prog 17 [.pointer (some ⟨hb, 0, none⟩)].toArray (fun _ => True) (C0 ++ E c) (fun v C' => v = .tuple #[.agg (enc1 (firstF items)).toArray, .bool (!items.isEmpty)] ∧ ∃ C1, HRep 71 73 row1 3 hb (.func (.func g) fs cs) (popF cmp items).1 came C1 ∧ C' = C1 ++ E (c + (popF cmp items).2)) := by
  refine ct_of_walk (fn := Try.f17) Try.func17 rfl rfl fun w0 _ hst => ?_
  clear hst
  repeat refine G.seq ?_
  refine G.region [.alloc, .loc] (.take 0 (.take 1 .done)) rfl ?_
  refine GP.take rfl rfl (Does.alloc zl31 fun b2 Nb2 hb2 nb2 => ?_)
  refine GP.take rfl rfl (Does.assign rfl ?_)
  refine GP.keep [(0, _), (2, _), (3, _)] (.cons rfl (.cons rfl (.cons rfl .nil))) ?_
  repeat refine G.seq ?_
  refine G.region [.loc, .gen, .loc, .loc, .loc, .alloc, .gen, .loc] (.take 0 (.take 1 (.take 2 (.take 3 (.take 4 (.take 5 (.take 6 (.take 7 .done)))))))) rfl ?_
  refine GP.take rfl rfl (Does.move rfl ?_)
  refine GP.take rfl rfl (Does.callG [(b2, _)] C0 (E c) (.cons rfl .nil) cb21 rfl (peek1 hb items came C0 h) (fun _ _ => trivial) ?_)
  rintro _ C9 ⟨rfl, hC9⟩
  rw [hC9]; clear hC9
  simp only [List.nil_append, List.cons_append]
  refine GP.take rfl rfl (Does.move rfl ?_)
  refine GP.take rfl rfl (Does.extract rfl rfl ?_)
  refine GP.take rfl rfl (Does.extract rfl rfl ?_)
  refine GP.take rfl rfl (Does.alloc zl31 fun b4 Nb4 hb4 nb4 => ?_)
  refine GP.take0 rfl (Does.storeA rfl rfl sz31 (by first | exact .head | exact .tail .head | exact .tail (.tail .head) | exact .tail (.tail (.tail .head)) | exact .tail (.tail (.tail (.tail .head))) | exact .tail (.tail (.tail (.tail (.tail .head))))) (.cons rfl .head (.cons rfl (.tail .head) .nil)) ?_)
  refine GP.take rfl rfl (Does.assign rfl ?_)
  refine GP.keep [(0, _), (2, _), (3, _), (4, _), (5, _)] (.cons rfl (.cons rfl (.cons rfl (.cons rfl (.cons rfl .nil))))) ?_
  repeat refine G.seq ?_
  refine G.region [.loc] (.take 0 .done) rfl ?_
  refine GP.take rfl rfl (Does.move rfl ?_)
  refine GP.keep [(0, _), (2, _), (3, _), (4, _), (5, _), (12, _)] (.cons rfl (.cons rfl (.cons rfl (.cons rfl (.cons rfl (.cons rfl .nil)))))) ?_
  repeat refine G.seq ?_
  by_cases hne : items = []
  · subst hne
    refine G.condF rfl ?_
    refine G.skip ?_
    repeat refine G.seq ?_
    refine G.region [.gen, .loc, .gen, .loc] (.take 0 (.take 1 (.take 2 (.take 3 .done)))) rfl ?_
    refine GP.take rfl rfl (Does.loadA (vs := [_, _]) rfl ag31 (RowIn.own (by first | exact .head _ | exact .tail _ (.head _) | exact .tail _ (.tail _ (.head _)) | exact .tail _ (.tail _ (.tail _ (.head _))) | exact .tail _ (.tail _ (.tail _ (.tail _ (.head _)))) | exact .tail _ (.tail _ (.tail _ (.tail _ (.tail _ (.head _)))))) rfl) ?_)
    refine GP.take rfl rfl (Does.move rfl ?_)
    refine GP.take0 rfl (Does.storeA rfl rfl sz31 (by first | exact .head | exact .tail .head | exact .tail (.tail .head) | exact .tail (.tail (.tail .head)) | exact .tail (.tail (.tail (.tail .head))) | exact .tail (.tail (.tail (.tail (.tail .head))))) (.cons rfl .head (.cons rfl (.tail .head) .nil)) ?_)
    refine GP.take rfl rfl (Does.assign rfl ?_)
    refine GP.keep [(0, _), (2, _), (3, _), (4, _), (5, _), (12, _)] (.cons rfl (.cons rfl (.cons rfl (.cons rfl (.cons rfl (.cons rfl .nil)))))) ?_
    exact fin_ret (fn := Try.f17) Try.func17 (fun a w hs => resc1 (n := 0) (vs := [_, _]) rfl hs rfl ag31 rfl rfl (RowIn.own (by first | exact .head _ | exact .tail _ (.head _) | exact .tail _ (.tail _ (.head _)) | exact .tail _ (.tail _ (.tail _ (.head _))) | exact .tail _ (.tail _ (.tail _ (.tail _ (.head _)))) | exact .tail _ (.tail _ (.tail _ (.tail _ (.tail _ (.head _)))))) rfl)) (Split.tail [_, _] _) ⟨rfl, C0, by simpa [popF] using h, by simp [popF]⟩
  · have hemp : items.isEmpty = false := by simpa using hne
    have hlen : 0 < items.length := by cases items with | nil => exact absurd rfl hne | cons _ _ => simp
    have hpop : popF cmp items = downF cmp (items.length - 1) ((items.set 0 (at_ items (items.length - 1))).take (items.length - 1)) 0 := by unfold popF; rw [if_neg hne]
    rw [hemp, hpop]
    clear hpop
    obtain ⟨ib, cap, sp, rfl, hcap, hsp⟩ := h.full hne
    refine G.condT rfl ?_
    simp only [List.cons_append, List.nil_append]
    repeat refine G.seq ?_
    refine G.region [.loc, .loc, .loc, .gen, .loc, .loc, .loc] (.take 0 (.take 1 (.take 2 (.take 3 (.take 4 (.take 5 (.take 6 .done))))))) rfl ?_
    refine GP.take rfl rfl (Does.move rfl ?_)
    refine GP.take rfl rfl (Does.nilCheck rfl ?_)
    refine GP.take rfl rfl (Does.fieldAddr rfl fo71_1 ?_)
    refine GP.take rfl rfl (Does.load1 rfl ft69 (CellIn.own (by first | exact .head _ | exact .tail _ (.head _) | exact .tail _ (.tail _ (.head _)) | exact .tail _ (.tail _ (.tail _ (.head _))) | exact .tail _ (.tail _ (.tail _ (.tail _ (.head _)))) | exact .tail _ (.tail _ (.tail _ (.tail _ (.tail _ (.head _)))))) rfl) ?_)
    refine GP.take rfl rfl (Does.len rfl is69 ?_)
    refine GP.take rfl rfl (Does.sub rfl rfl (r := ((items.length - 1 : Nat) : Int)) (wrc_i64 (by omega) (by omega) (by omega)) ?_)
    refine GP.take rfl rfl (Does.assign rfl ?_)
    refine GP.keep [(0, _), (2, _), (3, _), (4, _), (5, _), (6, _), (12, _)] (.cons rfl (.cons rfl (.cons rfl (.cons rfl (.cons rfl (.cons rfl (.cons rfl .nil))))))) ?_
    repeat refine G.seq ?_
    refine G.draw [.loc, .loc, .loc, .load, .loc, .loc, .loc, .load, .loc, .loc, .load, .loc, .gen] (.take 0 (.take 1 (.take 2 (.take 4 (.take 5 (.take 6 (.take 8 (.take 3 (.take 7 (.take 9 (.take 10 (.take 11 (.alt 12 .done .stop))))))))))))) (by exact mixed) (by kernel_rfl) ?_
    intro N hN0 hN
    refine GP.take rfl rfl (Does.move rfl ?_)
    refine GP.take rfl rfl (Does.nilCheck rfl ?_)
    refine GP.take rfl rfl (Does.fieldAddr rfl fo71_1 ?_)
    refine GP.take rfl rfl (Does.move rfl ?_)
    refine GP.take rfl rfl (Does.nilCheck rfl ?_)
    refine GP.take rfl rfl (Does.fieldAddr rfl fo71_1 ?_)
    refine GP.take rfl rfl (Does.move rfl ?_)
    refine GP.take rfl rfl (Does.load1N rfl ft69 (by first | exact hN _ (.head _) | exact hN _ (.tail _ (.head _)) | exact hN _ (.tail _ (.tail _ (.head _))) | exact hN _ (.tail _ (.tail _ (.tail _ (.head _)))) | exact hN _ (.tail _ (.tail _ (.tail _ (.tail _ (.head _))))) | exact hN _ (.tail _ (.tail _ (.tail _ (.tail _ (.tail _ (.head _)))))) | exact hN _ (.tail _ (.tail _ (.tail _ (.tail _ (.tail _ (.tail _ (.head _)))))))) (CellIn.own (by first | exact .head _ | exact .tail _ (.head _) | exact .tail _ (.tail _ (.head _)) | exact .tail _ (.tail _ (.tail _ (.head _))) | exact .tail _ (.tail _ (.tail _ (.tail _ (.head _)))) | exact .tail _ (.tail _ (.tail _ (.tail _ (.tail _ (.head _)))))) rfl) ?_)
    refine GP.take rfl rfl (Does.load1N rfl ft69 (by first | exact hN _ (.head _) | exact hN _ (.tail _ (.head _)) | exact hN _ (.tail _ (.tail _ (.head _))) | exact hN _ (.tail _ (.tail _ (.tail _ (.head _)))) | exact hN _ (.tail _ (.tail _ (.tail _ (.tail _ (.head _))))) | exact hN _ (.tail _ (.tail _ (.tail _ (.tail _ (.tail _ (.head _)))))) | exact hN _ (.tail _ (.tail _ (.tail _ (.tail _ (.tail _ (.tail _ (.head _)))))))) (CellIn.own (by first | exact .head _ | exact .tail _ (.head _) | exact .tail _ (.tail _ (.head _)) | exact .tail _ (.tail _ (.tail _ (.head _))) | exact .tail _ (.tail _ (.tail _ (.tail _ (.head _)))) | exact .tail _ (.tail _ (.tail _ (.tail _ (.tail _ (.head _)))))) rfl) ?_)
    refine GP.take rfl rfl (Does.indexAddr (items.length - 1) rfl rfl sl69 rfl (by omega) ?_)
    refine GP.take rfl rfl (Does.loadAN (vs := [.int .i64 (at_ items (items.length - 1)).1.1, .int .i64 (at_ items (items.length - 1)).1.2, .int .u64 (at_ items (items.length - 1)).2]) rfl ag73 (by first | exact hN _ (.head _) | exact hN _ (.tail _ (.head _)) | exact hN _ (.tail _ (.tail _ (.head _))) | exact hN _ (.tail _ (.tail _ (.tail _ (.head _)))) | exact hN _ (.tail _ (.tail _ (.tail _ (.tail _ (.head _))))) | exact hN _ (.tail _ (.tail _ (.tail _ (.tail _ (.tail _ (.head _)))))) | exact hN _ (.tail _ (.tail _ (.tail _ (.tail _ (.tail _ (.tail _ (.head _)))))))) (RowIn.own (l := items.flatMap row1 ++ sp) (by first | exact .head _ | exact .tail _ (.head _) | exact .tail _ (.tail _ (.head _)) | exact .tail _ (.tail _ (.tail _ (.head _))) | exact .tail _ (.tail _ (.tail _ (.tail _ (.head _)))) | exact .tail _ (.tail _ (.tail _ (.tail _ (.tail _ (.head _)))))) (row1_at items sp (items.length - 1) (by omega))) ?_)
    refine GP.take rfl rfl (Does.indexAddr 0 rfl rfl sl69 rfl hlen ?_)
    refine GP.one ?_
    refine GP.take0 rfl (Does.storeA rfl rfl sz73 (by first | exact .head | exact .tail .head | exact .tail (.tail .head) | exact .tail (.tail (.tail .head)) | exact .tail (.tail (.tail (.tail .head))) | exact .tail (.tail (.tail (.tail (.tail .head))))) (row1_set items sp 0 hlen (at_ items (items.length - 1))) ?_)
    refine GP.keep [(0, _), (2, _), (3, _), (4, _), (5, _), (6, _), (12, _)] (.cons rfl (.cons rfl (.cons rfl (.cons rfl (.cons rfl (.cons rfl (.cons rfl .nil))))))) ?_
    repeat refine G.seq ?_
    refine G.region [.loc, .loc, .loc, .gen, .loc, .loc, .loc, .gen] (.take 0 (.take 1 (.take 2 (.take 3 (.take 4 (.take 5 (.take 6 (.take 7 .done)))))))) rfl ?_
    refine GP.take rfl rfl (Does.move rfl ?_)
    refine GP.take rfl rfl (Does.nilCheck rfl ?_)
    refine GP.take rfl rfl (Does.fieldAddr rfl fo71_1 ?_)
    refine GP.take rfl rfl (Does.load1 rfl ft69 (CellIn.own (by first | exact .head _ | exact .tail _ (.head _) | exact .tail _ (.tail _ (.head _)) | exact .tail _ (.tail _ (.tail _ (.head _))) | exact .tail _ (.tail _ (.tail _ (.tail _ (.head _)))) | exact .tail _ (.tail _ (.tail _ (.tail _ (.tail _ (.head _)))))) rfl) ?_)
    refine GP.take rfl rfl (Does.move rfl ?_)
    refine GP.take rfl rfl (Does.build (r := [_, _, _]) .nil sp73 zl73 rfl ?_)
    refine GP.take rfl rfl (Does.indexAddr (items.length - 1) rfl rfl sl69 rfl (by omega) ?_)
    refine GP.take0 rfl (Does.storeA rfl rfl sz73 (by first | exact .head | exact .tail .head | exact .tail (.tail .head) | exact .tail (.tail (.tail .head)) | exact .tail (.tail (.tail (.tail .head))) | exact .tail (.tail (.tail (.tail (.tail .head))))) (row1_set (items.set 0 (at_ items (items.length - 1))) sp (items.length - 1) (by simp; omega) (default : (Int × Int) × Nat)) ?_)
    refine GP.keep [(0, _), (2, _), (3, _), (4, _), (5, _), (6, _), (12, _)] (.cons rfl (.cons rfl (.cons rfl (.cons rfl (.cons rfl (.cons rfl (.cons rfl .nil))))))) ?_
    repeat refine G.seq ?_
    obtain ⟨its3, hits3⟩ : ∃ q, q = (items.set 0 (at_ items (items.length - 1))).take (items.length - 1) := ⟨_, rfl⟩
    have hlen3 : its3.length = items.length - 1 := by rw [hits3]; simp
    have hfl : ((items.set 0 (at_ items (items.length - 1))).set (items.length - 1) (default : (Int × Int) × Nat)).flatMap row1 ++ sp = its3.flatMap row1 ++ ([.int .i64 (default : (Int × Int) × Nat).1.1, .int .i64 (default : (Int × Int) × Nat).1.2, .int .u64 (default : (Int × Int) × Nat).2] ++ sp) := by
      rw [hits3, List.set_eq_take_append_cons_drop, if_pos (by simp; omega), List.drop_of_length_le (by simp; omega)]
      simp [row1]
    rw [hfl, ← hits3]
    clear hits3 hfl
    refine G.region [.loc, .loc, .loc, .loc, .gen, .loc, .loc, .loc, .loc, .gen] (.take 0 (.take 1 (.take 2 (.take 3 (.take 4 (.take 5 (.take 6 (.take 7 (.take 8 (.take 9 .done)))))))))) rfl ?_
    refine GP.take rfl rfl (Does.move rfl ?_)
    refine GP.take rfl rfl (Does.move rfl ?_)
    refine GP.take rfl rfl (Does.nilCheck rfl ?_)
    refine GP.take rfl rfl (Does.fieldAddr rfl fo71_1 ?_)
    refine GP.take rfl rfl (Does.load1 rfl ft69 (CellIn.own (by first | exact .head _ | exact .tail _ (.head _) | exact .tail _ (.tail _ (.head _)) | exact .tail _ (.tail _ (.tail _ (.head _))) | exact .tail _ (.tail _ (.tail _ (.tail _ (.head _)))) | exact .tail _ (.tail _ (.tail _ (.tail _ (.tail _ (.head _)))))) rfl) ?_)
    refine GP.take rfl rfl (Does.move rfl ?_)
    refine GP.take rfl rfl (Does.sliceTo (items.length - 1) rfl rfl sl69 rfl (by omega) ?_)
    refine GP.take rfl rfl (Does.nilCheck rfl ?_)
    refine GP.take rfl rfl (Does.fieldAddr rfl fo71_1 ?_)
    refine GP.take0 rfl (Does.store1 rfl rfl sz69 rfl (by first | exact .head | exact .tail .head | exact .tail (.tail .head) | exact .tail (.tail (.tail .head)) | exact .tail (.tail (.tail (.tail .head))) | exact .tail (.tail (.tail (.tail (.tail .head))))) (by first | exact .head | exact .tail .head | exact .tail (.tail .head) | exact .tail (.tail (.tail .head))) ?_)
    refine GP.keep [(0, _), (2, _), (3, _), (4, _), (5, _), (6, _), (12, _)] (.cons rfl (.cons rfl (.cons rfl (.cons rfl (.cons rfl (.cons rfl (.cons rfl .nil))))))) ?_
    repeat refine G.seq ?_
    rw [← hlen3]
    refine G.region [.loc, .gen] (.take 0 (.take 1 .done)) rfl ?_
    refine GP.take rfl rfl (Does.move rfl ?_)
    refine GP.take rfl rfl (Does.callF [(b4, _), (b2, _)] ((hb, cel 71 [.func (.func g) fs cs, .slice (some ⟨ib, 0, none⟩) its3.length cap, .int .u64 came]) :: (ib, cel 73 (its3.flatMap row1 ++ ([.int .i64 (default : (Int × Int) × Nat).1.1, .int .i64 (default : (Int × Int) × Nat).1.2, .int .u64 (default : (Int × Int) × Nat).2] ++ sp))) :: E c) (.cons rfl .nil) cb41 rfl (down1 hc hb ib cap came its3 _ c (by omega)) (fun _ _ => trivial) ?_)
    rintro _ _ ⟨rfl, rfl⟩
    simp only [List.nil_append, List.cons_append]
    refine GP.keep [(0, _), (2, _), (3, _), (4, _), (5, _), (6, _), (12, _)] (.cons rfl (.cons rfl (.cons rfl (.cons rfl (.cons rfl (.cons rfl (.cons rfl .nil))))))) ?_
    repeat refine G.seq ?_
    refine G.region [.gen, .loc, .gen, .loc] (.take 0 (.take 1 (.take 2 (.take 3 .done)))) rfl ?_
    refine GP.take rfl rfl (Does.loadA (vs := [_, _]) rfl ag31 (RowIn.own (by first | exact .head _ | exact .tail _ (.head _) | exact .tail _ (.tail _ (.head _)) | exact .tail _ (.tail _ (.tail _ (.head _))) | exact .tail _ (.tail _ (.tail _ (.tail _ (.head _)))) | exact .tail _ (.tail _ (.tail _ (.tail _ (.tail _ (.head _)))))) rfl) ?_)
    refine GP.take rfl rfl (Does.move rfl ?_)
    refine GP.take0 rfl (Does.storeA rfl rfl sz31 (by first | exact .head | exact .tail .head | exact .tail (.tail .head) | exact .tail (.tail (.tail .head)) | exact .tail (.tail (.tail (.tail .head))) | exact .tail (.tail (.tail (.tail (.tail .head))))) (.cons rfl .head (.cons rfl (.tail .head) .nil)) ?_)
    refine GP.take rfl rfl (Does.assign rfl ?_)
    refine GP.keep [(0, _), (2, _), (3, _), (4, _), (5, _), (6, _), (12, _)] (.cons rfl (.cons rfl (.cons rfl (.cons rfl (.cons rfl (.cons rfl (.cons rfl .nil))))))) ?_
    exact fin_ret (fn := Try.f17) Try.func17 (fun a w hs => resc1 (n := 0) (vs := [_, _]) rfl hs rfl ag31 rfl rfl (RowIn.own (by first | exact .head _ | exact .tail _ (.head _) | exact .tail _ (.tail _ (.head _)) | exact .tail _ (.tail _ (.tail _ (.head _))) | exact .tail _ (.tail _ (.tail _ (.tail _ (.head _)))) | exact .tail _ (.tail _ (.tail _ (.tail _ (.tail _ (.head _)))))) rfl)) (Split.tail [_, _] _) ⟨rfl, [(hb, _), (ib, _)], HRep.mk (ib := ib) (cap := cap) (sp := [.int .i64 (default : (Int × Int) × Nat).1.1, .int .i64 (default : (Int × Int) × Nat).1.2, .int .u64 (default : (Int × Int) × Nat).2] ++ sp) row1_length (by rw [downF_length]; omega) (by rw [downF_length, hlen3]; simp [hsp]; omega), rfl⟩
theorem swap1 {g : FuncId} {fs cs : Array Value} {E : Nat → Chunks} {cmp : Int × Int → Int × Int → Int} (hc : CmpOk Try.prog g fs cs E enc1 cmp) (hb : Nat) (items : List ((Int × Int) × Nat)) (came : Nat) (C0 : Chunks) (h : HRep 71 73 row1 3 hb (.func (.func g) fs cs) items came C0) (c : Nat) (x : Int × Int) (hbig : items.length + 1 ≤ 4294967296) (hcame : came + 1 ≤ 9223372036854775807) :
    Ct Try.prog 22 [.pointer (some ⟨hb, 0, none⟩), .agg (enc1 x).toArray].toArray (fun _ => True) (C0 ++ E c) (fun v C' => v = .tuple #[.agg (enc1 (firstF items)).toArray, .bool (!items.isEmpty)] ∧ ∃ C1, HRep 71 73 row1 3 hb (.func (.func g) fs cs) (swapF cmp items came x).1 (swapF cmp items came x).2.1 C1 ∧ C' = C1 ++ E (c + (swapF cmp items came x).2.2)) := by
  refine ct_of_walk (fn := Try.f22) Try.func22 rfl rfl fun w0 _ hst => ?_
  clear hst
  repeat refine G.seq ?_
  refine G.region [.alloc, .alloc, .loc] (.take 0 (.take 1 (.take 2 .done))) rfl ?_
  refine GP.take rfl rfl (Does.box (T := 31) rfl rfl fun b3 Nb3 hb3 nb3 => ?_)
  refine GP.take rfl rfl (Does.alloc zl31 fun b4 Nb4 hb4 nb4 => ?_)
  refine GP.take rfl rfl (Does.assign rfl ?_)
  refine GP.keep [(0, _), (1, _), (3, _), (4, _), (5, _)] (.cons rfl (.cons rfl (.cons rfl (.cons rfl (.cons rfl .nil))))) ?_
  repeat refine G.seq ?_
  refine G.region [.loc, .gen, .loc, .loc, .loc, .alloc, .gen, .loc] (.take 0 (.take 1 (.take 2 (.take 3 (.take 4 (.take 5 (.take 6 (.take 7 .done)))))))) rfl ?_
  refine GP.take rfl rfl (Does.move rfl ?_)
  refine GP.take rfl rfl (Does.callG [(b4, _), (b3, _)] C0 (E c) (.cons rfl .nil) cb21 rfl (peek1 hb items came C0 h) (fun _ _ => trivial) ?_)
  rintro _ C9 ⟨rfl, hC9⟩
  rw [hC9]; clear hC9
  simp only [List.nil_append, List.cons_append]
  refine GP.take rfl rfl (Does.move rfl ?_)
  refine GP.take rfl rfl (Does.extract rfl rfl ?_)
  refine GP.take rfl rfl (Does.extract rfl rfl ?_)
  refine GP.take rfl rfl (Does.alloc zl31 fun b6 Nb6 hb6 nb6 => ?_)
  refine GP.take0 rfl (Does.storeA rfl rfl sz31 (by first | exact .head | exact .tail .head | exact .tail (.tail .head) | exact .tail (.tail (.tail .head)) | exact .tail (.tail (.tail (.tail .head))) | exact .tail (.tail (.tail (.tail (.tail .head))))) (.cons rfl .head (.cons rfl (.tail .head) .nil)) ?_)
  refine GP.take rfl rfl (Does.assign rfl ?_)
  refine GP.keep [(0, _), (1, _), (3, _), (4, _), (5, _), (6, _), (7, _)] (.cons rfl (.cons rfl (.cons rfl (.cons rfl (.cons rfl (.cons rfl (.cons rfl .nil))))))) ?_
  repeat refine G.seq ?_
  refine G.region [.loc, .loc] (.take 0 (.take 1 .done)) rfl ?_
  refine GP.take rfl rfl (Does.move rfl ?_)
  refine GP.take rfl rfl (Does.not rfl rfl ?_)
  refine GP.keep [(0, _), (1, _), (3, _), (4, _), (5, _), (6, _), (7, _), (14, _)] (.cons rfl (.cons rfl (.cons rfl (.cons rfl (.cons rfl (.cons rfl (.cons rfl (.cons rfl .nil)))))))) ?_
  repeat refine G.seq ?_
  by_cases hne : items = []
  · subst hne
    refine G.condT rfl ?_
    repeat refine G.seq ?_
    refine G.region [.loc, .gen, .alloc, .gen] (.take 0 (.take 1 (.take 2 (.take 3 .done)))) rfl ?_
    refine GP.take rfl rfl (Does.move rfl ?_)
    refine GP.take rfl rfl (Does.loadA (vs := [_, _]) rfl ag31 (RowIn.own (by first | exact .head _ | exact .tail _ (.head _) | exact .tail _ (.tail _ (.head _)) | exact .tail _ (.tail _ (.tail _ (.head _))) | exact .tail _ (.tail _ (.tail _ (.tail _ (.head _)))) | exact .tail _ (.tail _ (.tail _ (.tail _ (.tail _ (.head _)))))) rfl) ?_)
    refine GP.take rfl rfl (Does.buildSlice (r := [_, _]) (.cons rfl .nil) sl34 zl31 (by decide) rfl fun b17 N17 h17 n17 => ?_)
    refine GP.take rfl rfl (Does.callF [(b17, _), (b6, _), (b4, _), (b3, _)] (C0 ++ E c) (.cons rfl (.cons rfl .nil)) cb20 rfl (push1 hc hb [] came C0 h c [x] (some ⟨b17, 0, none⟩) 1 b17 0 (fun _ => rfl) (fun _ hm => n17 (by simp only [List.map_cons, List.mem_cons]; exact .inr (.inr (.inr hm)))) (by simp) hcame) (fun w hst i v hi => RowIn.own (X := _) (l := enc1 x) (vs := enc1 x) (by first | exact .head _ | exact .tail _ (.head _) | exact .tail _ (.tail _ (.head _)) | exact .tail _ (.tail _ (.tail _ (.head _))) | exact .tail _ (.tail _ (.tail _ (.tail _ (.head _)))) | exact .tail _ (.tail _ (.tail _ (.tail _ (.tail _ (.head _)))))) rfl w hst i v (by simpa using hi)) ?_)
    rintro _ _ ⟨rfl, C1, hC1, rfl⟩
    simp only [List.nil_append, List.cons_append]
    refine GP.keep [(0, _), (1, _), (3, _), (4, _), (5, _), (6, _), (7, _), (14, _)] (.cons rfl (.cons rfl (.cons rfl (.cons rfl (.cons rfl (.cons rfl (.cons rfl (.cons rfl .nil)))))))) ?_
    repeat refine G.seq ?_
    refine G.region [.gen, .gen, .loc] (.take 0 (.take 1 (.take 2 .done))) rfl ?_
    refine GP.take rfl rfl (Does.loadA (vs := [_, _]) rfl ag31 (RowIn.own (by first | exact .head _ | exact .tail _ (.head _) | exact .tail _ (.tail _ (.head _)) | exact .tail _ (.tail _ (.tail _ (.head _))) | exact .tail _ (.tail _ (.tail _ (.tail _ (.head _)))) | exact .tail _ (.tail _ (.tail _ (.tail _ (.tail _ (.head _)))))) rfl) ?_)
    refine GP.take0 rfl (Does.storeA rfl rfl sz31 (by first | exact .head | exact .tail .head | exact .tail (.tail .head) | exact .tail (.tail (.tail .head)) | exact .tail (.tail (.tail (.tail .head))) | exact .tail (.tail (.tail (.tail (.tail .head))))) (.cons rfl .head (.cons rfl (.tail .head) .nil)) ?_)
    refine GP.take rfl rfl (Does.assign rfl ?_)
    refine GP.keep [(0, _), (1, _), (3, _), (4, _), (5, _), (6, _), (7, _), (14, _)] (.cons rfl (.cons rfl (.cons rfl (.cons rfl (.cons rfl (.cons rfl (.cons rfl (.cons rfl .nil)))))))) ?_
    exact fin_ret (fn := Try.f22) Try.func22 (fun a w hs => resc1 (n := 0) (vs := [_, _]) rfl hs rfl ag31 rfl rfl (RowIn.own (by first | exact .head _ | exact .tail _ (.head _) | exact .tail _ (.tail _ (.head _)) | exact .tail _ (.tail _ (.tail _ (.head _))) | exact .tail _ (.tail _ (.tail _ (.tail _ (.head _)))) | exact .tail _ (.tail _ (.tail _ (.tail _ (.tail _ (.head _)))))) rfl)) (Split.tail [_, _, _, _] _) ⟨rfl, C1, by simpa [swapF] using hC1, by simp [swapF]⟩
  · have hemp : items.isEmpty = false := by simpa using hne
    have hlen : 0 < items.length := by cases items with | nil => exact absurd rfl hne | cons _ _ => simp
    have hsw : swapF cmp items came x = ((downF cmp items.length (items.set 0 (x, came)) 0).1, came + 1, (downF cmp items.length (items.set 0 (x, came)) 0).2) := by unfold swapF; rw [if_neg hne]
    rw [hemp, hsw]
    clear hsw
    obtain ⟨ib, cap, sp, rfl, hcap, hsp⟩ := h.full hne
    refine G.condF rfl ?_
    refine G.skip ?_
    simp only [List.cons_append, List.nil_append]
    repeat refine G.seq ?_
    refine G.draw [.loc, .loc, .loc, .load, .load, .loc, .loc, .loc, .load, .loc, .loc, .gen] (.take 0 (.take 1 (.take 2 (.take 5 (.take 6 (.take 7 (.take 3 (.take 4 (.take 8 (.take 9 (.take 10 (.alt 11 .done .stop)))))))))))) (by exact mixed) (by kernel_rfl) ?_
    intro N hN0 hN
    refine GP.take rfl rfl (Does.move rfl ?_)
    refine GP.take rfl rfl (Does.nilCheck rfl ?_)
    refine GP.take rfl rfl (Does.fieldAddr rfl fo71_1 ?_)
    refine GP.take rfl rfl (Does.move rfl ?_)
    refine GP.take rfl rfl (Does.nilCheck rfl ?_)
    refine GP.take rfl rfl (Does.fieldAddr rfl fo71_2 ?_)
    refine GP.take rfl rfl (Does.load1N rfl ft69 (by first | exact hN _ (.head _) | exact hN _ (.tail _ (.head _)) | exact hN _ (.tail _ (.tail _ (.head _))) | exact hN _ (.tail _ (.tail _ (.tail _ (.head _)))) | exact hN _ (.tail _ (.tail _ (.tail _ (.tail _ (.head _))))) | exact hN _ (.tail _ (.tail _ (.tail _ (.tail _ (.tail _ (.head _)))))) | exact hN _ (.tail _ (.tail _ (.tail _ (.tail _ (.tail _ (.tail _ (.head _)))))))) (CellIn.own (by first | exact .head _ | exact .tail _ (.head _) | exact .tail _ (.tail _ (.head _)) | exact .tail _ (.tail _ (.tail _ (.head _))) | exact .tail _ (.tail _ (.tail _ (.tail _ (.head _)))) | exact .tail _ (.tail _ (.tail _ (.tail _ (.tail _ (.head _)))))) rfl) ?_)
    refine GP.take rfl rfl (Does.loadAN (vs := [.int .i64 x.1, .int .i64 x.2]) rfl ag31 (by first | exact hN _ (.head _) | exact hN _ (.tail _ (.head _)) | exact hN _ (.tail _ (.tail _ (.head _))) | exact hN _ (.tail _ (.tail _ (.tail _ (.head _)))) | exact hN _ (.tail _ (.tail _ (.tail _ (.tail _ (.head _))))) | exact hN _ (.tail _ (.tail _ (.tail _ (.tail _ (.tail _ (.head _)))))) | exact hN _ (.tail _ (.tail _ (.tail _ (.tail _ (.tail _ (.tail _ (.head _)))))))) (RowIn.own (by first | exact .head _ | exact .tail _ (.head _) | exact .tail _ (.tail _ (.head _)) | exact .tail _ (.tail _ (.tail _ (.head _))) | exact .tail _ (.tail _ (.tail _ (.tail _ (.head _)))) | exact .tail _ (.tail _ (.tail _ (.tail _ (.tail _ (.head _)))))) rfl) ?_)
    refine GP.take rfl rfl (Does.load1N rfl ft22 (by first | exact hN _ (.head _) | exact hN _ (.tail _ (.head _)) | exact hN _ (.tail _ (.tail _ (.head _))) | exact hN _ (.tail _ (.tail _ (.tail _ (.head _)))) | exact hN _ (.tail _ (.tail _ (.tail _ (.tail _ (.head _))))) | exact hN _ (.tail _ (.tail _ (.tail _ (.tail _ (.tail _ (.head _)))))) | exact hN _ (.tail _ (.tail _ (.tail _ (.tail _ (.tail _ (.tail _ (.head _)))))))) (CellIn.own (by first | exact .head _ | exact .tail _ (.head _) | exact .tail _ (.tail _ (.head _)) | exact .tail _ (.tail _ (.tail _ (.head _))) | exact .tail _ (.tail _ (.tail _ (.tail _ (.head _)))) | exact .tail _ (.tail _ (.tail _ (.tail _ (.tail _ (.head _)))))) rfl) ?_)
    refine GP.take rfl rfl (Does.build (r := [_, _, _]) (.cons rfl (.cons rfl .nil)) sp73 zl73 rfl ?_)
    refine GP.take rfl rfl (Does.indexAddr 0 rfl rfl sl69 rfl hlen ?_)
    refine GP.one ?_
    refine GP.take0 rfl (Does.storeA rfl rfl sz73 (by first | exact .head | exact .tail .head | exact .tail (.tail .head) | exact .tail (.tail (.tail .head)) | exact .tail (.tail (.tail (.tail .head))) | exact .tail (.tail (.tail (.tail (.tail .head))))) (row1_set items sp 0 hlen (x, came)) ?_)
    refine GP.keep [(0, _), (1, _), (3, _), (4, _), (5, _), (6, _), (7, _), (14, _)] (.cons rfl (.cons rfl (.cons rfl (.cons rfl (.cons rfl (.cons rfl (.cons rfl (.cons rfl .nil)))))))) ?_
    repeat refine G.seq ?_
    refine G.region [.loc, .loc, .loc, .gen, .loc, .loc, .loc, .gen] (.take 0 (.take 1 (.take 2 (.take 3 (.take 4 (.take 5 (.take 6 (.take 7 .done)))))))) rfl ?_
    refine GP.take rfl rfl (Does.move rfl ?_)
    refine GP.take rfl rfl (Does.nilCheck rfl ?_)
    refine GP.take rfl rfl (Does.fieldAddr rfl fo71_2 ?_)
    refine GP.take rfl rfl (Does.load1 rfl ft22 (CellIn.own (by first | exact .head _ | exact .tail _ (.head _) | exact .tail _ (.tail _ (.head _)) | exact .tail _ (.tail _ (.tail _ (.head _))) | exact .tail _ (.tail _ (.tail _ (.tail _ (.head _)))) | exact .tail _ (.tail _ (.tail _ (.tail _ (.tail _ (.head _)))))) rfl) ?_)
    refine GP.take rfl rfl (Does.add rfl rfl (r := ((came + 1 : Nat) : Int)) (wrc_u64 (by omega) (by omega) (by omega)) ?_)
    refine GP.take rfl rfl (Does.nilCheck rfl ?_)
    refine GP.take rfl rfl (Does.fieldAddr rfl fo71_2 ?_)
    refine GP.take0 rfl (Does.store1 rfl rfl sz22 rfl (by first | exact .head | exact .tail .head | exact .tail (.tail .head) | exact .tail (.tail (.tail .head)) | exact .tail (.tail (.tail (.tail .head))) | exact .tail (.tail (.tail (.tail (.tail .head))))) (by first | exact .head | exact .tail .head | exact .tail (.tail .head) | exact .tail (.tail (.tail .head))) ?_)
    refine GP.keep [(0, _), (1, _), (3, _), (4, _), (5, _), (6, _), (7, _), (14, _)] (.cons rfl (.cons rfl (.cons rfl (.cons rfl (.cons rfl (.cons rfl (.cons rfl (.cons rfl .nil)))))))) ?_
    repeat refine G.seq ?_
    have hl2 : (items.set 0 (x, came)).length = items.length := by simp
    rw [← hl2]
    refine G.region [.loc, .gen] (.take 0 (.take 1 .done)) rfl ?_
    refine GP.take rfl rfl (Does.move rfl ?_)
    refine GP.take rfl rfl (Does.callF [(b6, _), (b4, _), (b3, _)] ((hb, cel 71 [.func (.func g) fs cs, .slice (some ⟨ib, 0, none⟩) (items.set 0 (x, came)).length cap, .int .u64 (came + 1 : Nat)]) :: (ib, cel 73 ((items.set 0 (x, came)).flatMap row1 ++ sp)) :: E c) (.cons rfl .nil) cb41 rfl (down1 hc hb ib cap (came + 1 : Nat) (items.set 0 (x, came)) _ c (by omega)) (fun _ _ => trivial) ?_)
    rintro _ _ ⟨rfl, rfl⟩
    simp only [List.nil_append, List.cons_append]
    refine GP.keep [(0, _), (1, _), (3, _), (4, _), (5, _), (6, _), (7, _), (14, _)] (.cons rfl (.cons rfl (.cons rfl (.cons rfl (.cons rfl (.cons rfl (.cons rfl (.cons rfl .nil)))))))) ?_
    repeat refine G.seq ?_
    refine G.region [.gen, .gen, .loc] (.take 0 (.take 1 (.take 2 .done))) rfl ?_
    refine GP.take rfl rfl (Does.loadA (vs := [_, _]) rfl ag31 (RowIn.own (by first | exact .head _ | exact .tail _ (.head _) | exact .tail _ (.tail _ (.head _)) | exact .tail _ (.tail _ (.tail _ (.head _))) | exact .tail _ (.tail _ (.tail _ (.tail _ (.head _)))) | exact .tail _ (.tail _ (.tail _ (.tail _ (.tail _ (.head _)))))) rfl) ?_)
    refine GP.take0 rfl (Does.storeA rfl rfl sz31 (by first | exact .head | exact .tail .head | exact .tail (.tail .head) | exact .tail (.tail (.tail .head)) | exact .tail (.tail (.tail (.tail .head))) | exact .tail (.tail (.tail (.tail (.tail .head))))) (.cons rfl .head (.cons rfl (.tail .head) .nil)) ?_)
    refine GP.take rfl rfl (Does.assign rfl ?_)
    refine GP.keep [(0, _), (1, _), (3, _), (4, _), (5, _), (6, _), (7, _), (14, _)] (.cons rfl (.cons rfl (.cons rfl (.cons rfl (.cons rfl (.cons rfl (.cons rfl (.cons rfl .nil)))))))) ?_
    exact fin_ret (fn := Try.f22) Try.func22 (fun a w hs => resc1 (n := 0) (vs := [_, _]) rfl hs rfl ag31 rfl rfl (RowIn.own (by first | exact .head _ | exact .tail _ (.head _) | exact .tail _ (.tail _ (.head _)) | exact .tail _ (.tail _ (.tail _ (.head _))) | exact .tail _ (.tail _ (.tail _ (.tail _ (.head _)))) | exact .tail _ (.tail _ (.tail _ (.tail _ (.tail _ (.head _)))))) rfl)) (Split.tail [_, _, _] _) ⟨rfl, [(hb, _), (ib, _)], HRep.mk (ib := ib) (cap := cap) (sp := sp) row1_length (by rw [downF_length]; simpa using hcap) (by rw [downF_length]; simpa using hsp), rfl⟩
end Go.Proofs.Ytcgenmfnlocbbaa
