/- Blanks, digits, and the end of a word, walked. Nothing is claimed of a law here. -/
import Derived.Test.YtcgenmfnlocbbaaDoorProg
import Derived.Test.YtcgenmfnlocbbaaDoorR1
namespace Go.Proofs.YtcgenmfnlocbbaaDoor.T
open Go.Lg
theorem cb11 : callable Tryd.prog 11 = true := by kernel_rfl
theorem cb12 : callable Tryd.prog 12 = true := by kernel_rfl
theorem cb15 : callable Tryd.prog 15 = true := by kernel_rfl
theorem cb16 : callable Tryd.prog 16 = true := by kernel_rfl
theorem cb18 : callable Tryd.prog 18 = true := by kernel_rfl
theorem fo35_0 : fieldOff Tryd.prog 35 0 = some 0 := by kernel_rfl
theorem fo35_2 : fieldOff Tryd.prog 35 2 = some 2 := by kernel_rfl
theorem fo35_3 : fieldOff Tryd.prog 35 3 = some 3 := by kernel_rfl
theorem ft22 : flatT Tryd.prog 22 = true := by kernel_rfl
theorem ft3 : flatT Tryd.prog 3 = true := by kernel_rfl
theorem ft30 : flatT Tryd.prog 30 = true := by kernel_rfl
theorem ft9 : flatT Tryd.prog 9 = true := by kernel_rfl
theorem mixed : Tryd.prog.follows .mixedOrders = true := by kernel_rfl
theorem si22 : sliceInfo Tryd.prog 22 = some (9, 1, 16) := by kernel_rfl
theorem si30 : sliceInfo Tryd.prog 30 = some (5, 1, 1) := by kernel_rfl
theorem sl22 : sliceElem Tryd.prog 22 = some (9, 1) := by kernel_rfl
theorem sl30 : sliceElem Tryd.prog 30 = some (5, 1) := by kernel_rfl
theorem sl36 : sliceElem Tryd.prog 36 = some (3, 1) := by kernel_rfl
theorem sz22 : sizeT Tryd.prog 22 = some 1 := by kernel_rfl
theorem sz3 : sizeT Tryd.prog 3 = some 1 := by kernel_rfl
theorem sz30 : sizeT Tryd.prog 30 = some 1 := by kernel_rfl
theorem sz9 : sizeT Tryd.prog 9 = some 1 := by kernel_rfl
theorem zl5 : zeroL Tryd.prog 5 = some [.int .u8 0] := by kernel_rfl
theorem zl9 : zeroL Tryd.prog 9 = some [str []] := by kernel_rfl
def blankF (c : Nat) : Bool := decide (c = 32) || decide (c = 9) || decide (c = 13)
def digF (c : Nat) : Int := if 48 ≤ c ∧ c ≤ 57 then (c : Int) - 48 else if 97 ≤ c ∧ c ≤ 102 then (c : Int) - 97 + 10 else if 65 ≤ c ∧ c ≤ 70 then (c : Int) - 65 + 10 else -1
theorem blank_ct (c : Nat) : Ct Tryd.prog 16 [.int .i32 (c : Int)].toArray (fun _ => True) [] (fun v C' => v = .bool (blankF c) ∧ C' = []) := by
  refine ct_of_walk (fn := Tryd.f16) Tryd.func16 rfl rfl fun w0 hpre hst => ?_
  clear hst
  repeat refine G.seq ?_
  refine G.region [.loc] (.take 0 .done) rfl ?_
  refine GP.take rfl rfl (Does.assign rfl ?_)
  refine GP.keep [(0, _), (2, _)] (.cons rfl (.cons rfl .nil)) ?_
  repeat refine G.seq ?_
  by_cases h1 : c = 32
  · skip
    refine G.region [.loc, .loc, .loc, .loc, .loc, .loc, .loc, .loc, .loc, .loc, .loc] (.take 0 (.take 1 (.take 2 (.take 3 (.take 4 (.take 5 (.take 6 (.take 7 (.take 8 (.take 9 (.take 10 .done))))))))))) rfl ?_
    refine GP.take rfl rfl (Does.move rfl ?_)
    refine GP.take rfl rfl (Does.eql rfl rfl (show decide ((c : Int) = 32) = true from decide_eq_true (by omega)) ?_)
    refine GP.take rfl rfl (Does.move rfl ?_)
    refine GP.pass rfl rfl rfl rfl rfl ?_
    refine GP.pass rfl rfl rfl rfl rfl ?_
    refine GP.take rfl rfl (Does.pickT rfl rfl ?_)
    refine GP.take rfl rfl (Does.move rfl ?_)
    refine GP.pass rfl rfl rfl rfl rfl ?_
    refine GP.pass rfl rfl rfl rfl rfl ?_
    refine GP.take rfl rfl (Does.pickT rfl rfl ?_)
    refine GP.take rfl rfl (Does.assign rfl ?_)
    refine GP.keep [(2, _)] (.cons rfl .nil) ?_
    exact fin_ret (fn := Tryd.f16) Tryd.func16 (res1 rfl rfl) .nil ⟨by simp [blankF, h1], rfl⟩
  by_cases h2 : c = 9
  · skip
    refine G.region [.loc, .loc, .loc, .loc, .loc, .loc, .loc, .loc, .loc, .loc, .loc] (.take 0 (.take 1 (.take 2 (.take 3 (.take 4 (.take 5 (.take 6 (.take 7 (.take 8 (.take 9 (.take 10 .done))))))))))) rfl ?_
    refine GP.take rfl rfl (Does.move rfl ?_)
    refine GP.take rfl rfl (Does.eql rfl rfl (show decide ((c : Int) = 32) = false from decide_eq_false (by omega)) ?_)
    refine GP.take rfl rfl (Does.move rfl ?_)
    refine GP.takeG rfl rfl rfl rfl (Does.move rfl ?_)
    refine GP.takeG rfl rfl rfl rfl (Does.eql rfl rfl (show decide ((c : Int) = 9) = true from decide_eq_true (by omega)) ?_)
    refine GP.take rfl rfl (Does.pickF rfl rfl ?_)
    refine GP.take rfl rfl (Does.move rfl ?_)
    refine GP.pass rfl rfl rfl rfl rfl ?_
    refine GP.pass rfl rfl rfl rfl rfl ?_
    refine GP.take rfl rfl (Does.pickT rfl rfl ?_)
    refine GP.take rfl rfl (Does.assign rfl ?_)
    refine GP.keep [(2, _)] (.cons rfl .nil) ?_
    exact fin_ret (fn := Tryd.f16) Tryd.func16 (res1 rfl rfl) .nil ⟨by simp [blankF, h2], rfl⟩
  refine G.region [.loc, .loc, .loc, .loc, .loc, .loc, .loc, .loc, .loc, .loc, .loc] (.take 0 (.take 1 (.take 2 (.take 3 (.take 4 (.take 5 (.take 6 (.take 7 (.take 8 (.take 9 (.take 10 .done))))))))))) rfl ?_
  refine GP.take rfl rfl (Does.move rfl ?_)
  refine GP.take rfl rfl (Does.eql rfl rfl (show decide ((c : Int) = 32) = false from decide_eq_false (by omega)) ?_)
  refine GP.take rfl rfl (Does.move rfl ?_)
  refine GP.takeG rfl rfl rfl rfl (Does.move rfl ?_)
  refine GP.takeG rfl rfl rfl rfl (Does.eql rfl rfl (show decide ((c : Int) = 9) = false from decide_eq_false (by omega)) ?_)
  refine GP.take rfl rfl (Does.pickF rfl rfl ?_)
  refine GP.take rfl rfl (Does.move rfl ?_)
  refine GP.takeG rfl rfl rfl rfl (Does.move rfl ?_)
  refine GP.takeG rfl rfl rfl rfl (Does.eql rfl rfl (show decide ((c : Int) = 13) = decide (c = 13) from decide_eq_decide.2 (by omega)) ?_)
  refine GP.take rfl rfl (Does.pickF rfl rfl ?_)
  refine GP.take rfl rfl (Does.assign rfl ?_)
  refine GP.keep [(2, _)] (.cons rfl .nil) ?_
  exact fin_ret (fn := Tryd.f16) Tryd.func16 (res1 rfl rfl) .nil ⟨by simp [blankF, h1, h2], rfl⟩
theorem blankB_ct (c : Nat) : Ct Tryd.prog 12 [.int .u8 (c : Int)].toArray (fun _ => True) [] (fun v C' => v = .bool (blankF c) ∧ C' = []) := by
  refine ct_of_walk (fn := Tryd.f12) Tryd.func12 rfl rfl fun w0 hpre hst => ?_
  clear hst
  repeat refine G.seq ?_
  refine G.region [.loc] (.take 0 .done) rfl ?_
  refine GP.take rfl rfl (Does.assign rfl ?_)
  refine GP.keep [(0, _), (2, _)] (.cons rfl (.cons rfl .nil)) ?_
  repeat refine G.seq ?_
  by_cases h1 : c = 32
  · skip
    refine G.region [.loc, .loc, .loc, .loc, .loc, .loc, .loc, .loc, .loc, .loc, .loc] (.take 0 (.take 1 (.take 2 (.take 3 (.take 4 (.take 5 (.take 6 (.take 7 (.take 8 (.take 9 (.take 10 .done))))))))))) rfl ?_
    refine GP.take rfl rfl (Does.move rfl ?_)
    refine GP.take rfl rfl (Does.eql rfl rfl (show decide ((c : Int) = 32) = true from decide_eq_true (by omega)) ?_)
    refine GP.take rfl rfl (Does.move rfl ?_)
    refine GP.pass rfl rfl rfl rfl rfl ?_
    refine GP.pass rfl rfl rfl rfl rfl ?_
    refine GP.take rfl rfl (Does.pickT rfl rfl ?_)
    refine GP.take rfl rfl (Does.move rfl ?_)
    refine GP.pass rfl rfl rfl rfl rfl ?_
    refine GP.pass rfl rfl rfl rfl rfl ?_
    refine GP.take rfl rfl (Does.pickT rfl rfl ?_)
    refine GP.take rfl rfl (Does.assign rfl ?_)
    refine GP.keep [(2, _)] (.cons rfl .nil) ?_
    exact fin_ret (fn := Tryd.f12) Tryd.func12 (res1 rfl rfl) .nil ⟨by simp [blankF, h1], rfl⟩
  by_cases h2 : c = 9
  · skip
    refine G.region [.loc, .loc, .loc, .loc, .loc, .loc, .loc, .loc, .loc, .loc, .loc] (.take 0 (.take 1 (.take 2 (.take 3 (.take 4 (.take 5 (.take 6 (.take 7 (.take 8 (.take 9 (.take 10 .done))))))))))) rfl ?_
    refine GP.take rfl rfl (Does.move rfl ?_)
    refine GP.take rfl rfl (Does.eql rfl rfl (show decide ((c : Int) = 32) = false from decide_eq_false (by omega)) ?_)
    refine GP.take rfl rfl (Does.move rfl ?_)
    refine GP.takeG rfl rfl rfl rfl (Does.move rfl ?_)
    refine GP.takeG rfl rfl rfl rfl (Does.eql rfl rfl (show decide ((c : Int) = 9) = true from decide_eq_true (by omega)) ?_)
    refine GP.take rfl rfl (Does.pickF rfl rfl ?_)
    refine GP.take rfl rfl (Does.move rfl ?_)
    refine GP.pass rfl rfl rfl rfl rfl ?_
    refine GP.pass rfl rfl rfl rfl rfl ?_
    refine GP.take rfl rfl (Does.pickT rfl rfl ?_)
    refine GP.take rfl rfl (Does.assign rfl ?_)
    refine GP.keep [(2, _)] (.cons rfl .nil) ?_
    exact fin_ret (fn := Tryd.f12) Tryd.func12 (res1 rfl rfl) .nil ⟨by simp [blankF, h2], rfl⟩
  refine G.region [.loc, .loc, .loc, .loc, .loc, .loc, .loc, .loc, .loc, .loc, .loc] (.take 0 (.take 1 (.take 2 (.take 3 (.take 4 (.take 5 (.take 6 (.take 7 (.take 8 (.take 9 (.take 10 .done))))))))))) rfl ?_
  refine GP.take rfl rfl (Does.move rfl ?_)
  refine GP.take rfl rfl (Does.eql rfl rfl (show decide ((c : Int) = 32) = false from decide_eq_false (by omega)) ?_)
  refine GP.take rfl rfl (Does.move rfl ?_)
  refine GP.takeG rfl rfl rfl rfl (Does.move rfl ?_)
  refine GP.takeG rfl rfl rfl rfl (Does.eql rfl rfl (show decide ((c : Int) = 9) = false from decide_eq_false (by omega)) ?_)
  refine GP.take rfl rfl (Does.pickF rfl rfl ?_)
  refine GP.take rfl rfl (Does.move rfl ?_)
  refine GP.takeG rfl rfl rfl rfl (Does.move rfl ?_)
  refine GP.takeG rfl rfl rfl rfl (Does.eql rfl rfl (show decide ((c : Int) = 13) = decide (c = 13) from decide_eq_decide.2 (by omega)) ?_)
  refine GP.take rfl rfl (Does.pickF rfl rfl ?_)
  refine GP.take rfl rfl (Does.assign rfl ?_)
  refine GP.keep [(2, _)] (.cons rfl .nil) ?_
  exact fin_ret (fn := Tryd.f12) Tryd.func12 (res1 rfl rfl) .nil ⟨by simp [blankF, h1, h2], rfl⟩
theorem digit_ct (c : Nat) : Ct Tryd.prog 15 [.int .i32 (c : Int)].toArray (fun _ => True) [] (fun v C' => v = .int .i64 (digF c) ∧ C' = []) := by
  refine ct_of_walk (fn := Tryd.f15) Tryd.func15 rfl rfl fun w0 hpre hst => ?_
  clear hst
  repeat refine G.seq ?_
  refine G.region [.loc] (.take 0 .done) rfl ?_
  refine GP.take rfl rfl (Does.assign rfl ?_)
  refine GP.keep [(0, _)] (.cons rfl .nil) ?_
  repeat refine G.seq ?_
  refine G.block ?_
  repeat refine G.seq ?_
  refine G.join (S := Unit) (fun _ => [(0, .int .i32 (c : Int)), (3, .bool (decide (48 ≤ c ∧ c ≤ 57)))]) (fun _ => []) (fun _ => True) ?_ fun key => ?_
  case refine_2 =>
    by_cases h1 : 48 ≤ c
    · by_cases h2 : c ≤ 57
      · rw [decide_eq_true (show 48 ≤ c ∧ c ≤ 57 from ⟨h1, h2⟩)] at key
        refine G.region [.loc, .loc, .loc, .loc, .loc, .loc, .loc] (.take 0 (.take 1 (.take 2 (.take 3 (.take 4 (.take 5 (.take 6 .done))))))) rfl ?_
        refine GP.take rfl rfl (Does.move rfl ?_)
        refine GP.take rfl rfl (Does.geq rfl rfl (show decide ((c : Int) ≥ 48) = true from decide_eq_true (by omega)) ?_)
        refine GP.take rfl rfl (Does.move rfl ?_)
        refine GP.takeG rfl rfl rfl rfl (Does.move rfl ?_)
        refine GP.takeG rfl rfl rfl rfl (Does.leq rfl rfl (show decide ((c : Int) ≤ 57) = true from decide_eq_true (by omega)) ?_)
        refine GP.take rfl rfl (Does.pickT rfl rfl ?_)
        refine GP.take rfl rfl (Does.assign rfl ?_)
        refine GP.keep [(0, _), (3, _)] (.cons rfl (.cons rfl .nil)) ?_
        exact key () trivial
      · rw [decide_eq_false (show ¬ (48 ≤ c ∧ c ≤ 57) from fun h => h2 h.2)] at key
        refine G.region [.loc, .loc, .loc, .loc, .loc, .loc, .loc] (.take 0 (.take 1 (.take 2 (.take 3 (.take 4 (.take 5 (.take 6 .done))))))) rfl ?_
        refine GP.take rfl rfl (Does.move rfl ?_)
        refine GP.take rfl rfl (Does.geq rfl rfl (show decide ((c : Int) ≥ 48) = true from decide_eq_true (by omega)) ?_)
        refine GP.take rfl rfl (Does.move rfl ?_)
        refine GP.takeG rfl rfl rfl rfl (Does.move rfl ?_)
        refine GP.takeG rfl rfl rfl rfl (Does.leq rfl rfl (show decide ((c : Int) ≤ 57) = false from decide_eq_false (by omega)) ?_)
        refine GP.take rfl rfl (Does.pickT rfl rfl ?_)
        refine GP.take rfl rfl (Does.assign rfl ?_)
        refine GP.keep [(0, _), (3, _)] (.cons rfl (.cons rfl .nil)) ?_
        exact key () trivial
    · rw [decide_eq_false (show ¬ (48 ≤ c ∧ c ≤ 57) from fun h => h1 h.1)] at key
      refine G.region [.loc, .loc, .loc, .loc, .loc, .loc, .loc] (.take 0 (.take 1 (.take 2 (.take 3 (.take 4 (.take 5 (.take 6 .done))))))) rfl ?_
      refine GP.take rfl rfl (Does.move rfl ?_)
      refine GP.take rfl rfl (Does.geq rfl rfl (show decide ((c : Int) ≥ 48) = false from decide_eq_false (by omega)) ?_)
      refine GP.take rfl rfl (Does.move rfl ?_)
      refine GP.pass rfl rfl rfl rfl rfl ?_
      refine GP.pass rfl rfl rfl rfl rfl ?_
      refine GP.take rfl rfl (Does.pickF rfl rfl ?_)
      refine GP.take rfl rfl (Does.assign rfl ?_)
      refine GP.keep [(0, _), (3, _)] (.cons rfl (.cons rfl .nil)) ?_
      exact key () trivial
  rintro - -
  refine G.cond rfl ?_ ?_
  · intro hc
    repeat refine G.seq ?_
    refine G.region [.loc, .loc, .gen, .loc] (.take 0 (.take 1 (.take 2 (.take 3 .done)))) rfl ?_
    refine GP.take rfl rfl (Does.move rfl ?_)
    refine GP.take rfl rfl (Does.sub rfl rfl (r := (c : Int) - 48) (wr_i32 (by omega) (by omega)) ?_)
    refine GP.take rfl rfl (Does.conv rfl Tryd.underlying3 ⟨_, Tryd.underlying21⟩ (r := (c : Int) - 48) (wr_i64 (by omega) (by omega)) ?_)
    refine GP.take rfl rfl (Does.assign rfl ?_)
    refine GP.keep [(2, _)] (.cons rfl .nil) ?_
    exact fin_ret (fn := Tryd.f15) Tryd.func15 (res1 rfl rfl) .nil ⟨by unfold digF; (repeat rw [if_neg (by omega)]); rw [if_pos (by omega)], rfl⟩
  intro h48
  repeat refine G.seq ?_
  refine G.join (S := Unit) (fun _ => [(0, .int .i32 (c : Int)), (13, .bool (decide (97 ≤ c ∧ c ≤ 102)))]) (fun _ => []) (fun _ => True) ?_ fun key => ?_
  case refine_2 =>
    by_cases h1 : 97 ≤ c
    · by_cases h2 : c ≤ 102
      · rw [decide_eq_true (show 97 ≤ c ∧ c ≤ 102 from ⟨h1, h2⟩)] at key
        refine G.region [.loc, .loc, .loc, .loc, .loc, .loc, .loc] (.take 0 (.take 1 (.take 2 (.take 3 (.take 4 (.take 5 (.take 6 .done))))))) rfl ?_
        refine GP.take rfl rfl (Does.move rfl ?_)
        refine GP.take rfl rfl (Does.geq rfl rfl (show decide ((c : Int) ≥ 97) = true from decide_eq_true (by omega)) ?_)
        refine GP.take rfl rfl (Does.move rfl ?_)
        refine GP.takeG rfl rfl rfl rfl (Does.move rfl ?_)
        refine GP.takeG rfl rfl rfl rfl (Does.leq rfl rfl (show decide ((c : Int) ≤ 102) = true from decide_eq_true (by omega)) ?_)
        refine GP.take rfl rfl (Does.pickT rfl rfl ?_)
        refine GP.take rfl rfl (Does.assign rfl ?_)
        refine GP.keep [(0, _), (13, _)] (.cons rfl (.cons rfl .nil)) ?_
        exact key () trivial
      · rw [decide_eq_false (show ¬ (97 ≤ c ∧ c ≤ 102) from fun h => h2 h.2)] at key
        refine G.region [.loc, .loc, .loc, .loc, .loc, .loc, .loc] (.take 0 (.take 1 (.take 2 (.take 3 (.take 4 (.take 5 (.take 6 .done))))))) rfl ?_
        refine GP.take rfl rfl (Does.move rfl ?_)
        refine GP.take rfl rfl (Does.geq rfl rfl (show decide ((c : Int) ≥ 97) = true from decide_eq_true (by omega)) ?_)
        refine GP.take rfl rfl (Does.move rfl ?_)
        refine GP.takeG rfl rfl rfl rfl (Does.move rfl ?_)
        refine GP.takeG rfl rfl rfl rfl (Does.leq rfl rfl (show decide ((c : Int) ≤ 102) = false from decide_eq_false (by omega)) ?_)
        refine GP.take rfl rfl (Does.pickT rfl rfl ?_)
        refine GP.take rfl rfl (Does.assign rfl ?_)
        refine GP.keep [(0, _), (13, _)] (.cons rfl (.cons rfl .nil)) ?_
        exact key () trivial
    · rw [decide_eq_false (show ¬ (97 ≤ c ∧ c ≤ 102) from fun h => h1 h.1)] at key
      refine G.region [.loc, .loc, .loc, .loc, .loc, .loc, .loc] (.take 0 (.take 1 (.take 2 (.take 3 (.take 4 (.take 5 (.take 6 .done))))))) rfl ?_
      refine GP.take rfl rfl (Does.move rfl ?_)
      refine GP.take rfl rfl (Does.geq rfl rfl (show decide ((c : Int) ≥ 97) = false from decide_eq_false (by omega)) ?_)
      refine GP.take rfl rfl (Does.move rfl ?_)
      refine GP.pass rfl rfl rfl rfl rfl ?_
      refine GP.pass rfl rfl rfl rfl rfl ?_
      refine GP.take rfl rfl (Does.pickF rfl rfl ?_)
      refine GP.take rfl rfl (Does.assign rfl ?_)
      refine GP.keep [(0, _), (13, _)] (.cons rfl (.cons rfl .nil)) ?_
      exact key () trivial
  rintro - -
  refine G.cond rfl ?_ ?_
  · intro hc
    repeat refine G.seq ?_
    refine G.region [.loc, .loc, .gen, .loc, .loc] (.take 0 (.take 1 (.take 2 (.take 3 (.take 4 .done))))) rfl ?_
    refine GP.take rfl rfl (Does.move rfl ?_)
    refine GP.take rfl rfl (Does.sub rfl rfl (r := (c : Int) - 97) (wr_i32 (by omega) (by omega)) ?_)
    refine GP.take rfl rfl (Does.conv rfl Tryd.underlying3 ⟨_, Tryd.underlying21⟩ (r := (c : Int) - 97) (wr_i64 (by omega) (by omega)) ?_)
    refine GP.take rfl rfl (Does.add rfl rfl (r := (c : Int) - 97 + 10) (wr_i64 (by omega) (by omega)) ?_)
    refine GP.take rfl rfl (Does.assign rfl ?_)
    refine GP.keep [(2, _)] (.cons rfl .nil) ?_
    exact fin_ret (fn := Tryd.f15) Tryd.func15 (res1 rfl rfl) .nil ⟨by unfold digF; (repeat rw [if_neg (by omega)]); rw [if_pos (by omega)], rfl⟩
  intro h97
  repeat refine G.seq ?_
  refine G.join (S := Unit) (fun _ => [(0, .int .i32 (c : Int)), (24, .bool (decide (65 ≤ c ∧ c ≤ 70)))]) (fun _ => []) (fun _ => True) ?_ fun key => ?_
  case refine_2 =>
    by_cases h1 : 65 ≤ c
    · by_cases h2 : c ≤ 70
      · rw [decide_eq_true (show 65 ≤ c ∧ c ≤ 70 from ⟨h1, h2⟩)] at key
        refine G.region [.loc, .loc, .loc, .loc, .loc, .loc, .loc] (.take 0 (.take 1 (.take 2 (.take 3 (.take 4 (.take 5 (.take 6 .done))))))) rfl ?_
        refine GP.take rfl rfl (Does.move rfl ?_)
        refine GP.take rfl rfl (Does.geq rfl rfl (show decide ((c : Int) ≥ 65) = true from decide_eq_true (by omega)) ?_)
        refine GP.take rfl rfl (Does.move rfl ?_)
        refine GP.takeG rfl rfl rfl rfl (Does.move rfl ?_)
        refine GP.takeG rfl rfl rfl rfl (Does.leq rfl rfl (show decide ((c : Int) ≤ 70) = true from decide_eq_true (by omega)) ?_)
        refine GP.take rfl rfl (Does.pickT rfl rfl ?_)
        refine GP.take rfl rfl (Does.assign rfl ?_)
        refine GP.keep [(0, _), (24, _)] (.cons rfl (.cons rfl .nil)) ?_
        exact key () trivial
      · rw [decide_eq_false (show ¬ (65 ≤ c ∧ c ≤ 70) from fun h => h2 h.2)] at key
        refine G.region [.loc, .loc, .loc, .loc, .loc, .loc, .loc] (.take 0 (.take 1 (.take 2 (.take 3 (.take 4 (.take 5 (.take 6 .done))))))) rfl ?_
        refine GP.take rfl rfl (Does.move rfl ?_)
        refine GP.take rfl rfl (Does.geq rfl rfl (show decide ((c : Int) ≥ 65) = true from decide_eq_true (by omega)) ?_)
        refine GP.take rfl rfl (Does.move rfl ?_)
        refine GP.takeG rfl rfl rfl rfl (Does.move rfl ?_)
        refine GP.takeG rfl rfl rfl rfl (Does.leq rfl rfl (show decide ((c : Int) ≤ 70) = false from decide_eq_false (by omega)) ?_)
        refine GP.take rfl rfl (Does.pickT rfl rfl ?_)
        refine GP.take rfl rfl (Does.assign rfl ?_)
        refine GP.keep [(0, _), (24, _)] (.cons rfl (.cons rfl .nil)) ?_
        exact key () trivial
    · rw [decide_eq_false (show ¬ (65 ≤ c ∧ c ≤ 70) from fun h => h1 h.1)] at key
      refine G.region [.loc, .loc, .loc, .loc, .loc, .loc, .loc] (.take 0 (.take 1 (.take 2 (.take 3 (.take 4 (.take 5 (.take 6 .done))))))) rfl ?_
      refine GP.take rfl rfl (Does.move rfl ?_)
      refine GP.take rfl rfl (Does.geq rfl rfl (show decide ((c : Int) ≥ 65) = false from decide_eq_false (by omega)) ?_)
      refine GP.take rfl rfl (Does.move rfl ?_)
      refine GP.pass rfl rfl rfl rfl rfl ?_
      refine GP.pass rfl rfl rfl rfl rfl ?_
      refine GP.take rfl rfl (Does.pickF rfl rfl ?_)
      refine GP.take rfl rfl (Does.assign rfl ?_)
      refine GP.keep [(0, _), (24, _)] (.cons rfl (.cons rfl .nil)) ?_
      exact key () trivial
  rintro - -
  refine G.cond rfl ?_ ?_
  · intro hc
    repeat refine G.seq ?_
    refine G.region [.loc, .loc, .gen, .loc, .loc] (.take 0 (.take 1 (.take 2 (.take 3 (.take 4 .done))))) rfl ?_
    refine GP.take rfl rfl (Does.move rfl ?_)
    refine GP.take rfl rfl (Does.sub rfl rfl (r := (c : Int) - 65) (wr_i32 (by omega) (by omega)) ?_)
    refine GP.take rfl rfl (Does.conv rfl Tryd.underlying3 ⟨_, Tryd.underlying21⟩ (r := (c : Int) - 65) (wr_i64 (by omega) (by omega)) ?_)
    refine GP.take rfl rfl (Does.add rfl rfl (r := (c : Int) - 65 + 10) (wr_i64 (by omega) (by omega)) ?_)
    refine GP.take rfl rfl (Does.assign rfl ?_)
    refine GP.keep [(2, _)] (.cons rfl .nil) ?_
    exact fin_ret (fn := Tryd.f15) Tryd.func15 (res1 rfl rfl) .nil ⟨by unfold digF; (repeat rw [if_neg (by omega)]); rw [if_pos (by omega)], rfl⟩
  intro h65
  repeat refine G.seq ?_
  refine G.skip ?_
  refine G.inBlock ?_
  repeat refine G.seq ?_
  refine G.region [.loc] (.take 0 .done) rfl ?_
  refine GP.take rfl rfl (Does.assign rfl ?_)
  refine GP.keep [(2, _)] (.cons rfl .nil) ?_
  exact fin_ret (fn := Tryd.f15) Tryd.func15 (res1 rfl rfl) .nil ⟨by unfold digF; (repeat rw [if_neg (by omega)]), rfl⟩
theorem digitB_ct (c : Nat) : Ct Tryd.prog 18 [.int .u8 (c : Int)].toArray (fun _ => True) [] (fun v C' => v = .int .i64 (digF c) ∧ C' = []) := by
  refine ct_of_walk (fn := Tryd.f18) Tryd.func18 rfl rfl fun w0 hpre hst => ?_
  clear hst
  repeat refine G.seq ?_
  refine G.region [.loc] (.take 0 .done) rfl ?_
  refine GP.take rfl rfl (Does.assign rfl ?_)
  refine GP.keep [(0, _)] (.cons rfl .nil) ?_
  repeat refine G.seq ?_
  refine G.join (S := Unit) (fun _ => [(0, .int .u8 (c : Int)), (8, .bool (decide (48 ≤ c ∧ c ≤ 57)))]) (fun _ => []) (fun _ => True) ?_ fun key => ?_
  case refine_2 =>
    by_cases h1 : 48 ≤ c
    · by_cases h2 : c ≤ 57
      · rw [decide_eq_true (show 48 ≤ c ∧ c ≤ 57 from ⟨h1, h2⟩)] at key
        refine G.region [.loc, .loc, .loc, .loc, .loc, .loc] (.take 0 (.take 1 (.take 2 (.take 3 (.take 4 (.take 5 .done)))))) rfl ?_
        refine GP.take rfl rfl (Does.move rfl ?_)
        refine GP.take rfl rfl (Does.geq rfl rfl (show decide ((c : Int) ≥ 48) = true from decide_eq_true (by omega)) ?_)
        refine GP.take rfl rfl (Does.move rfl ?_)
        refine GP.takeG rfl rfl rfl rfl (Does.move rfl ?_)
        refine GP.takeG rfl rfl rfl rfl (Does.leq rfl rfl (show decide ((c : Int) ≤ 57) = true from decide_eq_true (by omega)) ?_)
        refine GP.take rfl rfl (Does.pickT rfl rfl ?_)
        refine GP.keep [(0, _), (8, _)] (.cons rfl (.cons rfl .nil)) ?_
        exact key () trivial
      · rw [decide_eq_false (show ¬ (48 ≤ c ∧ c ≤ 57) from fun h => h2 h.2)] at key
        refine G.region [.loc, .loc, .loc, .loc, .loc, .loc] (.take 0 (.take 1 (.take 2 (.take 3 (.take 4 (.take 5 .done)))))) rfl ?_
        refine GP.take rfl rfl (Does.move rfl ?_)
        refine GP.take rfl rfl (Does.geq rfl rfl (show decide ((c : Int) ≥ 48) = true from decide_eq_true (by omega)) ?_)
        refine GP.take rfl rfl (Does.move rfl ?_)
        refine GP.takeG rfl rfl rfl rfl (Does.move rfl ?_)
        refine GP.takeG rfl rfl rfl rfl (Does.leq rfl rfl (show decide ((c : Int) ≤ 57) = false from decide_eq_false (by omega)) ?_)
        refine GP.take rfl rfl (Does.pickT rfl rfl ?_)
        refine GP.keep [(0, _), (8, _)] (.cons rfl (.cons rfl .nil)) ?_
        exact key () trivial
    · rw [decide_eq_false (show ¬ (48 ≤ c ∧ c ≤ 57) from fun h => h1 h.1)] at key
      refine G.region [.loc, .loc, .loc, .loc, .loc, .loc] (.take 0 (.take 1 (.take 2 (.take 3 (.take 4 (.take 5 .done)))))) rfl ?_
      refine GP.take rfl rfl (Does.move rfl ?_)
      refine GP.take rfl rfl (Does.geq rfl rfl (show decide ((c : Int) ≥ 48) = false from decide_eq_false (by omega)) ?_)
      refine GP.take rfl rfl (Does.move rfl ?_)
      refine GP.pass rfl rfl rfl rfl rfl ?_
      refine GP.pass rfl rfl rfl rfl rfl ?_
      refine GP.take rfl rfl (Does.pickF rfl rfl ?_)
      refine GP.keep [(0, _), (8, _)] (.cons rfl (.cons rfl .nil)) ?_
      exact key () trivial
  rintro - -
  refine G.cond rfl ?_ ?_
  · intro hc
    repeat refine G.seq ?_
    refine G.region [.loc, .gen, .loc, .loc] (.take 0 (.take 1 (.take 2 (.take 3 .done)))) rfl ?_
    refine GP.take rfl rfl (Does.move rfl ?_)
    refine GP.take rfl rfl (Does.conv rfl Tryd.underlying3 ⟨_, Tryd.underlying5⟩ (r := (c : Int)) (wr_i64 (by omega) (by omega)) ?_)
    refine GP.take rfl rfl (Does.sub rfl rfl (r := (c : Int) - 48) (wr_i64 (by omega) (by omega)) ?_)
    refine GP.take rfl rfl (Does.assign rfl ?_)
    refine GP.keep [(2, _)] (.cons rfl .nil) ?_
    exact fin_ret (fn := Tryd.f18) Tryd.func18 (res1 rfl rfl) .nil ⟨by unfold digF; (repeat rw [if_neg (by omega)]); rw [if_pos (by omega)], rfl⟩
  intro h48
  refine G.skip ?_
  repeat refine G.seq ?_
  refine G.join (S := Unit) (fun _ => [(0, .int .u8 (c : Int)), (17, .bool (decide (97 ≤ c ∧ c ≤ 102)))]) (fun _ => []) (fun _ => True) ?_ fun key => ?_
  case refine_2 =>
    by_cases h1 : 97 ≤ c
    · by_cases h2 : c ≤ 102
      · rw [decide_eq_true (show 97 ≤ c ∧ c ≤ 102 from ⟨h1, h2⟩)] at key
        refine G.region [.loc, .loc, .loc, .loc, .loc, .loc] (.take 0 (.take 1 (.take 2 (.take 3 (.take 4 (.take 5 .done)))))) rfl ?_
        refine GP.take rfl rfl (Does.move rfl ?_)
        refine GP.take rfl rfl (Does.geq rfl rfl (show decide ((c : Int) ≥ 97) = true from decide_eq_true (by omega)) ?_)
        refine GP.take rfl rfl (Does.move rfl ?_)
        refine GP.takeG rfl rfl rfl rfl (Does.move rfl ?_)
        refine GP.takeG rfl rfl rfl rfl (Does.leq rfl rfl (show decide ((c : Int) ≤ 102) = true from decide_eq_true (by omega)) ?_)
        refine GP.take rfl rfl (Does.pickT rfl rfl ?_)
        refine GP.keep [(0, _), (17, _)] (.cons rfl (.cons rfl .nil)) ?_
        exact key () trivial
      · rw [decide_eq_false (show ¬ (97 ≤ c ∧ c ≤ 102) from fun h => h2 h.2)] at key
        refine G.region [.loc, .loc, .loc, .loc, .loc, .loc] (.take 0 (.take 1 (.take 2 (.take 3 (.take 4 (.take 5 .done)))))) rfl ?_
        refine GP.take rfl rfl (Does.move rfl ?_)
        refine GP.take rfl rfl (Does.geq rfl rfl (show decide ((c : Int) ≥ 97) = true from decide_eq_true (by omega)) ?_)
        refine GP.take rfl rfl (Does.move rfl ?_)
        refine GP.takeG rfl rfl rfl rfl (Does.move rfl ?_)
        refine GP.takeG rfl rfl rfl rfl (Does.leq rfl rfl (show decide ((c : Int) ≤ 102) = false from decide_eq_false (by omega)) ?_)
        refine GP.take rfl rfl (Does.pickT rfl rfl ?_)
        refine GP.keep [(0, _), (17, _)] (.cons rfl (.cons rfl .nil)) ?_
        exact key () trivial
    · rw [decide_eq_false (show ¬ (97 ≤ c ∧ c ≤ 102) from fun h => h1 h.1)] at key
      refine G.region [.loc, .loc, .loc, .loc, .loc, .loc] (.take 0 (.take 1 (.take 2 (.take 3 (.take 4 (.take 5 .done)))))) rfl ?_
      refine GP.take rfl rfl (Does.move rfl ?_)
      refine GP.take rfl rfl (Does.geq rfl rfl (show decide ((c : Int) ≥ 97) = false from decide_eq_false (by omega)) ?_)
      refine GP.take rfl rfl (Does.move rfl ?_)
      refine GP.pass rfl rfl rfl rfl rfl ?_
      refine GP.pass rfl rfl rfl rfl rfl ?_
      refine GP.take rfl rfl (Does.pickF rfl rfl ?_)
      refine GP.keep [(0, _), (17, _)] (.cons rfl (.cons rfl .nil)) ?_
      exact key () trivial
  rintro - -
  refine G.cond rfl ?_ ?_
  · intro hc
    repeat refine G.seq ?_
    refine G.region [.loc, .gen, .loc, .loc, .loc] (.take 0 (.take 1 (.take 2 (.take 3 (.take 4 .done))))) rfl ?_
    refine GP.take rfl rfl (Does.move rfl ?_)
    refine GP.take rfl rfl (Does.conv rfl Tryd.underlying3 ⟨_, Tryd.underlying5⟩ (r := (c : Int)) (wr_i64 (by omega) (by omega)) ?_)
    refine GP.take rfl rfl (Does.sub rfl rfl (r := (c : Int) - 97) (wr_i64 (by omega) (by omega)) ?_)
    refine GP.take rfl rfl (Does.add rfl rfl (r := (c : Int) - 97 + 10) (wr_i64 (by omega) (by omega)) ?_)
    refine GP.take rfl rfl (Does.assign rfl ?_)
    refine GP.keep [(2, _)] (.cons rfl .nil) ?_
    exact fin_ret (fn := Tryd.f18) Tryd.func18 (res1 rfl rfl) .nil ⟨by unfold digF; (repeat rw [if_neg (by omega)]); rw [if_pos (by omega)], rfl⟩
  intro h97
  refine G.skip ?_
  repeat refine G.seq ?_
  refine G.join (S := Unit) (fun _ => [(0, .int .u8 (c : Int)), (27, .bool (decide (65 ≤ c ∧ c ≤ 70)))]) (fun _ => []) (fun _ => True) ?_ fun key => ?_
  case refine_2 =>
    by_cases h1 : 65 ≤ c
    · by_cases h2 : c ≤ 70
      · rw [decide_eq_true (show 65 ≤ c ∧ c ≤ 70 from ⟨h1, h2⟩)] at key
        refine G.region [.loc, .loc, .loc, .loc, .loc, .loc] (.take 0 (.take 1 (.take 2 (.take 3 (.take 4 (.take 5 .done)))))) rfl ?_
        refine GP.take rfl rfl (Does.move rfl ?_)
        refine GP.take rfl rfl (Does.geq rfl rfl (show decide ((c : Int) ≥ 65) = true from decide_eq_true (by omega)) ?_)
        refine GP.take rfl rfl (Does.move rfl ?_)
        refine GP.takeG rfl rfl rfl rfl (Does.move rfl ?_)
        refine GP.takeG rfl rfl rfl rfl (Does.leq rfl rfl (show decide ((c : Int) ≤ 70) = true from decide_eq_true (by omega)) ?_)
        refine GP.take rfl rfl (Does.pickT rfl rfl ?_)
        refine GP.keep [(0, _), (27, _)] (.cons rfl (.cons rfl .nil)) ?_
        exact key () trivial
      · rw [decide_eq_false (show ¬ (65 ≤ c ∧ c ≤ 70) from fun h => h2 h.2)] at key
        refine G.region [.loc, .loc, .loc, .loc, .loc, .loc] (.take 0 (.take 1 (.take 2 (.take 3 (.take 4 (.take 5 .done)))))) rfl ?_
        refine GP.take rfl rfl (Does.move rfl ?_)
        refine GP.take rfl rfl (Does.geq rfl rfl (show decide ((c : Int) ≥ 65) = true from decide_eq_true (by omega)) ?_)
        refine GP.take rfl rfl (Does.move rfl ?_)
        refine GP.takeG rfl rfl rfl rfl (Does.move rfl ?_)
        refine GP.takeG rfl rfl rfl rfl (Does.leq rfl rfl (show decide ((c : Int) ≤ 70) = false from decide_eq_false (by omega)) ?_)
        refine GP.take rfl rfl (Does.pickT rfl rfl ?_)
        refine GP.keep [(0, _), (27, _)] (.cons rfl (.cons rfl .nil)) ?_
        exact key () trivial
    · rw [decide_eq_false (show ¬ (65 ≤ c ∧ c ≤ 70) from fun h => h1 h.1)] at key
      refine G.region [.loc, .loc, .loc, .loc, .loc, .loc] (.take 0 (.take 1 (.take 2 (.take 3 (.take 4 (.take 5 .done)))))) rfl ?_
      refine GP.take rfl rfl (Does.move rfl ?_)
      refine GP.take rfl rfl (Does.geq rfl rfl (show decide ((c : Int) ≥ 65) = false from decide_eq_false (by omega)) ?_)
      refine GP.take rfl rfl (Does.move rfl ?_)
      refine GP.pass rfl rfl rfl rfl rfl ?_
      refine GP.pass rfl rfl rfl rfl rfl ?_
      refine GP.take rfl rfl (Does.pickF rfl rfl ?_)
      refine GP.keep [(0, _), (27, _)] (.cons rfl (.cons rfl .nil)) ?_
      exact key () trivial
  rintro - -
  refine G.cond rfl ?_ ?_
  · intro hc
    repeat refine G.seq ?_
    refine G.region [.loc, .gen, .loc, .loc, .loc] (.take 0 (.take 1 (.take 2 (.take 3 (.take 4 .done))))) rfl ?_
    refine GP.take rfl rfl (Does.move rfl ?_)
    refine GP.take rfl rfl (Does.conv rfl Tryd.underlying3 ⟨_, Tryd.underlying5⟩ (r := (c : Int)) (wr_i64 (by omega) (by omega)) ?_)
    refine GP.take rfl rfl (Does.sub rfl rfl (r := (c : Int) - 65) (wr_i64 (by omega) (by omega)) ?_)
    refine GP.take rfl rfl (Does.add rfl rfl (r := (c : Int) - 65 + 10) (wr_i64 (by omega) (by omega)) ?_)
    refine GP.take rfl rfl (Does.assign rfl ?_)
    refine GP.keep [(2, _)] (.cons rfl .nil) ?_
    exact fin_ret (fn := Tryd.f18) Tryd.func18 (res1 rfl rfl) .nil ⟨by unfold digF; (repeat rw [if_neg (by omega)]); rw [if_pos (by omega)], rfl⟩
  intro h65
  refine G.skip ?_
  repeat refine G.seq ?_
  refine G.region [.loc] (.take 0 .done) rfl ?_
  refine GP.take rfl rfl (Does.assign rfl ?_)
  refine GP.keep [(2, _)] (.cons rfl .nil) ?_
  exact fin_ret (fn := Tryd.f18) Tryd.func18 (res1 rfl rfl) .nil ⟨by unfold digF; (repeat rw [if_neg (by omega)]), rfl⟩
/-- the scanner: where it is, its first digit, its word, its words -/
structure Sc where
  at_ : Int
  high : Int
  word : List UInt8
  words : List (List UInt8)
def scell (s : Sc) (wv wsv : Value) : Obj := cel 35 [.int .i64 s.at_, .int .i64 s.high, wv, wsv]
def ScR (sb : Nat) (s : Sc) (C : Chunks) : Prop := ∃ wv wsv Cw Cws, C = (sb, scell s wv wsv) :: (Cw ++ Cws) ∧ Rep 5 rU s.word wv Cw ∧ Rep 9 str s.words wsv Cws
def endS (s : Sc) : Sc := { s with at_ := 0, word := [], words := s.words ++ [s.word] }
theorem end_ct (sb : Nat) (s : Sc) (C : Chunks) (hs : ScR sb s C) (hw : s.words.length ≤ 1048576) : Ct Tryd.prog 11 [.pointer (some ⟨sb, 0, none⟩)].toArray (fun _ => True) C (fun v C' => v = .tuple #[] ∧ ScR sb (endS s) C') := by
  obtain ⟨wv, wsv, Cw, Cws, rfl, h1, h2⟩ := hs
  unfold scell
  refine ct_of_walk (fn := Tryd.f11) Tryd.func11 rfl rfl fun w0 hpre hst => ?_
  clear hst
  repeat refine G.seq ?_
  refine G.draw [.loc, .loc, .loc, .loc, .load, .loc, .loc, .loc, .load, .gen, .alloc, .gen, .loc, .loc, .gen] (.take 0 (.take 1 (.take 2 (.take 3 (.take 5 (.take 6 (.take 7 (.take 8 (.alt 4 (.alt 9 (.alt 10 (.alt 11 (.take 12 (.take 13 (.alt 14 .done .stop))) .stop) .stop) .stop) (.alt 9 (.take 4 (.alt 10 (.alt 11 (.take 12 (.take 13 (.alt 14 .done .stop))) .stop) .stop)) .stop)))))))))) (by exact mixed) (by kernel_rfl) ?_
  intro N hN0 hN
  refine GP.take rfl rfl (Does.move rfl ?_)
  refine GP.take rfl rfl (Does.move rfl ?_)
  refine GP.take rfl rfl (Does.nilCheck rfl ?_)
  refine GP.take rfl rfl (Does.fieldAddr rfl fo35_3 ?_)
  refine GP.take rfl rfl (Does.move rfl ?_)
  refine GP.take rfl rfl (Does.nilCheck rfl ?_)
  refine GP.take rfl rfl (Does.fieldAddr rfl fo35_2 ?_)
  refine GP.take rfl rfl (Does.load1N rfl ft30 (hN _ (.head _)) (CellIn.own (.head _) rfl) ?_)
  refine GP.alt ?_ ?_
  · skip
    refine GP.take rfl rfl (Does.load1N rfl ft22 (hN _ (.head _)) (CellIn.own (.head _) rfl) ?_)
    refine GP.one ?_
    refine GP.take rfl rfl (Does.strR [(sb, cel 35 [.int .i64 s.at_, .int .i64 s.high, wv, wsv])] Cw Cws rfl Tryd.underlying30 Tryd.underlying5 Tryd.underlying9 rfl h1 ?_)
    refine GP.one ?_
    refine GP.take rfl rfl (Does.buildSlice (r := [_]) (.cons rfl .nil) sl22 zl9 (by decide) rfl fun b12 N12 h12 n12 => ?_)
    refine GP.one ?_
    refine GP.take rfl rfl (Does.appendR (row := str) (l := s.words) (xs := [s.word]) (mc := 1) ((b12, cel 9 [str s.word]) :: (sb, cel 35 [.int .i64 s.at_, .int .i64 s.high, wv, wsv]) :: Cw) Cws [] rfl rfl si22 zl9 (by simp) h2 (fun _ => ⟨b12, 0, rfl, RowIn.own (.head _) rfl⟩) (fun _ => rfl) (by decide) (by simp only [List.length_cons, List.length_nil]; omega) ?_)
    intro wsn Cn h3
    refine GP.take rfl rfl (Does.nilCheck rfl ?_)
    refine GP.take rfl rfl (Does.fieldAddr rfl fo35_3 ?_)
    refine GP.one ?_
    refine GP.take0 rfl (Does.store1 rfl rfl sz22 h3.one (.tail .head) (.tail (.tail (.tail .head))) ?_)
    refine GP.keep [(0, _)] (.cons rfl .nil) ?_
    repeat refine G.seq ?_
    refine G.region [.loc, .loc, .loc, .loc, .gen, .loc, .loc, .gen] (.take 0 (.take 1 (.take 2 (.take 3 (.take 4 (.take 5 (.take 6 (.take 7 .done)))))))) rfl ?_
    refine GP.take rfl rfl (Does.move rfl ?_)
    refine GP.take rfl rfl (Does.move rfl ?_)
    refine GP.take rfl rfl (Does.nilCheck rfl ?_)
    refine GP.take rfl rfl (Does.fieldAddr rfl fo35_2 ?_)
    refine GP.take0 rfl (Does.store1 rfl rfl sz30 rfl (.tail .head) (.tail (.tail .head)) ?_)
    refine GP.take rfl rfl (Does.nilCheck rfl ?_)
    refine GP.take rfl rfl (Does.fieldAddr rfl fo35_0 ?_)
    refine GP.take0 rfl (Does.store1 rfl rfl sz3 rfl (.tail .head) .head ?_)
    refine GP.keep [(0, _)] (.cons rfl .nil) ?_
    refine G.perm ?_ (C' := ((b12, cel 9 [str s.word]) :: Cw) ++ ((sb, scell (endS s) (.slice none 0 0) wsn) :: ([] ++ Cn))) (by classical exact List.perm_iff_count.2 fun q => by simp only [scell, endS, List.append_eq, List.nil_append, List.append_nil, List.cons_append, List.count_append, List.count_cons, List.count_nil] <;> omega)
    exact fin_end (fn := Tryd.f11) Tryd.func11 (res0 rfl) (Split.tail _ _) ⟨rfl, _, _, _, _, rfl, Rep.nil, h3⟩
  refine GP.alt ?_ ?_
  · skip
    refine GP.take rfl rfl (Does.strR [(sb, cel 35 [.int .i64 s.at_, .int .i64 s.high, wv, wsv])] Cw Cws rfl Tryd.underlying30 Tryd.underlying5 Tryd.underlying9 rfl h1 ?_)
    refine GP.take rfl rfl (Does.load1N rfl ft22 (hN _ (.head _)) (CellIn.own (.head _) rfl) ?_)
    refine GP.one ?_
    refine GP.take rfl rfl (Does.buildSlice (r := [_]) (.cons rfl .nil) sl22 zl9 (by decide) rfl fun b12 N12 h12 n12 => ?_)
    refine GP.one ?_
    refine GP.take rfl rfl (Does.appendR (row := str) (l := s.words) (xs := [s.word]) (mc := 1) ((b12, cel 9 [str s.word]) :: (sb, cel 35 [.int .i64 s.at_, .int .i64 s.high, wv, wsv]) :: Cw) Cws [] rfl rfl si22 zl9 (by simp) h2 (fun _ => ⟨b12, 0, rfl, RowIn.own (.head _) rfl⟩) (fun _ => rfl) (by decide) (by simp only [List.length_cons, List.length_nil]; omega) ?_)
    intro wsn Cn h3
    refine GP.take rfl rfl (Does.nilCheck rfl ?_)
    refine GP.take rfl rfl (Does.fieldAddr rfl fo35_3 ?_)
    refine GP.one ?_
    refine GP.take0 rfl (Does.store1 rfl rfl sz22 h3.one (.tail .head) (.tail (.tail (.tail .head))) ?_)
    refine GP.keep [(0, _)] (.cons rfl .nil) ?_
    repeat refine G.seq ?_
    refine G.region [.loc, .loc, .loc, .loc, .gen, .loc, .loc, .gen] (.take 0 (.take 1 (.take 2 (.take 3 (.take 4 (.take 5 (.take 6 (.take 7 .done)))))))) rfl ?_
    refine GP.take rfl rfl (Does.move rfl ?_)
    refine GP.take rfl rfl (Does.move rfl ?_)
    refine GP.take rfl rfl (Does.nilCheck rfl ?_)
    refine GP.take rfl rfl (Does.fieldAddr rfl fo35_2 ?_)
    refine GP.take0 rfl (Does.store1 rfl rfl sz30 rfl (.tail .head) (.tail (.tail .head)) ?_)
    refine GP.take rfl rfl (Does.nilCheck rfl ?_)
    refine GP.take rfl rfl (Does.fieldAddr rfl fo35_0 ?_)
    refine GP.take0 rfl (Does.store1 rfl rfl sz3 rfl (.tail .head) .head ?_)
    refine GP.keep [(0, _)] (.cons rfl .nil) ?_
    refine G.perm ?_ (C' := ((b12, cel 9 [str s.word]) :: Cw) ++ ((sb, scell (endS s) (.slice none 0 0) wsn) :: ([] ++ Cn))) (by classical exact List.perm_iff_count.2 fun q => by simp only [scell, endS, List.append_eq, List.nil_append, List.append_nil, List.cons_append, List.count_append, List.count_cons, List.count_nil] <;> omega)
    exact fin_end (fn := Tryd.f11) Tryd.func11 (res0 rfl) (Split.tail _ _) ⟨rfl, _, _, _, _, rfl, Rep.nil, h3⟩
  exact GP.stop
end Go.Proofs.YtcgenmfnlocbbaaDoor.T
