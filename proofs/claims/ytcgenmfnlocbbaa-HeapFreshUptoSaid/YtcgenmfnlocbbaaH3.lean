/- The law's and the document's own small functions over lists of things, walked. Nothing is claimed of a law here. -/
import Derived.Test.YtcgenmfnlocbbaaChecked
import Derived.Test.YtcgenmfnlocbbaaH1
import Derived.Test.YtcgenmfnlocbbaaL6
namespace Go.Proofs.Ytcgenmfnlocbbaa.T
open Go.Lg Go.Hp
theorem ag31 : aggT Try.prog 31 = some 2 := by kernel_rfl
theorem cb13 : callable Try.prog 13 = true := by kernel_rfl
theorem cb14 : callable Try.prog 14 = true := by kernel_rfl
theorem cb15 : callable Try.prog 15 = true := by kernel_rfl
theorem cb16 : callable Try.prog 16 = true := by kernel_rfl
theorem cb17 : callable Try.prog 17 = true := by kernel_rfl
theorem cb19 : callable Try.prog 19 = true := by kernel_rfl
theorem cb20 : callable Try.prog 20 = true := by kernel_rfl
theorem cb21 : callable Try.prog 21 = true := by kernel_rfl
theorem cb22 : callable Try.prog 22 = true := by kernel_rfl
theorem cb23 : callable Try.prog 23 = true := by kernel_rfl
theorem cb24 : callable Try.prog 24 = true := by kernel_rfl
theorem cb25 : callable Try.prog 25 = true := by kernel_rfl
theorem cb26 : callable Try.prog 26 = true := by kernel_rfl
theorem cb27 : callable Try.prog 27 = true := by kernel_rfl
theorem cb29 : callable Try.prog 29 = true := by kernel_rfl
theorem cb30 : callable Try.prog 30 = true := by kernel_rfl
theorem cb31 : callable Try.prog 31 = true := by kernel_rfl
theorem cb33 : callable Try.prog 33 = true := by kernel_rfl
theorem cb34 : callable Try.prog 34 = true := by kernel_rfl
theorem cb35 : callable Try.prog 35 = true := by kernel_rfl
theorem cb36 : callable Try.prog 36 = true := by kernel_rfl
theorem cb37 : callable Try.prog 37 = true := by kernel_rfl
theorem cb38 : callable Try.prog 38 = true := by kernel_rfl
theorem cb39 : callable Try.prog 39 = true := by kernel_rfl
theorem cb40 : callable Try.prog 40 = true := by kernel_rfl
theorem cb44 : callable Try.prog 44 = true := by kernel_rfl
theorem cb46 : callable Try.prog 46 = true := by kernel_rfl
theorem cb47 : callable Try.prog 47 = true := by kernel_rfl
theorem cb48 : callable Try.prog 48 = true := by kernel_rfl
theorem fo31_0 : fieldOff Try.prog 31 0 = some 0 := by kernel_rfl
theorem fo71_1 : fieldOff Try.prog 71 1 = some 1 := by kernel_rfl
theorem ft3 : flatT Try.prog 3 = true := by kernel_rfl
theorem gd31 : Try.prog.eqGuardType Try.prog.depth 31 = false := by kernel_rfl
theorem is34 : isSlice Try.prog 34 = true := by kernel_rfl
theorem mixed : Try.prog.follows .mixedOrders = true := by kernel_rfl
theorem sh31 : Try.prog.stoodInHeld 31 = false := by kernel_rfl
theorem si34 : sliceInfo Try.prog 34 = some (31, 2, 16) := by kernel_rfl
theorem sl34 : sliceElem Try.prog 34 = some (31, 2) := by kernel_rfl
theorem sp31 : structPlaces Try.prog 31 = some [(0, 1), (1, 1)] := by kernel_rfl
theorem sp71 : structPlaces Try.prog 71 = some [(0, 1), (1, 1), (2, 1)] := by kernel_rfl
theorem zl31 : zeroL Try.prog 31 = some [.int .i64 0, .int .i64 0] := by kernel_rfl
theorem zl71 : zeroL Try.prog 71 = some [.nilFunc, .slice none 0 0, .int .u64 0] := by kernel_rfl
/-- a row of cells in memory -/
def At (w : World) (b o : Nat) (vs : List Value) : Prop := ∀ i u, vs[i]? = some u → w.cell? ⟨b, o + i, none⟩ = some u

theorem At.old {X : Cx} {C : Chunks} {b o : Nat} {l : List (Int × Int)} (hb : b ∉ X.B0) (h : At X.w0 b o (l.flatMap enc1)) (j : Nat) (hj : j < l.length) : RowIn X C b (o + j * 2) [.int .i64 l[j].1, .int .i64 l[j].2] :=
  RowIn.old hb fun i v hv => by
    rw [Nat.add_assoc]; exact h _ _ (flat_get enc1 2 enc1_length l j hj i v hv)

theorem eq31 (x y : Int × Int) (w : World) : (Op.equalIn 10000 31 (.agg #[.int .i64 x.1, .int .i64 x.2]) (.agg #[.int .i64 y.1, .int .i64 y.2])).run Try.prog w = .ok (decide (x = y)) w := by
  have hf : (Try.prog.fieldsOf 31).toList = [{ name := "K", type := 3, offset := 0, embedded := false, tag := "", pkgPath := "", byteOffset := 0 }, { name := "N", type := 3, offset := 1, embedded := false, tag := "", pkgPath := "", byteOffset := 8 }] := by kernel_rfl
  have hu : Try.prog.underlying 31 = some (.struct (Try.prog.fieldsOf 31)) := by kernel_rfl
  have h1 := run_equalIn_struct (P := Try.prog) w 9999 31 #[.int .i64 x.1, .int .i64 x.2] #[.int .i64 y.1, .int .i64 y.2] hu sh31
  have ha : ∀ w, (isAgg 3).run Try.prog w = .ok false w := fun w => flatT_spec ft3 w
  have he : ∀ (a b : Int) (w : World), (Op.equalIn (9998 + 1) 3 (.int .i64 a) (.int .i64 b)).run Try.prog w = .ok (a == b) w := fun a b w => run_equalIn_int w 9998 3 .i64 .i64 a b Try.underlying3
  refine h1.trans ?_
  rw [hf]
  obtain ⟨a, b⟩ := x
  obtain ⟨c, d⟩ := y
  have hkn : ("K" : String) ≠ "_" := by decide
  have hnn : ("N" : String) ≠ "_" := by decide
  have hp0 : ∀ (q r : Value) (w : World), (part 3 #[q, r] 0).run Try.prog w = .ok q w := fun q r w => by simp [part, ha]
  have hp1 : ∀ (q r : Value) (w : World), (part 3 #[q, r] 1).run Try.prog w = .ok r w := fun q r w => by simp [part, ha]
  simp only [Op.eqFields, if_pos hkn, if_pos hnn, Sem.run_bind, hp0, hp1, Result.andThen, show (9999 : Nat) = 9998 + 1 from rfl, he, Sem.run_ite]
  by_cases h2 : a = c <;> by_cases h3 : b = d <;> simp [h2, h3, Op.eqFields]

/-- the order of things -/
def cmpK (x y : Int × Int) : Int := if x.1 < y.1 then -1 else if x.1 > y.1 then 1 else 0
def cmp0 (_ _ : Int × Int) : Int := 0
theorem byK_ct (x y : Int × Int) : Ct Try.prog 14 [Value.agg (enc1 x).toArray, Value.agg (enc1 y).toArray].toArray (fun _ => True) [] (fun v C' => v = .int .i64 (cmpK x y) ∧ C' = []) := by
  refine ct_of_walk (fn := Try.f14) Try.func14 rfl rfl fun w0 hpre hst => ?_
  clear hst
  repeat refine G.seq ?_
  refine G.region [.alloc, .alloc, .loc] (.take 0 (.take 1 (.take 2 .done))) rfl ?_
  refine GP.take rfl rfl (Does.box (T := 31) rfl rfl fun b2 Nb2 hb2 nb2 => ?_)
  refine GP.take rfl rfl (Does.box (T := 31) rfl rfl fun b3 Nb3 hb3 nb3 => ?_)
  refine GP.take rfl rfl (Does.assign rfl ?_)
  refine GP.keep [(0, _), (1, _), (2, _), (3, _), (4, _)] (.cons rfl (.cons rfl (.cons rfl (.cons rfl (.cons rfl .nil))))) ?_
  repeat refine G.seq ?_
  refine G.region [.loc, .gen, .loc, .gen, .loc] (.take 0 (.take 1 (.take 2 (.take 3 (.take 4 .done))))) rfl ?_
  refine GP.take rfl rfl (Does.fieldAddr rfl fo31_0 ?_)
  refine GP.take rfl rfl (Does.load1 rfl ft3 (CellIn.own (by first | exact .head _ | exact .tail _ (.head _) | exact .tail _ (.tail _ (.head _)) | exact .tail _ (.tail _ (.tail _ (.head _))) | exact .tail _ (.tail _ (.tail _ (.tail _ (.head _)))) | exact .tail _ (.tail _ (.tail _ (.tail _ (.tail _ (.head _)))))) rfl) ?_)
  refine GP.take rfl rfl (Does.fieldAddr rfl fo31_0 ?_)
  refine GP.take rfl rfl (Does.load1 rfl ft3 (CellIn.own (by first | exact .head _ | exact .tail _ (.head _) | exact .tail _ (.tail _ (.head _)) | exact .tail _ (.tail _ (.tail _ (.head _))) | exact .tail _ (.tail _ (.tail _ (.tail _ (.head _)))) | exact .tail _ (.tail _ (.tail _ (.tail _ (.tail _ (.head _)))))) rfl) ?_)
  refine GP.take rfl rfl (Does.lss rfl rfl rfl ?_)
  refine GP.keep [(0, _), (1, _), (2, _), (3, _), (4, _), (9, _)] (.cons rfl (.cons rfl (.cons rfl (.cons rfl (.cons rfl (.cons rfl .nil)))))) ?_
  repeat refine G.seq ?_
  by_cases h1 : x.1 < y.1
  · refine G.cond rfl (fun _ => ?_) (fun hh => absurd h1 hh)
    repeat refine G.seq ?_
    refine G.region [.loc] (.take 0 .done) rfl ?_
    refine GP.take rfl rfl (Does.assign rfl ?_)
    refine GP.keep [(0, _), (1, _), (2, _), (3, _), (4, _), (9, _)] (.cons rfl (.cons rfl (.cons rfl (.cons rfl (.cons rfl (.cons rfl .nil)))))) ?_
    exact fin_ret (fn := Try.f14) Try.func14 (res1 rfl rfl) .split2 ⟨by simp [cmpK, h1], rfl⟩
  · refine G.cond rfl (fun hh => absurd hh h1) (fun _ => ?_)
    refine G.skip ?_
    repeat refine G.seq ?_
    refine G.region [.loc, .gen, .loc, .gen, .loc] (.take 0 (.take 1 (.take 2 (.take 3 (.take 4 .done))))) rfl ?_
    refine GP.take rfl rfl (Does.fieldAddr rfl fo31_0 ?_)
    refine GP.take rfl rfl (Does.load1 rfl ft3 (CellIn.own (by first | exact .head _ | exact .tail _ (.head _) | exact .tail _ (.tail _ (.head _)) | exact .tail _ (.tail _ (.tail _ (.head _))) | exact .tail _ (.tail _ (.tail _ (.tail _ (.head _)))) | exact .tail _ (.tail _ (.tail _ (.tail _ (.tail _ (.head _)))))) rfl) ?_)
    refine GP.take rfl rfl (Does.fieldAddr rfl fo31_0 ?_)
    refine GP.take rfl rfl (Does.load1 rfl ft3 (CellIn.own (by first | exact .head _ | exact .tail _ (.head _) | exact .tail _ (.tail _ (.head _)) | exact .tail _ (.tail _ (.tail _ (.head _))) | exact .tail _ (.tail _ (.tail _ (.tail _ (.head _)))) | exact .tail _ (.tail _ (.tail _ (.tail _ (.tail _ (.head _)))))) rfl) ?_)
    refine GP.take rfl rfl (Does.gtr rfl rfl rfl ?_)
    refine GP.keep [(0, _), (1, _), (2, _), (3, _), (4, _), (9, _), (14, _)] (.cons rfl (.cons rfl (.cons rfl (.cons rfl (.cons rfl (.cons rfl (.cons rfl .nil))))))) ?_
    repeat refine G.seq ?_
    by_cases h2 : x.1 > y.1
    · refine G.cond rfl (fun _ => ?_) (fun hh => absurd h2 hh)
      repeat refine G.seq ?_
      refine G.region [.loc] (.take 0 .done) rfl ?_
      refine GP.take rfl rfl (Does.assign rfl ?_)
      refine GP.keep [(0, _), (1, _), (2, _), (3, _), (4, _), (9, _), (14, _)] (.cons rfl (.cons rfl (.cons rfl (.cons rfl (.cons rfl (.cons rfl (.cons rfl .nil))))))) ?_
      exact fin_ret (fn := Try.f14) Try.func14 (res1 rfl rfl) .split2 ⟨by simp [cmpK, h1, h2], rfl⟩
    · refine G.cond rfl (fun hh => absurd hh h2) (fun _ => ?_)
      refine G.skip ?_
      repeat refine G.seq ?_
      refine G.region [.loc] (.take 0 .done) rfl ?_
      refine GP.take rfl rfl (Does.assign rfl ?_)
      refine GP.keep [(0, _), (1, _), (2, _), (3, _), (4, _), (9, _), (14, _)] (.cons rfl (.cons rfl (.cons rfl (.cons rfl (.cons rfl (.cons rfl (.cons rfl .nil))))))) ?_
      exact fin_ret (fn := Try.f14) Try.func14 (res1 rfl rfl) .split2 ⟨by simp [cmpK, h1, h2], rfl⟩
theorem byK_ok : CmpOk Try.prog 14 #[] #[] (fun _ => []) enc1 cmpK := ⟨cb14, fun _ x y => byK_ct x y⟩
theorem same_ct (x y : Int × Int) : Ct Try.prog 40 [Value.agg (enc1 x).toArray, Value.agg (enc1 y).toArray].toArray (fun _ => True) [] (fun v C' => v = .int .i64 (cmp0 x y) ∧ C' = []) := by
  refine ct_of_walk (fn := Try.f40) Try.func40 rfl rfl fun w0 hpre hst => ?_
  clear hst
  repeat refine G.seq ?_
  refine G.region [.alloc, .alloc, .loc] (.take 0 (.take 1 (.take 2 .done))) rfl ?_
  refine GP.take rfl rfl (Does.box (T := 31) rfl rfl fun b2 Nb2 hb2 nb2 => ?_)
  refine GP.take rfl rfl (Does.box (T := 31) rfl rfl fun b3 Nb3 hb3 nb3 => ?_)
  refine GP.take rfl rfl (Does.assign rfl ?_)
  refine GP.keep [(0, _), (1, _), (4, _)] (.cons rfl (.cons rfl (.cons rfl .nil))) ?_
  repeat refine G.seq ?_
  refine G.region [.loc] (.take 0 .done) rfl ?_
  refine GP.take rfl rfl (Does.assign rfl ?_)
  refine GP.keep [(0, _), (1, _), (4, _)] (.cons rfl (.cons rfl (.cons rfl .nil))) ?_
  exact fin_ret (fn := Try.f40) Try.func40 (res1 rfl rfl) .split2 ⟨by rfl, rfl⟩
theorem same_ok : CmpOk Try.prog 40 #[] #[] (fun _ => []) enc1 cmp0 := ⟨cb40, fun _ x y => same_ct x y⟩
theorem new_ct (g : FuncId) (fs cs : Array Value) : Ct Try.prog 13 [.func (.func g) fs cs].toArray (fun _ => True) [] (fun v C' => ∃ b, v = .pointer (some ⟨b, 0, none⟩) ∧ HRep 71 73 row1 3 b (.func (.func g) fs cs) [] 0 C') := by
  refine ct_of_walk (fn := Try.f13) Try.func13 rfl rfl fun w0 hpre hst => ?_
  clear hst
  repeat refine G.seq ?_
  refine G.region [.loc] (.take 0 .done) rfl ?_
  refine GP.take rfl rfl (Does.assign rfl ?_)
  refine GP.keep [(0, _), (2, _)] (.cons rfl (.cons rfl .nil)) ?_
  repeat refine G.seq ?_
  refine G.region [.loc, .loc] (.take 0 (.take 1 .done)) rfl ?_
  refine GP.take rfl rfl (Does.move rfl ?_)
  refine GP.take rfl rfl (Does.isNilF rfl Try.underlying32 rfl ?_)
  refine GP.keep [(0, _), (2, _), (4, _)] (.cons rfl (.cons rfl (.cons rfl .nil))) ?_
  repeat refine G.seq ?_
  refine G.condF rfl ?_
  refine G.skip ?_
  repeat refine G.seq ?_
  refine G.region [.loc, .loc, .alloc, .loc] (.take 0 (.take 1 (.take 2 (.take 3 .done)))) rfl ?_
  refine GP.take rfl rfl (Does.move rfl ?_)
  refine GP.take rfl rfl (Does.build (r := [_, _, _]) (.cons rfl .nil) sp71 zl71 rfl ?_)
  refine GP.take rfl rfl (Does.box (T := 71) rfl rfl fun b7 Nb7 hb7 nb7 => ?_)
  refine GP.take rfl rfl (Does.assign rfl ?_)
  refine GP.keep [(0, _), (2, _), (4, _)] (.cons rfl (.cons rfl (.cons rfl .nil))) ?_
  exact fin_ret (fn := Try.f13) (R := []) Try.func13 (res1 rfl rfl) .all ⟨_, rfl, _, [], rfl, .nil⟩
theorem newNil_ct : Ct Try.prog 13 [.nilFunc].toArray (fun _ => True) [] (fun v C' => ∃ b, v = .pointer (some ⟨b, 0, none⟩) ∧ HRep 71 73 row1 3 b (.func (.func 40) #[] #[]) [] 0 C') := by
  refine ct_of_walk (fn := Try.f13) Try.func13 rfl rfl fun w0 hpre hst => ?_
  clear hst
  repeat refine G.seq ?_
  refine G.region [.loc] (.take 0 .done) rfl ?_
  refine GP.take rfl rfl (Does.assign rfl ?_)
  refine GP.keep [(0, _), (2, _)] (.cons rfl (.cons rfl .nil)) ?_
  repeat refine G.seq ?_
  refine G.region [.loc, .loc] (.take 0 (.take 1 .done)) rfl ?_
  refine GP.take rfl rfl (Does.move rfl ?_)
  refine GP.take rfl rfl (Does.isNilT rfl Try.underlying32 rfl ?_)
  refine GP.keep [(0, _), (2, _), (4, _)] (.cons rfl (.cons rfl (.cons rfl .nil))) ?_
  repeat refine G.seq ?_
  refine G.condT rfl ?_
  repeat refine G.seq ?_
  refine G.region [.loc] (.take 0 .done) rfl ?_
  refine GP.take rfl rfl (Does.assign rfl ?_)
  refine GP.keep [(0, _), (2, _), (4, _)] (.cons rfl (.cons rfl (.cons rfl .nil))) ?_
  repeat refine G.seq ?_
  refine G.region [.loc, .loc, .alloc, .loc] (.take 0 (.take 1 (.take 2 (.take 3 .done)))) rfl ?_
  refine GP.take rfl rfl (Does.move rfl ?_)
  refine GP.take rfl rfl (Does.build (r := [_, _, _]) (.cons rfl .nil) sp71 zl71 rfl ?_)
  refine GP.take rfl rfl (Does.box (T := 71) rfl rfl fun b7 Nb7 hb7 nb7 => ?_)
  refine GP.take rfl rfl (Does.assign rfl ?_)
  refine GP.keep [(0, _), (2, _), (4, _)] (.cons rfl (.cons rfl (.cons rfl .nil))) ?_
  exact fin_ret (fn := Try.f13) (R := []) Try.func13 (res1 rfl rfl) .all ⟨_, rfl, _, [], rfl, .nil⟩
/-- how many binary digits -/
def dig : Nat → Nat → Nat
  | 0, _ => 0
  | f + 1, n => if n = 0 then 0 else dig f (n / 2) + 1
theorem digits_ct (n : Nat) (hn : n ≤ 4611686018427387904) : Ct Try.prog 19 [.int .i64 (n : Int)].toArray (fun _ => True) [] (fun v C' => v = .int .i64 ((dig n n : Nat) : Int) ∧ C' = []) := by
  refine ct_of_walk (fn := Try.f19) Try.func19 rfl rfl fun w0 hpre hst => ?_
  clear hst
  repeat refine G.seq ?_
  refine G.region [.loc] (.take 0 .done) rfl ?_
  refine GP.take rfl rfl (Does.assign rfl ?_)
  refine GP.keep [(0, _), (2, _)] (.cons rfl (.cons rfl .nil)) ?_
  repeat refine G.seq ?_
  refine G.region [.loc] (.take 0 .done) rfl ?_
  refine GP.take rfl rfl (Does.assign rfl ?_)
  refine GP.keep [(0, _), (2, _), (3, _)] (.cons rfl (.cons rfl (.cons rfl .nil))) ?_
  repeat refine G.seq ?_
  refine G.block ?_
  refine G.loop (S := Nat × Nat × Nat) (fun s => [(0, .int .i64 (s.1 : Int)), (3, .int .i64 (s.2.1 : Int))]) (fun _ => []) (fun s => s.1 + s.2.1 ≤ n ∧ s.1 ≤ s.2.2 ∧ dig s.2.2 s.1 + s.2.1 = dig n n) (fun s => s.1)
    (n, 0, n) ⟨by simp, by simp, rfl⟩ (.cons rfl (.cons rfl .nil)) .all ?_
  rintro ⟨m, k, f⟩ ⟨h1, h2, h3⟩ IH
  simp only at h1 h2 h3 IH ⊢
  repeat refine G.seq ?_
  refine G.region [.loc, .loc] (.take 0 (.take 1 .done)) rfl ?_
  refine GP.take rfl rfl (Does.move rfl ?_)
  refine GP.take rfl rfl (Does.gtr rfl rfl rfl ?_)
  refine GP.keep [(0, _), (3, _), (5, _)] (.cons rfl (.cons rfl (.cons rfl .nil))) ?_
  repeat refine G.seq ?_
  refine G.cond rfl ?_ ?_
  case refine_2 =>
    intro hz
    obtain rfl : m = 0 := by omega
    have : dig f 0 = 0 := by cases f <;> simp [dig]
    refine G.exit rfl ?_
    repeat refine G.seq ?_
    refine G.region [.loc, .loc] (.take 0 (.take 1 .done)) rfl ?_
    refine GP.take rfl rfl (Does.move rfl ?_)
    refine GP.take rfl rfl (Does.assign rfl ?_)
    refine GP.keep [(0, _), (2, _), (3, _), (5, _)] (.cons rfl (.cons rfl (.cons rfl (.cons rfl .nil)))) ?_
    exact fin_ret (fn := Try.f19) (R := []) Try.func19 (res1 rfl rfl) .all ⟨by rw [← h3, this, Nat.zero_add], rfl⟩
  intro hz
  obtain ⟨f, rfl⟩ : ∃ q, f = q + 1 := ⟨f - 1, by omega⟩
  have hd : dig (f + 1) m = dig f (m / 2) + 1 := by simp only [dig]; rw [if_neg (by omega)]
  rw [hd] at h3
  refine G.skip ?_
  refine G.block ?_
  repeat refine G.seq ?_
  refine G.region [.loc, .loc, .loc] (.take 0 (.take 1 (.take 2 .done))) rfl ?_
  refine GP.take rfl rfl (Does.move rfl ?_)
  refine GP.take rfl rfl (Does.quo rfl rfl (by omega) (r := ((m / 2 : Nat) : Int)) (wr_quo (by omega) (by omega) (wr_i64 (by omega) (by omega))) ?_)
  refine GP.take rfl rfl (Does.assign rfl ?_)
  refine GP.keep [(0, _), (3, _), (5, _)] (.cons rfl (.cons rfl (.cons rfl .nil))) ?_
  repeat refine G.seq ?_
  refine G.region [.loc, .loc, .loc] (.take 0 (.take 1 (.take 2 .done))) rfl ?_
  refine GP.take rfl rfl (Does.move rfl ?_)
  refine GP.take rfl rfl (Does.add rfl rfl (r := ((k + 1 : Nat) : Int)) (wrc_i64 (by omega) (by omega) (by omega)) ?_)
  refine GP.take rfl rfl (Does.assign rfl ?_)
  refine GP.keep [(0, _), (3, _)] (.cons rfl (.cons rfl .nil)) ?_
  refine G.inBlock ?_
  exact IH (m / 2, k + 1, f) ⟨by simp only; omega, by simp only; omega, by simp only; omega⟩ (by simp only; omega)
/-- does x go ahead of y? -/
def bef (x y : Int × Int) (all : Bool) : Bool := !all && decide (x.1 < y.1)
theorem before_ct (x y : Int × Int) (all : Bool) : Ct Try.prog 44 [.agg (enc1 x).toArray, .agg (enc1 y).toArray, .bool all].toArray (fun _ => True) [] (fun v C' => v = .bool (bef x y all) ∧ C' = []) := by
  refine ct_of_walk (fn := Try.f44) Try.func44 rfl rfl fun w0 hpre hst => ?_
  clear hst
  repeat refine G.seq ?_
  refine G.region [.alloc, .alloc, .loc] (.take 0 (.take 1 (.take 2 .done))) rfl ?_
  refine GP.take rfl rfl (Does.box (T := 31) rfl rfl fun b3 Nb3 hb3 nb3 => ?_)
  refine GP.take rfl rfl (Does.box (T := 31) rfl rfl fun b4 Nb4 hb4 nb4 => ?_)
  refine GP.take rfl rfl (Does.assign rfl ?_)
  refine GP.keep [(0, _), (1, _), (2, _), (3, _), (4, _), (6, _)] (.cons rfl (.cons rfl (.cons rfl (.cons rfl (.cons rfl (.cons rfl .nil)))))) ?_
  repeat refine G.seq ?_
  cases all
  · skip
    refine G.region [.loc, .loc, .loc, .loc, .gen, .loc, .gen, .loc, .loc, .loc] (.take 0 (.take 1 (.take 2 (.take 3 (.take 4 (.take 5 (.take 6 (.take 7 (.take 8 (.take 9 .done)))))))))) rfl ?_
    refine GP.take rfl rfl (Does.move rfl ?_)
    refine GP.take rfl rfl (Does.not rfl rfl ?_)
    refine GP.take rfl rfl (Does.move rfl ?_)
    refine GP.takeG rfl rfl rfl rfl (Does.fieldAddr rfl fo31_0 ?_)
    refine GP.takeG rfl rfl rfl rfl (Does.load1 rfl ft3 (CellIn.own (by first | exact .head _ | exact .tail _ (.head _) | exact .tail _ (.tail _ (.head _)) | exact .tail _ (.tail _ (.tail _ (.head _))) | exact .tail _ (.tail _ (.tail _ (.tail _ (.head _)))) | exact .tail _ (.tail _ (.tail _ (.tail _ (.tail _ (.head _)))))) rfl) ?_)
    refine GP.takeG rfl rfl rfl rfl (Does.fieldAddr rfl fo31_0 ?_)
    refine GP.takeG rfl rfl rfl rfl (Does.load1 rfl ft3 (CellIn.own (by first | exact .head _ | exact .tail _ (.head _) | exact .tail _ (.tail _ (.head _)) | exact .tail _ (.tail _ (.tail _ (.head _))) | exact .tail _ (.tail _ (.tail _ (.tail _ (.head _)))) | exact .tail _ (.tail _ (.tail _ (.tail _ (.tail _ (.head _)))))) rfl) ?_)
    refine GP.takeG rfl rfl rfl rfl (Does.lss rfl rfl rfl ?_)
    refine GP.take rfl rfl (Does.pickT rfl rfl ?_)
    refine GP.take rfl rfl (Does.assign rfl ?_)
    refine GP.keep [(0, _), (1, _), (2, _), (3, _), (4, _), (6, _)] (.cons rfl (.cons rfl (.cons rfl (.cons rfl (.cons rfl (.cons rfl .nil)))))) ?_
    exact fin_ret (fn := Try.f44) Try.func44 (res1 rfl rfl) .split2 ⟨by simp [bef], rfl⟩
  · skip
    refine G.region [.loc, .loc, .loc, .loc, .gen, .loc, .gen, .loc, .loc, .loc] (.take 0 (.take 1 (.take 2 (.take 3 (.take 4 (.take 5 (.take 6 (.take 7 (.take 8 (.take 9 .done)))))))))) rfl ?_
    refine GP.take rfl rfl (Does.move rfl ?_)
    refine GP.take rfl rfl (Does.not rfl rfl ?_)
    refine GP.take rfl rfl (Does.move rfl ?_)
    refine GP.pass rfl rfl rfl rfl rfl ?_
    refine GP.pass rfl rfl rfl rfl rfl ?_
    refine GP.pass rfl rfl rfl rfl rfl ?_
    refine GP.pass rfl rfl rfl rfl rfl ?_
    refine GP.pass rfl rfl rfl rfl rfl ?_
    refine GP.take rfl rfl (Does.pickF rfl rfl ?_)
    refine GP.take rfl rfl (Does.assign rfl ?_)
    refine GP.keep [(0, _), (1, _), (2, _), (3, _), (4, _), (6, _)] (.cons rfl (.cons rfl (.cons rfl (.cons rfl (.cons rfl (.cons rfl .nil)))))) ?_
    exact fin_ret (fn := Try.f44) Try.func44 (res1 rfl rfl) .split2 ⟨by simp [bef], rfl⟩
/-- the first thing's place among the first i things -/
def fstI (all : Bool) (l : List (Int × Int)) (i : Nat) : Option Nat :=
  (List.range i).foldl (fun a i => match a with | none => some i | some j => if bef (l.getD i (0, 0)) (l.getD j (0, 0)) all then some i else some j) none
theorem fstI_succ (all : Bool) (l : List (Int × Int)) (i : Nat) : fstI all l (i + 1) = match fstI all l i with | none => some i | some j => if bef (l.getD i (0, 0)) (l.getD j (0, 0)) all then some i else some j := by
  simp [fstI, List.range_succ]
theorem fstI_lt (all : Bool) (l : List (Int × Int)) (i j : Nat) (h : fstI all l i = some j) : j < i := by
  induction i generalizing j with
  | zero => simp [fstI] at h
  | succ i ih =>
    rw [fstI_succ] at h
    split at h
    · simp at h; omega
    · rename_i q hq
      have := ih _ hq
      split at h <;> simp at h <;> omega
theorem fstI_none (all : Bool) (l : List (Int × Int)) (i : Nat) (h : fstI all l i = none) : i = 0 := by
  cases i with
  | zero => rfl
  | succ i =>
    rw [fstI_succ] at h
    split at h
    · cases h
    · split at h <;> cases h
/-- a place, or -1 -/
def plc : Option Nat → Int | none => -1 | some j => (j : Int)
theorem first_ct (l : List (Int × Int)) (all : Bool) (ad : Option Addr) (cap b o : Nat) (had : l ≠ [] → ad = some ⟨b, o, none⟩) (hbig : l.length ≤ 4611686018427387904) :
    Ct Try.prog 26 [.slice ad l.length cap, .bool all].toArray (fun w => At w b o (l.flatMap enc1)) [] (fun v C' => v = .int .i64 (plc (fstI all l l.length)) ∧ C' = []) := by
  refine ct_of_walk (fn := Try.f26) Try.func26 rfl rfl fun w0 hpre hst => ?_
  clear hst
  repeat refine G.seq ?_
  refine G.region [.loc] (.take 0 .done) rfl ?_
  refine GP.take rfl rfl (Does.assign rfl ?_)
  refine GP.keep [(0, _), (1, _), (4, _)] (.cons rfl (.cons rfl (.cons rfl .nil))) ?_
  repeat refine G.seq ?_
  refine G.region [.loc] (.take 0 .done) rfl ?_
  refine GP.take rfl rfl (Does.assign rfl ?_)
  refine GP.keep [(0, _), (1, _), (4, _), (5, _)] (.cons rfl (.cons rfl (.cons rfl (.cons rfl .nil)))) ?_
  repeat refine G.seq ?_
  refine G.region [.loc] (.take 0 .done) rfl ?_
  refine GP.take rfl rfl (Does.assign rfl ?_)
  refine GP.keep [(0, _), (1, _), (4, _), (5, _), (6, _)] (.cons rfl (.cons rfl (.cons rfl (.cons rfl (.cons rfl .nil))))) ?_
  repeat refine G.seq ?_
  refine G.block ?_
  refine G.loop (S := Nat) (fun i => [(0, .slice ad l.length cap), (1, .bool all), (5, .int .i64 (plc (fstI all l i))), (6, .int .i64 (i : Int))]) (fun _ => []) (fun i => i ≤ l.length) (fun i => l.length - i)
    0 (Nat.zero_le _) (.cons rfl (.cons rfl (.cons rfl (.cons rfl .nil)))) .all ?_
  intro i hi IH
  repeat refine G.seq ?_
  refine G.region [.loc, .loc, .loc, .loc] (.take 0 (.take 1 (.take 2 (.take 3 .done)))) rfl ?_
  refine GP.take rfl rfl (Does.move rfl ?_)
  refine GP.take rfl rfl (Does.move rfl ?_)
  refine GP.take rfl rfl (Does.len rfl is34 ?_)
  refine GP.take rfl rfl (Does.lss rfl rfl rfl ?_)
  refine GP.keep [(0, _), (1, _), (5, _), (6, _), (10, _)] (.cons rfl (.cons rfl (.cons rfl (.cons rfl (.cons rfl .nil))))) ?_
  repeat refine G.seq ?_
  refine G.cond rfl ?_ ?_
  case refine_2 =>
    intro hz
    obtain rfl : i = l.length := by omega
    refine G.exit rfl ?_
    repeat refine G.seq ?_
    refine G.region [.loc, .loc] (.take 0 (.take 1 .done)) rfl ?_
    refine GP.take rfl rfl (Does.move rfl ?_)
    refine GP.take rfl rfl (Does.assign rfl ?_)
    refine GP.keep [(0, _), (1, _), (4, _), (5, _), (6, _), (10, _)] (.cons rfl (.cons rfl (.cons rfl (.cons rfl (.cons rfl (.cons rfl .nil)))))) ?_
    exact fin_ret (fn := Try.f26) (R := []) Try.func26 (res1 rfl rfl) .all ⟨rfl, rfl⟩
  intro hz
  have hil : i < l.length := by omega
  have hne : l ≠ [] := by intro e; rw [e] at hil; simp at hil
  obtain rfl := had hne
  refine G.skip ?_
  repeat refine G.seq ?_
  refine G.block ?_
  repeat refine G.seq ?_
  refine G.joinB (S := Unit) (fun _ => [(0, .slice (some ⟨b, o, none⟩) l.length cap), (1, .bool all), (5, .int .i64 (plc (fstI all l (i + 1)))), (6, .int .i64 (i : Int))]) (fun _ => []) (fun _ => True) ?_ fun key => ?_
  · intro _ _
    refine G.inBlock ?_
    repeat refine G.seq ?_
    refine G.region [.loc, .loc, .loc] (.take 0 (.take 1 (.take 2 .done))) rfl ?_
    refine GP.take rfl rfl (Does.move rfl ?_)
    refine GP.take rfl rfl (Does.add rfl rfl (r := ((i + 1 : Nat) : Int)) (wrc_i64 (by omega) (by omega) (by omega)) ?_)
    refine GP.take rfl rfl (Does.assign rfl ?_)
    refine GP.keep [(0, _), (1, _), (5, _), (6, _)] (.cons rfl (.cons rfl (.cons rfl (.cons rfl .nil)))) ?_
    exact IH (i + 1) (by omega) (by omega)
  cases hf : fstI all l i with
  | none =>
    have hs : fstI all l (i + 1) = some i := by rw [fstI_succ, hf]
    rw [hs] at key
    refine G.draw [.loc, .loc, .loc, .loc, .loc, .loc, .load, .loc, .loc, .loc, .load, .loc, .gen, .loc] (.take 0 (.take 1 (.take 2 (.take 3 (.take 4 (.take 5 (.take 7 (.take 8 (.take 9 (.take 11 (.take 6 (.take 10 (.alt 12 (.take 13 .done) .stop))))))))))))) (by exact mixed) (by kernel_rfl) ?_
    intro N hN0 hN
    refine GP.take rfl rfl (Does.move rfl ?_)
    refine GP.take rfl rfl (Does.lss rfl rfl rfl ?_)
    refine GP.take rfl rfl (Does.move rfl ?_)
    refine GP.pass rfl rfl rfl rfl rfl ?_
    refine GP.pass rfl rfl rfl rfl rfl ?_
    refine GP.pass rfl rfl rfl rfl rfl ?_
    refine GP.pass rfl rfl rfl rfl rfl ?_
    refine GP.pass rfl rfl rfl rfl rfl ?_
    refine GP.pass rfl rfl rfl rfl rfl ?_
    refine GP.pass rfl rfl rfl rfl rfl ?_
    refine GP.pass rfl rfl rfl rfl rfl ?_
    refine GP.pass rfl rfl rfl rfl rfl ?_
    refine GP.one ?_
    refine GP.pass rfl rfl rfl rfl rfl ?_
    refine GP.take rfl rfl (Does.pickT rfl rfl ?_)
    refine GP.keep [(0, _), (1, _), (5, _), (6, _), (10, _), (26, _)] (.cons rfl (.cons rfl (.cons rfl (.cons rfl (.cons rfl (.cons rfl .nil)))))) ?_
    repeat refine G.seq ?_
    refine G.condT rfl ?_
    repeat refine G.seq ?_
    refine G.region [.loc, .loc] (.take 0 (.take 1 .done)) rfl ?_
    refine GP.take rfl rfl (Does.move rfl ?_)
    refine GP.take rfl rfl (Does.assign rfl ?_)
    refine GP.keep [(0, _), (1, _), (5, _), (6, _)] (.cons rfl (.cons rfl (.cons rfl (.cons rfl .nil)))) ?_
    exact key () trivial
  | some j =>
    have hj := fstI_lt _ _ _ _ hf
    have hs : fstI all l (i + 1) = if bef l[i] (l[j]'(by omega)) all then some i else some j := by rw [fstI_succ, hf]; simp [hil, show j < l.length by omega]
    rw [hs] at key
    have hneg : decide ((plc (some j)) < 0) = false := decide_eq_false (by simp only [plc]; omega)
    refine G.draw [.loc, .loc, .loc, .loc, .loc, .loc, .load, .loc, .loc, .loc, .load, .loc, .gen, .loc] (.take 0 (.take 1 (.take 2 (.take 3 (.take 4 (.take 5 (.take 7 (.take 8 (.take 9 (.take 11 (.take 6 (.take 10 (.alt 12 (.take 13 .done) .stop))))))))))))) (by exact mixed) (by kernel_rfl) ?_
    intro N hN0 hN
    refine GP.take rfl rfl (Does.move rfl ?_)
    refine GP.take rfl rfl (Does.lss rfl rfl hneg ?_)
    refine GP.take rfl rfl (Does.move rfl ?_)
    refine GP.takeG rfl rfl rfl rfl (Does.move rfl ?_)
    refine GP.takeG rfl rfl rfl rfl (Does.move rfl ?_)
    refine GP.takeG rfl rfl rfl rfl (Does.indexAddr i rfl rfl sl34 rfl hil ?_)
    refine GP.takeG rfl rfl rfl rfl (Does.move rfl ?_)
    refine GP.takeG rfl rfl rfl rfl (Does.move rfl ?_)
    refine GP.takeG rfl rfl rfl rfl (Does.indexAddr j rfl rfl sl34 rfl (by omega) ?_)
    refine GP.takeG rfl rfl rfl rfl (Does.move rfl ?_)
    refine GP.takeG rfl rfl rfl rfl (Does.loadAN (vs := [.int .i64 (l[i]'hil).1, .int .i64 (l[i]'hil).2]) rfl ag31 (Nat.lt_of_lt_of_le (cell_lt (w := w0) (b := b) (o := o + (i * 2 + 0)) (hpre _ _ (flat_get enc1 2 enc1_length l i hil 0 _ rfl))) hN0) (At.old (by simp) hpre i hil) ?_)
    refine GP.takeG rfl rfl rfl rfl (Does.loadAN (vs := [.int .i64 (l[j]'(by omega)).1, .int .i64 (l[j]'(by omega)).2]) rfl ag31 (Nat.lt_of_lt_of_le (cell_lt (w := w0) (b := b) (o := o + (j * 2 + 0)) (hpre _ _ (flat_get enc1 2 enc1_length l j (by omega) 0 _ rfl))) hN0) (At.old (by simp) hpre j (by omega)) ?_)
    refine GP.one ?_
    refine GP.takeG rfl rfl rfl rfl (Does.callF [] [] (.cons rfl (.cons rfl (.cons rfl .nil))) cb44 rfl (before_ct l[i] (l[j]'(by omega)) all) (fun _ _ => trivial) ?_)
    rintro _ _ ⟨rfl, rfl⟩
    simp only [List.append_nil]
    refine GP.take rfl rfl (Does.pickF rfl rfl ?_)
    refine GP.keep [(0, _), (1, _), (5, _), (6, _), (10, _), (26, _)] (.cons rfl (.cons rfl (.cons rfl (.cons rfl (.cons rfl (.cons rfl .nil)))))) ?_
    repeat refine G.seq ?_
    refine G.condB rfl ?_ ?_
    · intro hb
      rw [if_pos hb] at key
      refine G.region [.loc, .loc] (.take 0 (.take 1 .done)) rfl ?_
      refine GP.take rfl rfl (Does.move rfl ?_)
      refine GP.take rfl rfl (Does.assign rfl ?_)
      refine GP.keep [(0, _), (1, _), (5, _), (6, _)] (.cons rfl (.cons rfl (.cons rfl (.cons rfl .nil)))) ?_
      exact key () trivial
    · intro hb
      rw [if_neg (by simp [hb])] at key
      refine G.skip ?_
      exact (key () trivial).weak (.cons rfl (.cons rfl (.cons rfl (.cons rfl .nil))))
end Go.Proofs.Ytcgenmfnlocbbaa.T
