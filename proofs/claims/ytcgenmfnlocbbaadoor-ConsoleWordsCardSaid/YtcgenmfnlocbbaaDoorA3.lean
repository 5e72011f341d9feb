/- A step of the scanner in a quoted word, walked. Nothing is claimed of a law here. -/
import Derived.Test.YtcgenmfnlocbbaaDoorA2
namespace Go.Proofs.YtcgenmfnlocbbaaDoor.T
open Go.Lg
theorem ag45 : aggT Tryd.prog 45 = some 8 := by kernel_rfl
theorem fo35_1 : fieldOff Tryd.prog 35 1 = some 1 := by kernel_rfl
theorem fo44_0 : fieldOff Tryd.prog 44 0 = some 0 := by kernel_rfl
theorem fo44_1 : fieldOff Tryd.prog 44 1 = some 1 := by kernel_rfl
theorem ft21 : flatT Tryd.prog 21 = true := by kernel_rfl
theorem ft5 : flatT Tryd.prog 5 = true := by kernel_rfl
theorem sz44 : sizeT Tryd.prog 44 = some 2 := by kernel_rfl
theorem zl44 : zeroL Tryd.prog 44 = some [.int .i32 0, .int .u8 0] := by kernel_rfl
theorem byteF_val (n : Int) : ((byteF n).toNat : Int) = IntKind.u8.wrap n := by
  have h1 : 0 ≤ n % 256 := Int.emod_nonneg _ (by decide)
  have h2 : n % 256 < 256 := Int.emod_lt_of_pos _ (by decide)
  have h : IntKind.u8.wrap n = n % 256 := by
    unfold IntKind.wrap
    simp [IntKind.signed, IntKind.bits]
  unfold byteF
  rw [h]
  simp only [UInt8.toNat_ofNat']
  omega
/-- the strokes' variable lies where the program's text lays it -/
def GlobW (w : World) : Prop := ∀ i v, ([.int .i32 92, .int .u8 92, .int .i32 34, .int .u8 34, .int .i32 110, .int .u8 10, .int .i32 116, .int .u8 9] : List Value)[i]? = some v → w.cell? ⟨0, 0 + i, none⟩ = some v
theorem Does.indexA {X : Cx} {L : Env} {ds : List Deferred} {C : Chunks} {N : Nat} {κ : Value → Chunks → Prop} {x y : Operand} {n : Int} {kd : IntKind} {T : TypeId} {cs : Array Value} {v : Value} (hx : ev L x = some (.agg cs)) (hy : ev L y = some (.int kd n)) (hi : ∀ w, (Instr.index T (.agg cs) (.int kd n)).run X.P w = .ok v w) (hk : κ v C) : Does X N (.index T x y) .loc L ds C κ :=
  .of_run (fun ope ho a w hs w' => by
    unfold execOp; rw [ho]
    simp [hs.ev hx, hs.ev hy, hi]) hk
theorem inside_ct (sb : Nat) (s : Sc) (C : Chunks) (c : Nat) (b : List UInt8) (hs : ScR sb s C) (hb : 1 ≤ b.length) (hl : s.word.length + b.length ≤ 1048576) (hh0 : -1 ≤ s.high) (hh1 : s.high ≤ 100) (hg0 : 0 ∉ C.map Prod.fst) :
    Ct Tryd.prog 9 [.pointer (some ⟨sb, 0, none⟩), .int .i32 (c : Int), str b].toArray GlobW C (fun v C' => v = .bool (inF s c b).2 ∧ ScR sb (inF s c b).1 C') := by
  have hs0 := hs
  have hdig : -1 ≤ digF c ∧ digF c ≤ 15 := by unfold digF; (repeat' split) <;> omega
  obtain ⟨wv, wsv, Cw, Cws, rfl, h1, h2⟩ := hs
  have hC0 : ScR sb s ((sb, scell s wv wsv) :: (Cw ++ Cws)) := hs0
  unfold scell at hC0 hg0 ⊢
  refine ct_of_walk (fn := Tryd.f9) Tryd.func9 rfl rfl fun w0 hpre hst => ?_
  clear hst
  repeat refine G.seq ?_
  refine G.region [.loc] (.take 0 .done) rfl ?_
  refine GP.take rfl rfl (Does.assign rfl ?_)
  refine GP.keep [(0, _), (1, _), (2, _)] (.cons rfl (.cons rfl (.cons rfl .nil))) ?_
  repeat refine G.seq ?_
  refine G.region [.loc, .loc, .loc, .gen] (.take 0 (.take 1 (.take 2 (.take 3 .done)))) rfl ?_
  refine GP.take rfl rfl (Does.move rfl ?_)
  refine GP.take rfl rfl (Does.nilCheck rfl ?_)
  refine GP.take rfl rfl (Does.fieldAddr rfl fo35_0 ?_)
  refine GP.take rfl rfl (Does.load1 rfl ft3 (CellIn.own (.head _) rfl) ?_)
  refine GP.keep [(0, _), (1, _), (2, _), (13, _)] (.cons rfl (.cons rfl (.cons rfl (.cons rfl .nil)))) ?_
  repeat refine G.seq ?_
  refine G.block ?_
  repeat refine G.seq ?_
  refine G.region [.loc, .loc] (.take 0 (.take 1 .done)) rfl ?_
  refine GP.take rfl rfl (Does.eql rfl rfl (show decide (s.at_ = 2) = decide (s.at_ = 2) from decide_eq_decide.2 (by omega)) ?_)
  refine GP.take rfl rfl (Does.assign rfl ?_)
  refine GP.keep [(0, _), (1, _), (2, _), (13, _), (14, _)] (.cons rfl (.cons rfl (.cons rfl (.cons rfl (.cons rfl .nil))))) ?_
  repeat refine G.seq ?_
  refine G.cond rfl ?_ ?_
  · intro a2
    repeat refine G.seq ?_
    refine G.region [.loc] (.take 0 .done) rfl ?_
    refine GP.take rfl rfl (Does.move rfl ?_)
    refine GP.keep [(0, _), (1, _), (2, _), (16, _)] (.cons rfl (.cons rfl (.cons rfl (.cons rfl .nil)))) ?_
    refine G.block ?_
    repeat refine G.seq ?_
    refine G.region [.loc, .loc] (.take 0 (.take 1 .done)) rfl ?_
    refine GP.take rfl rfl (Does.eql rfl rfl (show decide ((c : Int) = 34) = decide (c = 34) from decide_eq_decide.2 (by omega)) ?_)
    refine GP.take rfl rfl (Does.assign rfl ?_)
    refine GP.keep [(0, _), (1, _), (2, _), (16, _), (26, _)] (.cons rfl (.cons rfl (.cons rfl (.cons rfl (.cons rfl .nil))))) ?_
    repeat refine G.seq ?_
    refine G.cond rfl ?_ ?_
    · intro c34
      repeat refine G.seq ?_
      refine G.region [.loc, .loc, .loc, .gen] (.take 0 (.take 1 (.take 2 (.take 3 .done)))) rfl ?_
      refine GP.take rfl rfl (Does.move rfl ?_)
      refine GP.take rfl rfl (Does.nilCheck rfl ?_)
      refine GP.take rfl rfl (Does.fieldAddr rfl fo35_0 ?_)
      refine GP.take0 rfl (Does.store1 rfl rfl sz3 rfl .head .head ?_)
      refine GP.keep [(0, _), (1, _), (2, _)] (.cons rfl (.cons rfl (.cons rfl .nil))) ?_
      refine G.inBlock ?_
      repeat refine G.seq ?_
      refine G.region [.loc] (.take 0 .done) rfl ?_
      refine GP.take rfl rfl (Does.assign rfl ?_)
      refine GP.keep [(6, _)] (.cons rfl .nil) ?_
      exact fin_ret (fn := Tryd.f9) (R := []) Tryd.func9 (res1 rfl rfl) .all ⟨by rw [inF, if_pos a2, if_pos c34], by rw [inF, if_pos a2, if_pos c34]; exact ⟨wv, wsv, Cw, Cws, rfl, h1, h2⟩⟩
    intro c34
    repeat refine G.seq ?_
    refine G.region [.loc, .loc] (.take 0 (.take 1 .done)) rfl ?_
    refine GP.take rfl rfl (Does.eql rfl rfl (show decide ((c : Int) = 92) = decide (c = 92) from decide_eq_decide.2 (by omega)) ?_)
    refine GP.take rfl rfl (Does.assign rfl ?_)
    refine GP.keep [(0, _), (1, _), (2, _), (16, _), (31, _)] (.cons rfl (.cons rfl (.cons rfl (.cons rfl (.cons rfl .nil))))) ?_
    repeat refine G.seq ?_
    refine G.cond rfl ?_ ?_
    · intro c92
      repeat refine G.seq ?_
      refine G.region [.loc, .loc, .loc, .gen] (.take 0 (.take 1 (.take 2 (.take 3 .done)))) rfl ?_
      refine GP.take rfl rfl (Does.move rfl ?_)
      refine GP.take rfl rfl (Does.nilCheck rfl ?_)
      refine GP.take rfl rfl (Does.fieldAddr rfl fo35_0 ?_)
      refine GP.take0 rfl (Does.store1 rfl rfl sz3 rfl .head .head ?_)
      refine GP.keep [(0, _), (1, _), (2, _)] (.cons rfl (.cons rfl (.cons rfl .nil))) ?_
      refine G.inBlock ?_
      repeat refine G.seq ?_
      refine G.region [.loc] (.take 0 .done) rfl ?_
      refine GP.take rfl rfl (Does.assign rfl ?_)
      refine GP.keep [(6, _)] (.cons rfl .nil) ?_
      exact fin_ret (fn := Tryd.f9) (R := []) Tryd.func9 (res1 rfl rfl) .all ⟨by rw [inF, if_pos a2, if_neg c34, if_pos c92], by rw [inF, if_pos a2, if_neg c34, if_pos c92]; exact ⟨wv, wsv, Cw, Cws, rfl, h1, h2⟩⟩
    intro c92
    repeat refine G.seq ?_
    refine G.region [.loc, .loc, .loc, .loc, .gen, .loc, .gen, .loc, .loc, .gen] (.take 0 (.take 1 (.take 2 (.take 3 (.take 4 (.take 5 (.take 6 (.take 7 (.take 8 (.take 9 .done)))))))))) rfl ?_
    refine GP.take rfl rfl (Does.move rfl ?_)
    refine GP.take rfl rfl (Does.move rfl ?_)
    refine GP.take rfl rfl (Does.nilCheck rfl ?_)
    refine GP.take rfl rfl (Does.fieldAddr rfl fo35_2 ?_)
    refine GP.take rfl rfl (Does.load1 rfl ft30 (CellIn.own (.head _) rfl) ?_)
    refine GP.take rfl rfl (Does.move rfl ?_)
    refine GP.take rfl rfl (Does.appendRS (l := s.word) (s := b) [(sb, cel 35 [.int .i64 s.at_, .int .i64 s.high, wv, wsv])] Cw Cws rfl rfl Tryd.underlying9 si30 zl5 rfl h1 hb (by decide) (by omega) ?_)
    intro wn Cn g1
    refine GP.take rfl rfl (Does.nilCheck rfl ?_)
    refine GP.take rfl rfl (Does.fieldAddr rfl fo35_2 ?_)
    refine GP.take0 rfl (Does.store1 rfl rfl sz30 g1.one .head (.tail (.tail .head)) ?_)
    refine GP.keep [(0, _), (1, _), (2, _)] (.cons rfl (.cons rfl (.cons rfl .nil))) ?_
    refine G.inBlock ?_
    repeat refine G.seq ?_
    refine G.region [.loc] (.take 0 .done) rfl ?_
    refine GP.take rfl rfl (Does.assign rfl ?_)
    refine GP.keep [(6, _)] (.cons rfl .nil) ?_
    exact fin_ret (fn := Tryd.f9) (R := []) Tryd.func9 (res1 rfl rfl) .all ⟨by rw [inF, if_pos a2, if_neg c34, if_neg c92], by rw [inF, if_pos a2, if_neg c34, if_neg c92]; exact ⟨wn, wsv, Cn, Cws, rfl, g1, h2⟩⟩
  intro a2
  repeat refine G.seq ?_
  refine G.region [.loc, .loc] (.take 0 (.take 1 .done)) rfl ?_
  refine GP.take rfl rfl (Does.eql rfl rfl (show decide (s.at_ = 3) = decide (s.at_ = 3) from decide_eq_decide.2 (by omega)) ?_)
  refine GP.take rfl rfl (Does.assign rfl ?_)
  refine GP.keep [(0, _), (1, _), (2, _), (13, _), (36, _)] (.cons rfl (.cons rfl (.cons rfl (.cons rfl (.cons rfl .nil))))) ?_
  repeat refine G.seq ?_
  refine G.cond rfl ?_ ?_
  · intro a3
    repeat refine G.seq ?_
    refine G.region [.loc, .loc] (.take 0 (.take 1 .done)) rfl ?_
    refine GP.take rfl rfl (Does.move rfl ?_)
    refine GP.take rfl rfl (Does.eql rfl rfl (show decide ((c : Int) = 120) = decide (c = 120) from decide_eq_decide.2 (by omega)) ?_)
    refine GP.keep [(0, _), (1, _), (2, _), (39, _)] (.cons rfl (.cons rfl (.cons rfl (.cons rfl .nil)))) ?_
    repeat refine G.seq ?_
    refine G.cond rfl ?_ ?_
    · intro c120
      repeat refine G.seq ?_
      refine G.region [.loc, .loc, .loc, .gen] (.take 0 (.take 1 (.take 2 (.take 3 .done)))) rfl ?_
      refine GP.take rfl rfl (Does.move rfl ?_)
      refine GP.take rfl rfl (Does.nilCheck rfl ?_)
      refine GP.take rfl rfl (Does.fieldAddr rfl fo35_0 ?_)
      refine GP.take0 rfl (Does.store1 rfl rfl sz3 rfl .head .head ?_)
      refine GP.keep [(0, _), (1, _), (2, _)] (.cons rfl (.cons rfl (.cons rfl .nil))) ?_
      repeat refine G.seq ?_
      refine G.region [.loc] (.take 0 .done) rfl ?_
      refine GP.take rfl rfl (Does.assign rfl ?_)
      refine GP.keep [(6, _)] (.cons rfl .nil) ?_
      exact fin_ret (fn := Tryd.f9) (R := []) Tryd.func9 (res1 rfl rfl) .all ⟨by rw [inF, if_neg a2, if_pos a3, if_pos c120], by rw [inF, if_neg a2, if_pos a3, if_pos c120]; exact ⟨wv, wsv, Cw, Cws, rfl, h1, h2⟩⟩
    intro c120
    refine G.skip ?_
    repeat refine G.seq ?_
    refine G.region [.gen, .loc] (.take 0 (.take 1 .done)) rfl ?_
    refine GP.take rfl rfl (Does.loadA (vs := [.int .i32 92, .int .u8 92, .int .i32 34, .int .u8 34, .int .i32 110, .int .u8 10, .int .i32 116, .int .u8 9]) rfl ag45 (RowIn.old hg0 hpre) ?_)
    refine GP.take rfl rfl (Does.move rfl ?_)
    refine GP.keep [(0, _), (1, _), (2, _), (43, _), (44, _)] (.cons rfl (.cons rfl (.cons rfl (.cons rfl (.cons rfl .nil))))) ?_
    repeat refine G.seq ?_
    refine G.block ?_
    refine G.loop (S := Nat) (fun i => [(0, .pointer (some ⟨sb, 0, none⟩)), (1, .int .i32 (c : Int)), (2, str b), (43, .agg ([.int .i32 92, .int .u8 92, .int .i32 34, .int .u8 34, .int .i32 110, .int .u8 10, .int .i32 116, .int .u8 9] : List Value).toArray), (44, .int .i64 (i : Int))]) (fun _ => (sb, cel 35 [.int .i64 s.at_, .int .i64 s.high, wv, wsv]) :: (Cw ++ Cws)) (fun i => i ≤ 4 ∧ (0 < i → c ≠ 92) ∧ (1 < i → c ≠ 34) ∧ (2 < i → c ≠ 110) ∧ (3 < i → c ≠ 116)) (fun i => 4 - i) 0 ⟨by decide, fun h => absurd h (by decide), fun h => absurd h (by decide), fun h => absurd h (by decide), fun h => absurd h (by decide)⟩ (.cons rfl (.cons rfl (.cons rfl (.cons rfl (.cons rfl .nil))))) .all ?_
    rintro i ⟨hi, q0, q1, q2, q3⟩ IH
    repeat refine G.seq ?_
    refine G.region [.loc] (.take 0 .done) rfl ?_
    refine GP.take rfl rfl (Does.lss rfl rfl rfl ?_)
    refine GP.keep [(0, _), (1, _), (2, _), (43, _), (44, _), (45, _)] (.cons rfl (.cons rfl (.cons rfl (.cons rfl (.cons rfl (.cons rfl .nil)))))) ?_
    repeat refine G.seq ?_
    refine G.cond rfl ?_ ?_
    case refine_2 =>
      intro hz
      refine G.exit rfl ?_
      repeat refine G.seq ?_
      refine G.region [.loc] (.take 0 .done) rfl ?_
      refine GP.take rfl rfl (Does.assign rfl ?_)
      refine GP.keep [(6, _)] (.cons rfl .nil) ?_
      exact fin_ret (fn := Tryd.f9) (R := []) Tryd.func9 (res1 rfl rfl) .all ⟨by rw [inF, if_neg a2, if_pos a3, if_neg c120, strokeF, if_neg (q0 (by omega)), if_neg (q1 (by omega)), if_neg (q2 (by omega)), if_neg (q3 (by omega))], by rw [inF, if_neg a2, if_pos a3, if_neg c120, strokeF, if_neg (q0 (by omega)), if_neg (q1 (by omega)), if_neg (q2 (by omega)), if_neg (q3 (by omega))]; exact hC0⟩
    intro hz
    refine G.skip ?_
    repeat refine G.seq ?_
    refine G.block ?_
    repeat refine G.seq ?_
    rcases (by omega : i = 0 ∨ i = 1 ∨ i = 2 ∨ i = 3) with rfl | rfl | rfl | rfl
    · skip
      refine G.region [.loc, .alloc, .gen] (.take 0 (.take 1 (.take 2 .done))) rfl ?_
      refine GP.take rfl rfl (Does.indexA (v := .agg #[.int .i32 92, .int .u8 92]) rfl rfl (fun w => rfl) ?_)
      refine GP.take rfl rfl (Does.alloc zl44 fun b8 N8 h8 n8 => ?_)
      refine GP.take0 rfl (Does.storeA rfl rfl sz44 (by first | exact .head | exact .tail .head | exact .tail (.tail .head) | exact .tail (.tail (.tail .head)) | exact .tail (.tail (.tail (.tail .head))) | exact .tail (.tail (.tail (.tail (.tail .head))))) (.cons rfl .head (.cons rfl (.tail .head) .nil)) ?_)
      refine GP.keep [(0, _), (1, _), (2, _), (8, _), (43, _), (44, _)] (.cons rfl (.cons rfl (.cons rfl (.cons rfl (.cons rfl (.cons rfl .nil)))))) ?_
      repeat refine G.seq ?_
      refine G.region [.loc, .gen, .loc, .loc] (.take 0 (.take 1 (.take 2 (.take 3 .done)))) rfl ?_
      refine GP.take rfl rfl (Does.fieldAddr rfl fo44_0 ?_)
      refine GP.take rfl rfl (Does.load1 rfl ft21 (CellIn.own (.head _) rfl) ?_)
      refine GP.take rfl rfl (Does.move rfl ?_)
      refine GP.take rfl rfl (Does.eql rfl rfl (show decide ((92 : Int) = (c : Int)) = decide (c = 92) from decide_eq_decide.2 (by omega)) ?_)
      refine GP.keep [(0, _), (1, _), (2, _), (8, _), (43, _), (44, _), (50, _)] (.cons rfl (.cons rfl (.cons rfl (.cons rfl (.cons rfl (.cons rfl (.cons rfl .nil))))))) ?_
      repeat refine G.seq ?_
      refine G.cond rfl ?_ ?_
      · intro cs
        repeat refine G.seq ?_
        refine G.draw [.loc, .loc, .loc, .loc, .loc, .load, .loc, .load, .alloc, .gen, .loc, .loc, .gen, .loc, .loc, .gen] (.take 0 (.take 1 (.take 2 (.take 3 (.take 4 (.take 6 (.take 5 (.take 7 (.alt 8 (.alt 9 (.take 10 (.take 11 (.alt 12 (.take 13 (.take 14 (.alt 15 .done .stop))) .stop))) .stop) .stop))))))))) (by exact mixed) (by kernel_rfl) ?_
        intro N hN0 hN
        refine GP.take rfl rfl (Does.move rfl ?_)
        refine GP.take rfl rfl (Does.move rfl ?_)
        refine GP.take rfl rfl (Does.move rfl ?_)
        refine GP.take rfl rfl (Does.nilCheck rfl ?_)
        refine GP.take rfl rfl (Does.fieldAddr rfl fo35_2 ?_)
        refine GP.take rfl rfl (Does.fieldAddr rfl fo44_1 ?_)
        refine GP.take rfl rfl (Does.load1N rfl ft30 (hN _ (.tail _ (.head _))) (CellIn.own (.tail _ (.head _)) rfl) ?_)
        refine GP.take rfl rfl (Does.load1N rfl ft5 (hN _ (.head _)) (CellIn.own (.head _) rfl) ?_)
        refine GP.one ?_
        refine GP.take rfl rfl (Does.buildSlice (r := [_]) (.cons rfl .nil) sl30 zl5 (by decide) rfl fun b59 N59 h59 n59 => ?_)
        refine GP.one ?_
        refine GP.take rfl rfl (Does.appendR (row := rU) (l := s.word) (xs := [(92 : UInt8)]) (mc := 1) [(b59, cel 5 [.int .u8 92]), (b8, cel 44 [.int .i32 92, .int .u8 92]), (sb, cel 35 [.int .i64 s.at_, .int .i64 s.high, wv, wsv])] Cw Cws rfl rfl si30 zl5 rfl h1 (fun _ => ⟨b59, 0, rfl, RowIn.own (vs := [rU (92 : UInt8)]) (.head _) rfl⟩) (fun _ => rfl) (by decide) (by simp only [List.length_cons, List.length_nil]; omega) ?_)
        intro wn Cn g1
        refine GP.take rfl rfl (Does.nilCheck rfl ?_)
        refine GP.take rfl rfl (Does.fieldAddr rfl fo35_2 ?_)
        refine GP.one ?_
        refine GP.take0 rfl (Does.store1 rfl rfl sz30 g1.one (.tail (.tail .head)) (.tail (.tail .head)) ?_)
        refine GP.take rfl rfl (Does.nilCheck rfl ?_)
        refine GP.take rfl rfl (Does.fieldAddr rfl fo35_0 ?_)
        refine GP.one ?_
        refine GP.take0 rfl (Does.store1 rfl rfl sz3 rfl (.tail (.tail .head)) .head ?_)
        refine GP.keep [(0, _), (1, _), (2, _)] (.cons rfl (.cons rfl (.cons rfl .nil))) ?_
        repeat refine G.seq ?_
        refine G.region [.loc] (.take 0 .done) rfl ?_
        refine GP.take rfl rfl (Does.assign rfl ?_)
        refine GP.keep [(6, _)] (.cons rfl .nil) ?_
        refine G.perm ?_ (C' := [(b59, cel 5 [.int .u8 92]), (b8, cel 44 [.int .i32 92, .int .u8 92])] ++ ((sb, cel 35 [.int .i64 2, .int .i64 s.high, wn, wsv]) :: (Cn ++ Cws))) (by classical exact List.perm_iff_count.2 fun q => by simp only [List.append_eq, List.nil_append, List.append_nil, List.cons_append, List.count_append, List.count_cons, List.count_nil] <;> omega)
        exact fin_ret (fn := Tryd.f9) Tryd.func9 (res1 rfl rfl) (Split.tail _ _) ⟨by rw [inF, if_neg a2, if_pos a3, if_neg c120, strokeF, if_pos cs], by rw [inF, if_neg a2, if_pos a3, if_neg c120, strokeF, if_pos cs]; exact ⟨wn, wsv, Cn, Cws, rfl, g1, h2⟩⟩
      intro cs
      refine G.skip ?_
      refine G.inBlock ?_
      repeat refine G.seq ?_
      refine G.region [.loc, .loc] (.take 0 (.take 1 .done)) rfl ?_
      refine GP.take rfl rfl (Does.add rfl rfl (r := ((0 + 1 : Nat) : Int)) (by decide) ?_)
      refine GP.take rfl rfl (Does.move rfl ?_)
      refine GP.keep [(0, _), (1, _), (2, _), (43, _), (44, _)] (.cons rfl (.cons rfl (.cons rfl (.cons rfl (.cons rfl .nil))))) ?_
      refine G.dropP [(b8, cel 44 [.int .i32 92, .int .u8 92])] (A := (sb, cel 35 [.int .i64 s.at_, .int .i64 s.high, wv, wsv]) :: (Cw ++ Cws)) (by classical exact List.perm_iff_count.2 fun q => by simp only [List.append_eq, List.nil_append, List.append_nil, List.cons_append, List.count_append, List.count_cons, List.count_nil] <;> omega) ?_
      exact IH (0 + 1) ⟨by decide, fun _ => cs, fun h => absurd h (by decide), fun h => absurd h (by decide), fun h => absurd h (by decide)⟩ (by decide)
    · skip
      refine G.region [.loc, .alloc, .gen] (.take 0 (.take 1 (.take 2 .done))) rfl ?_
      refine GP.take rfl rfl (Does.indexA (v := .agg #[.int .i32 34, .int .u8 34]) rfl rfl (fun w => rfl) ?_)
      refine GP.take rfl rfl (Does.alloc zl44 fun b8 N8 h8 n8 => ?_)
      refine GP.take0 rfl (Does.storeA rfl rfl sz44 (by first | exact .head | exact .tail .head | exact .tail (.tail .head) | exact .tail (.tail (.tail .head)) | exact .tail (.tail (.tail (.tail .head))) | exact .tail (.tail (.tail (.tail (.tail .head))))) (.cons rfl .head (.cons rfl (.tail .head) .nil)) ?_)
      refine GP.keep [(0, _), (1, _), (2, _), (8, _), (43, _), (44, _)] (.cons rfl (.cons rfl (.cons rfl (.cons rfl (.cons rfl (.cons rfl .nil)))))) ?_
      repeat refine G.seq ?_
      refine G.region [.loc, .gen, .loc, .loc] (.take 0 (.take 1 (.take 2 (.take 3 .done)))) rfl ?_
      refine GP.take rfl rfl (Does.fieldAddr rfl fo44_0 ?_)
      refine GP.take rfl rfl (Does.load1 rfl ft21 (CellIn.own (.head _) rfl) ?_)
      refine GP.take rfl rfl (Does.move rfl ?_)
      refine GP.take rfl rfl (Does.eql rfl rfl (show decide ((34 : Int) = (c : Int)) = decide (c = 34) from decide_eq_decide.2 (by omega)) ?_)
      refine GP.keep [(0, _), (1, _), (2, _), (8, _), (43, _), (44, _), (50, _)] (.cons rfl (.cons rfl (.cons rfl (.cons rfl (.cons rfl (.cons rfl (.cons rfl .nil))))))) ?_
      repeat refine G.seq ?_
      refine G.cond rfl ?_ ?_
      · intro cs
        repeat refine G.seq ?_
        refine G.draw [.loc, .loc, .loc, .loc, .loc, .load, .loc, .load, .alloc, .gen, .loc, .loc, .gen, .loc, .loc, .gen] (.take 0 (.take 1 (.take 2 (.take 3 (.take 4 (.take 6 (.take 5 (.take 7 (.alt 8 (.alt 9 (.take 10 (.take 11 (.alt 12 (.take 13 (.take 14 (.alt 15 .done .stop))) .stop))) .stop) .stop))))))))) (by exact mixed) (by kernel_rfl) ?_
        intro N hN0 hN
        refine GP.take rfl rfl (Does.move rfl ?_)
        refine GP.take rfl rfl (Does.move rfl ?_)
        refine GP.take rfl rfl (Does.move rfl ?_)
        refine GP.take rfl rfl (Does.nilCheck rfl ?_)
        refine GP.take rfl rfl (Does.fieldAddr rfl fo35_2 ?_)
        refine GP.take rfl rfl (Does.fieldAddr rfl fo44_1 ?_)
        refine GP.take rfl rfl (Does.load1N rfl ft30 (hN _ (.tail _ (.head _))) (CellIn.own (.tail _ (.head _)) rfl) ?_)
        refine GP.take rfl rfl (Does.load1N rfl ft5 (hN _ (.head _)) (CellIn.own (.head _) rfl) ?_)
        refine GP.one ?_
        refine GP.take rfl rfl (Does.buildSlice (r := [_]) (.cons rfl .nil) sl30 zl5 (by decide) rfl fun b59 N59 h59 n59 => ?_)
        refine GP.one ?_
        refine GP.take rfl rfl (Does.appendR (row := rU) (l := s.word) (xs := [(34 : UInt8)]) (mc := 1) [(b59, cel 5 [.int .u8 34]), (b8, cel 44 [.int .i32 34, .int .u8 34]), (sb, cel 35 [.int .i64 s.at_, .int .i64 s.high, wv, wsv])] Cw Cws rfl rfl si30 zl5 rfl h1 (fun _ => ⟨b59, 0, rfl, RowIn.own (vs := [rU (34 : UInt8)]) (.head _) rfl⟩) (fun _ => rfl) (by decide) (by simp only [List.length_cons, List.length_nil]; omega) ?_)
        intro wn Cn g1
        refine GP.take rfl rfl (Does.nilCheck rfl ?_)
        refine GP.take rfl rfl (Does.fieldAddr rfl fo35_2 ?_)
        refine GP.one ?_
        refine GP.take0 rfl (Does.store1 rfl rfl sz30 g1.one (.tail (.tail .head)) (.tail (.tail .head)) ?_)
        refine GP.take rfl rfl (Does.nilCheck rfl ?_)
        refine GP.take rfl rfl (Does.fieldAddr rfl fo35_0 ?_)
        refine GP.one ?_
        refine GP.take0 rfl (Does.store1 rfl rfl sz3 rfl (.tail (.tail .head)) .head ?_)
        refine GP.keep [(0, _), (1, _), (2, _)] (.cons rfl (.cons rfl (.cons rfl .nil))) ?_
        repeat refine G.seq ?_
        refine G.region [.loc] (.take 0 .done) rfl ?_
        refine GP.take rfl rfl (Does.assign rfl ?_)
        refine GP.keep [(6, _)] (.cons rfl .nil) ?_
        refine G.perm ?_ (C' := [(b59, cel 5 [.int .u8 34]), (b8, cel 44 [.int .i32 34, .int .u8 34])] ++ ((sb, cel 35 [.int .i64 2, .int .i64 s.high, wn, wsv]) :: (Cn ++ Cws))) (by classical exact List.perm_iff_count.2 fun q => by simp only [List.append_eq, List.nil_append, List.append_nil, List.cons_append, List.count_append, List.count_cons, List.count_nil] <;> omega)
        exact fin_ret (fn := Tryd.f9) Tryd.func9 (res1 rfl rfl) (Split.tail _ _) ⟨by rw [inF, if_neg a2, if_pos a3, if_neg c120, strokeF, if_neg (q0 (by omega)), if_pos cs], by rw [inF, if_neg a2, if_pos a3, if_neg c120, strokeF, if_neg (q0 (by omega)), if_pos cs]; exact ⟨wn, wsv, Cn, Cws, rfl, g1, h2⟩⟩
      intro cs
      refine G.skip ?_
      refine G.inBlock ?_
      repeat refine G.seq ?_
      refine G.region [.loc, .loc] (.take 0 (.take 1 .done)) rfl ?_
      refine GP.take rfl rfl (Does.add rfl rfl (r := ((1 + 1 : Nat) : Int)) (by decide) ?_)
      refine GP.take rfl rfl (Does.move rfl ?_)
      refine GP.keep [(0, _), (1, _), (2, _), (43, _), (44, _)] (.cons rfl (.cons rfl (.cons rfl (.cons rfl (.cons rfl .nil))))) ?_
      refine G.dropP [(b8, cel 44 [.int .i32 34, .int .u8 34])] (A := (sb, cel 35 [.int .i64 s.at_, .int .i64 s.high, wv, wsv]) :: (Cw ++ Cws)) (by classical exact List.perm_iff_count.2 fun q => by simp only [List.append_eq, List.nil_append, List.append_nil, List.cons_append, List.count_append, List.count_cons, List.count_nil] <;> omega) ?_
      exact IH (1 + 1) ⟨by decide, fun h => q0 (by decide), fun _ => cs, fun h => absurd h (by decide), fun h => absurd h (by decide)⟩ (by decide)
    · skip
      refine G.region [.loc, .alloc, .gen] (.take 0 (.take 1 (.take 2 .done))) rfl ?_
      refine GP.take rfl rfl (Does.indexA (v := .agg #[.int .i32 110, .int .u8 10]) rfl rfl (fun w => rfl) ?_)
      refine GP.take rfl rfl (Does.alloc zl44 fun b8 N8 h8 n8 => ?_)
      refine GP.take0 rfl (Does.storeA rfl rfl sz44 (by first | exact .head | exact .tail .head | exact .tail (.tail .head) | exact .tail (.tail (.tail .head)) | exact .tail (.tail (.tail (.tail .head))) | exact .tail (.tail (.tail (.tail (.tail .head))))) (.cons rfl .head (.cons rfl (.tail .head) .nil)) ?_)
      refine GP.keep [(0, _), (1, _), (2, _), (8, _), (43, _), (44, _)] (.cons rfl (.cons rfl (.cons rfl (.cons rfl (.cons rfl (.cons rfl .nil)))))) ?_
      repeat refine G.seq ?_
      refine G.region [.loc, .gen, .loc, .loc] (.take 0 (.take 1 (.take 2 (.take 3 .done)))) rfl ?_
      refine GP.take rfl rfl (Does.fieldAddr rfl fo44_0 ?_)
      refine GP.take rfl rfl (Does.load1 rfl ft21 (CellIn.own (.head _) rfl) ?_)
      refine GP.take rfl rfl (Does.move rfl ?_)
      refine GP.take rfl rfl (Does.eql rfl rfl (show decide ((110 : Int) = (c : Int)) = decide (c = 110) from decide_eq_decide.2 (by omega)) ?_)
      refine GP.keep [(0, _), (1, _), (2, _), (8, _), (43, _), (44, _), (50, _)] (.cons rfl (.cons rfl (.cons rfl (.cons rfl (.cons rfl (.cons rfl (.cons rfl .nil))))))) ?_
      repeat refine G.seq ?_
      refine G.cond rfl ?_ ?_
      · intro cs
        repeat refine G.seq ?_
        refine G.draw [.loc, .loc, .loc, .loc, .loc, .load, .loc, .load, .alloc, .gen, .loc, .loc, .gen, .loc, .loc, .gen] (.take 0 (.take 1 (.take 2 (.take 3 (.take 4 (.take 6 (.take 5 (.take 7 (.alt 8 (.alt 9 (.take 10 (.take 11 (.alt 12 (.take 13 (.take 14 (.alt 15 .done .stop))) .stop))) .stop) .stop))))))))) (by exact mixed) (by kernel_rfl) ?_
        intro N hN0 hN
        refine GP.take rfl rfl (Does.move rfl ?_)
        refine GP.take rfl rfl (Does.move rfl ?_)
        refine GP.take rfl rfl (Does.move rfl ?_)
        refine GP.take rfl rfl (Does.nilCheck rfl ?_)
        refine GP.take rfl rfl (Does.fieldAddr rfl fo35_2 ?_)
        refine GP.take rfl rfl (Does.fieldAddr rfl fo44_1 ?_)
        refine GP.take rfl rfl (Does.load1N rfl ft30 (hN _ (.tail _ (.head _))) (CellIn.own (.tail _ (.head _)) rfl) ?_)
        refine GP.take rfl rfl (Does.load1N rfl ft5 (hN _ (.head _)) (CellIn.own (.head _) rfl) ?_)
        refine GP.one ?_
        refine GP.take rfl rfl (Does.buildSlice (r := [_]) (.cons rfl .nil) sl30 zl5 (by decide) rfl fun b59 N59 h59 n59 => ?_)
        refine GP.one ?_
        refine GP.take rfl rfl (Does.appendR (row := rU) (l := s.word) (xs := [(10 : UInt8)]) (mc := 1) [(b59, cel 5 [.int .u8 10]), (b8, cel 44 [.int .i32 110, .int .u8 10]), (sb, cel 35 [.int .i64 s.at_, .int .i64 s.high, wv, wsv])] Cw Cws rfl rfl si30 zl5 rfl h1 (fun _ => ⟨b59, 0, rfl, RowIn.own (vs := [rU (10 : UInt8)]) (.head _) rfl⟩) (fun _ => rfl) (by decide) (by simp only [List.length_cons, List.length_nil]; omega) ?_)
        intro wn Cn g1
        refine GP.take rfl rfl (Does.nilCheck rfl ?_)
        refine GP.take rfl rfl (Does.fieldAddr rfl fo35_2 ?_)
        refine GP.one ?_
        refine GP.take0 rfl (Does.store1 rfl rfl sz30 g1.one (.tail (.tail .head)) (.tail (.tail .head)) ?_)
        refine GP.take rfl rfl (Does.nilCheck rfl ?_)
        refine GP.take rfl rfl (Does.fieldAddr rfl fo35_0 ?_)
        refine GP.one ?_
        refine GP.take0 rfl (Does.store1 rfl rfl sz3 rfl (.tail (.tail .head)) .head ?_)
        refine GP.keep [(0, _), (1, _), (2, _)] (.cons rfl (.cons rfl (.cons rfl .nil))) ?_
        repeat refine G.seq ?_
        refine G.region [.loc] (.take 0 .done) rfl ?_
        refine GP.take rfl rfl (Does.assign rfl ?_)
        refine GP.keep [(6, _)] (.cons rfl .nil) ?_
        refine G.perm ?_ (C' := [(b59, cel 5 [.int .u8 10]), (b8, cel 44 [.int .i32 110, .int .u8 10])] ++ ((sb, cel 35 [.int .i64 2, .int .i64 s.high, wn, wsv]) :: (Cn ++ Cws))) (by classical exact List.perm_iff_count.2 fun q => by simp only [List.append_eq, List.nil_append, List.append_nil, List.cons_append, List.count_append, List.count_cons, List.count_nil] <;> omega)
        exact fin_ret (fn := Tryd.f9) Tryd.func9 (res1 rfl rfl) (Split.tail _ _) ⟨by rw [inF, if_neg a2, if_pos a3, if_neg c120, strokeF, if_neg (q0 (by omega)), if_neg (q1 (by omega)), if_pos cs], by rw [inF, if_neg a2, if_pos a3, if_neg c120, strokeF, if_neg (q0 (by omega)), if_neg (q1 (by omega)), if_pos cs]; exact ⟨wn, wsv, Cn, Cws, rfl, g1, h2⟩⟩
      intro cs
      refine G.skip ?_
      refine G.inBlock ?_
      repeat refine G.seq ?_
      refine G.region [.loc, .loc] (.take 0 (.take 1 .done)) rfl ?_
      refine GP.take rfl rfl (Does.add rfl rfl (r := ((2 + 1 : Nat) : Int)) (by decide) ?_)
      refine GP.take rfl rfl (Does.move rfl ?_)
      refine GP.keep [(0, _), (1, _), (2, _), (43, _), (44, _)] (.cons rfl (.cons rfl (.cons rfl (.cons rfl (.cons rfl .nil))))) ?_
      refine G.dropP [(b8, cel 44 [.int .i32 110, .int .u8 10])] (A := (sb, cel 35 [.int .i64 s.at_, .int .i64 s.high, wv, wsv]) :: (Cw ++ Cws)) (by classical exact List.perm_iff_count.2 fun q => by simp only [List.append_eq, List.nil_append, List.append_nil, List.cons_append, List.count_append, List.count_cons, List.count_nil] <;> omega) ?_
      exact IH (2 + 1) ⟨by decide, fun h => q0 (by decide), fun h => q1 (by decide), fun _ => cs, fun h => absurd h (by decide)⟩ (by decide)
    · skip
      refine G.region [.loc, .alloc, .gen] (.take 0 (.take 1 (.take 2 .done))) rfl ?_
      refine GP.take rfl rfl (Does.indexA (v := .agg #[.int .i32 116, .int .u8 9]) rfl rfl (fun w => rfl) ?_)
      refine GP.take rfl rfl (Does.alloc zl44 fun b8 N8 h8 n8 => ?_)
      refine GP.take0 rfl (Does.storeA rfl rfl sz44 (by first | exact .head | exact .tail .head | exact .tail (.tail .head) | exact .tail (.tail (.tail .head)) | exact .tail (.tail (.tail (.tail .head))) | exact .tail (.tail (.tail (.tail (.tail .head))))) (.cons rfl .head (.cons rfl (.tail .head) .nil)) ?_)
      refine GP.keep [(0, _), (1, _), (2, _), (8, _), (43, _), (44, _)] (.cons rfl (.cons rfl (.cons rfl (.cons rfl (.cons rfl (.cons rfl .nil)))))) ?_
      repeat refine G.seq ?_
      refine G.region [.loc, .gen, .loc, .loc] (.take 0 (.take 1 (.take 2 (.take 3 .done)))) rfl ?_
      refine GP.take rfl rfl (Does.fieldAddr rfl fo44_0 ?_)
      refine GP.take rfl rfl (Does.load1 rfl ft21 (CellIn.own (.head _) rfl) ?_)
      refine GP.take rfl rfl (Does.move rfl ?_)
      refine GP.take rfl rfl (Does.eql rfl rfl (show decide ((116 : Int) = (c : Int)) = decide (c = 116) from decide_eq_decide.2 (by omega)) ?_)
      refine GP.keep [(0, _), (1, _), (2, _), (8, _), (43, _), (44, _), (50, _)] (.cons rfl (.cons rfl (.cons rfl (.cons rfl (.cons rfl (.cons rfl (.cons rfl .nil))))))) ?_
      repeat refine G.seq ?_
      refine G.cond rfl ?_ ?_
      · intro cs
        repeat refine G.seq ?_
        refine G.draw [.loc, .loc, .loc, .loc, .loc, .load, .loc, .load, .alloc, .gen, .loc, .loc, .gen, .loc, .loc, .gen] (.take 0 (.take 1 (.take 2 (.take 3 (.take 4 (.take 6 (.take 5 (.take 7 (.alt 8 (.alt 9 (.take 10 (.take 11 (.alt 12 (.take 13 (.take 14 (.alt 15 .done .stop))) .stop))) .stop) .stop))))))))) (by exact mixed) (by kernel_rfl) ?_
        intro N hN0 hN
        refine GP.take rfl rfl (Does.move rfl ?_)
        refine GP.take rfl rfl (Does.move rfl ?_)
        refine GP.take rfl rfl (Does.move rfl ?_)
        refine GP.take rfl rfl (Does.nilCheck rfl ?_)
        refine GP.take rfl rfl (Does.fieldAddr rfl fo35_2 ?_)
        refine GP.take rfl rfl (Does.fieldAddr rfl fo44_1 ?_)
        refine GP.take rfl rfl (Does.load1N rfl ft30 (hN _ (.tail _ (.head _))) (CellIn.own (.tail _ (.head _)) rfl) ?_)
        refine GP.take rfl rfl (Does.load1N rfl ft5 (hN _ (.head _)) (CellIn.own (.head _) rfl) ?_)
        refine GP.one ?_
        refine GP.take rfl rfl (Does.buildSlice (r := [_]) (.cons rfl .nil) sl30 zl5 (by decide) rfl fun b59 N59 h59 n59 => ?_)
        refine GP.one ?_
        refine GP.take rfl rfl (Does.appendR (row := rU) (l := s.word) (xs := [(9 : UInt8)]) (mc := 1) [(b59, cel 5 [.int .u8 9]), (b8, cel 44 [.int .i32 116, .int .u8 9]), (sb, cel 35 [.int .i64 s.at_, .int .i64 s.high, wv, wsv])] Cw Cws rfl rfl si30 zl5 rfl h1 (fun _ => ⟨b59, 0, rfl, RowIn.own (vs := [rU (9 : UInt8)]) (.head _) rfl⟩) (fun _ => rfl) (by decide) (by simp only [List.length_cons, List.length_nil]; omega) ?_)
        intro wn Cn g1
        refine GP.take rfl rfl (Does.nilCheck rfl ?_)
        refine GP.take rfl rfl (Does.fieldAddr rfl fo35_2 ?_)
        refine GP.one ?_
        refine GP.take0 rfl (Does.store1 rfl rfl sz30 g1.one (.tail (.tail .head)) (.tail (.tail .head)) ?_)
        refine GP.take rfl rfl (Does.nilCheck rfl ?_)
        refine GP.take rfl rfl (Does.fieldAddr rfl fo35_0 ?_)
        refine GP.one ?_
        refine GP.take0 rfl (Does.store1 rfl rfl sz3 rfl (.tail (.tail .head)) .head ?_)
        refine GP.keep [(0, _), (1, _), (2, _)] (.cons rfl (.cons rfl (.cons rfl .nil))) ?_
        repeat refine G.seq ?_
        refine G.region [.loc] (.take 0 .done) rfl ?_
        refine GP.take rfl rfl (Does.assign rfl ?_)
        refine GP.keep [(6, _)] (.cons rfl .nil) ?_
        refine G.perm ?_ (C' := [(b59, cel 5 [.int .u8 9]), (b8, cel 44 [.int .i32 116, .int .u8 9])] ++ ((sb, cel 35 [.int .i64 2, .int .i64 s.high, wn, wsv]) :: (Cn ++ Cws))) (by classical exact List.perm_iff_count.2 fun q => by simp only [List.append_eq, List.nil_append, List.append_nil, List.cons_append, List.count_append, List.count_cons, List.count_nil] <;> omega)
        exact fin_ret (fn := Tryd.f9) Tryd.func9 (res1 rfl rfl) (Split.tail _ _) ⟨by rw [inF, if_neg a2, if_pos a3, if_neg c120, strokeF, if_neg (q0 (by omega)), if_neg (q1 (by omega)), if_neg (q2 (by omega)), if_pos cs], by rw [inF, if_neg a2, if_pos a3, if_neg c120, strokeF, if_neg (q0 (by omega)), if_neg (q1 (by omega)), if_neg (q2 (by omega)), if_pos cs]; exact ⟨wn, wsv, Cn, Cws, rfl, g1, h2⟩⟩
      intro cs
      refine G.skip ?_
      refine G.inBlock ?_
      repeat refine G.seq ?_
      refine G.region [.loc, .loc] (.take 0 (.take 1 .done)) rfl ?_
      refine GP.take rfl rfl (Does.add rfl rfl (r := ((3 + 1 : Nat) : Int)) (by decide) ?_)
      refine GP.take rfl rfl (Does.move rfl ?_)
      refine GP.keep [(0, _), (1, _), (2, _), (43, _), (44, _)] (.cons rfl (.cons rfl (.cons rfl (.cons rfl (.cons rfl .nil))))) ?_
      refine G.dropP [(b8, cel 44 [.int .i32 116, .int .u8 9])] (A := (sb, cel 35 [.int .i64 s.at_, .int .i64 s.high, wv, wsv]) :: (Cw ++ Cws)) (by classical exact List.perm_iff_count.2 fun q => by simp only [List.append_eq, List.nil_append, List.append_nil, List.cons_append, List.count_append, List.count_cons, List.count_nil] <;> omega) ?_
      exact IH (3 + 1) ⟨by decide, fun h => q0 (by decide), fun h => q1 (by decide), fun h => q2 (by decide), fun _ => cs⟩ (by decide)
  intro a3
  refine G.skip ?_
  refine G.inBlock ?_
  repeat refine G.seq ?_
  refine G.region [.loc, .gen, .loc] (.take 0 (.take 1 (.take 2 .done))) rfl ?_
  refine GP.take rfl rfl (Does.move rfl ?_)
  refine GP.take rfl rfl (Does.callN (.cons rfl .nil) cb15 (digit_ct c) (fun _ _ => trivial) ?_)
  rintro _ _ ⟨rfl, rfl⟩
  simp only [List.append_nil]
  refine GP.take rfl rfl (Does.assign rfl ?_)
  refine GP.keep [(0, _), (1, _), (2, _), (9, _)] (.cons rfl (.cons rfl (.cons rfl (.cons rfl .nil)))) ?_
  repeat refine G.seq ?_
  refine G.region [.loc, .loc, .loc, .gen, .loc] (.take 0 (.take 1 (.take 2 (.take 3 (.take 4 .done))))) rfl ?_
  refine GP.take rfl rfl (Does.move rfl ?_)
  refine GP.take rfl rfl (Does.nilCheck rfl ?_)
  refine GP.take rfl rfl (Does.fieldAddr rfl fo35_0 ?_)
  refine GP.take rfl rfl (Does.load1 rfl ft3 (CellIn.own (.head _) rfl) ?_)
  refine GP.take rfl rfl (Does.eql rfl rfl (show decide (s.at_ = 4) = decide (s.at_ = 4) from decide_eq_decide.2 (by omega)) ?_)
  refine GP.keep [(0, _), (1, _), (2, _), (9, _), (72, _)] (.cons rfl (.cons rfl (.cons rfl (.cons rfl (.cons rfl .nil))))) ?_
  repeat refine G.seq ?_
  refine G.cond rfl ?_ ?_
  · intro a4
    repeat refine G.seq ?_
    refine G.region [.loc, .loc, .loc, .loc, .loc, .gen, .loc, .loc, .gen] (.take 0 (.take 1 (.take 2 (.take 3 (.take 4 (.take 5 (.take 6 (.take 7 (.take 8 .done))))))))) rfl ?_
    refine GP.take rfl rfl (Does.move rfl ?_)
    refine GP.take rfl rfl (Does.move rfl ?_)
    refine GP.take rfl rfl (Does.move rfl ?_)
    refine GP.take rfl rfl (Does.nilCheck rfl ?_)
    refine GP.take rfl rfl (Does.fieldAddr rfl fo35_1 ?_)
    refine GP.take0 rfl (Does.store1 rfl rfl sz3 rfl .head (.tail .head) ?_)
    refine GP.take rfl rfl (Does.nilCheck rfl ?_)
    refine GP.take rfl rfl (Does.fieldAddr rfl fo35_0 ?_)
    refine GP.take0 rfl (Does.store1 rfl rfl sz3 rfl .head .head ?_)
    refine GP.keep [(9, _)] (.cons rfl .nil) ?_
    repeat refine G.seq ?_
    refine G.region [.loc, .loc, .loc] (.take 0 (.take 1 (.take 2 .done))) rfl ?_
    refine GP.take rfl rfl (Does.move rfl ?_)
    refine GP.take rfl rfl (Does.geq rfl rfl rfl ?_)
    refine GP.take rfl rfl (Does.assign rfl ?_)
    refine GP.keep [(6, _)] (.cons rfl .nil) ?_
    exact fin_ret (fn := Tryd.f9) (R := []) Tryd.func9 (res1 rfl rfl) .all ⟨by rw [inF, if_neg a2, if_neg a3, if_pos a4], by rw [inF, if_neg a2, if_neg a3, if_pos a4]; exact ⟨wv, wsv, Cw, Cws, rfl, h1, h2⟩⟩
  intro a4
  repeat refine G.seq ?_
  refine G.draw [.loc, .loc, .loc, .loc, .loc, .load, .loc, .loc, .loc, .load, .loc, .loc, .loc, .loc, .alloc, .gen, .loc, .loc, .gen, .loc, .loc, .gen] (.take 0 (.take 1 (.take 2 (.take 3 (.take 4 (.take 6 (.take 7 (.take 8 (.take 11 (.take 5 (.take 9 (.take 10 (.take 12 (.take 13 (.alt 14 (.alt 15 (.take 16 (.take 17 (.alt 18 (.take 19 (.take 20 (.alt 21 .done .stop))) .stop))) .stop) .stop))))))))))))))) (by exact mixed) (by kernel_rfl) ?_
  intro N hN0 hN
  refine GP.take rfl rfl (Does.move rfl ?_)
  refine GP.take rfl rfl (Does.move rfl ?_)
  refine GP.take rfl rfl (Does.move rfl ?_)
  refine GP.take rfl rfl (Does.nilCheck rfl ?_)
  refine GP.take rfl rfl (Does.fieldAddr rfl fo35_2 ?_)
  refine GP.take rfl rfl (Does.move rfl ?_)
  refine GP.take rfl rfl (Does.nilCheck rfl ?_)
  refine GP.take rfl rfl (Does.fieldAddr rfl fo35_1 ?_)
  refine GP.take rfl rfl (Does.move rfl ?_)
  refine GP.take rfl rfl (Does.load1N rfl ft30 (hN _ (.head _)) (CellIn.own (.head _) rfl) ?_)
  refine GP.take rfl rfl (Does.load1N rfl ft3 (hN _ (.head _)) (CellIn.own (.head _) rfl) ?_)
  refine GP.take rfl rfl (Does.mul rfl rfl (r := 16 * s.high) (wr_i64 (by omega) (by omega)) ?_)
  refine GP.take rfl rfl (Does.add rfl rfl (r := 16 * s.high + digF c) (wr_i64 (by omega) (by omega)) ?_)
  refine GP.take rfl rfl (Does.convL rfl Tryd.underlying5 ⟨_, Tryd.underlying3⟩ (r := IntKind.u8.wrap (16 * s.high + digF c)) rfl ?_)
  refine GP.one ?_
  refine GP.take rfl rfl (Does.buildSlice (r := [_]) (.cons rfl .nil) sl30 zl5 (by decide) rfl fun b94 N94 h94 n94 => ?_)
  refine GP.one ?_
  refine GP.take rfl rfl (Does.appendR (row := rU) (l := s.word) (xs := [byteF (16 * s.high + digF c)]) (mc := 1) [(b94, cel 5 [.int .u8 (IntKind.u8.wrap (16 * s.high + digF c))]), (sb, cel 35 [.int .i64 s.at_, .int .i64 s.high, wv, wsv])] Cw Cws rfl rfl si30 zl5 rfl h1 (fun _ => ⟨b94, 0, rfl, RowIn.own (vs := [rU (byteF (16 * s.high + digF c))]) (.head _) (by rw [rU, byteF_val]; rfl)⟩) (fun _ => rfl) (by decide) (by simp only [List.length_cons, List.length_nil]; omega) ?_)
  intro wn Cn g1
  refine GP.take rfl rfl (Does.nilCheck rfl ?_)
  refine GP.take rfl rfl (Does.fieldAddr rfl fo35_2 ?_)
  refine GP.one ?_
  refine GP.take0 rfl (Does.store1 rfl rfl sz30 g1.one (.tail .head) (.tail (.tail .head)) ?_)
  refine GP.take rfl rfl (Does.nilCheck rfl ?_)
  refine GP.take rfl rfl (Does.fieldAddr rfl fo35_0 ?_)
  refine GP.one ?_
  refine GP.take0 rfl (Does.store1 rfl rfl sz3 rfl (.tail .head) .head ?_)
  refine GP.keep [(9, _)] (.cons rfl .nil) ?_
  repeat refine G.seq ?_
  refine G.region [.loc, .loc, .loc] (.take 0 (.take 1 (.take 2 .done))) rfl ?_
  refine GP.take rfl rfl (Does.move rfl ?_)
  refine GP.take rfl rfl (Does.geq rfl rfl rfl ?_)
  refine GP.take rfl rfl (Does.assign rfl ?_)
  refine GP.keep [(6, _)] (.cons rfl .nil) ?_
  refine G.perm ?_ (C' := [(b94, cel 5 [.int .u8 (IntKind.u8.wrap (16 * s.high + digF c))])] ++ ((sb, cel 35 [.int .i64 2, .int .i64 s.high, wn, wsv]) :: (Cn ++ Cws))) (by classical exact List.perm_iff_count.2 fun q => by simp only [List.append_eq, List.nil_append, List.append_nil, List.cons_append, List.count_append, List.count_cons, List.count_nil] <;> omega)
  exact fin_ret (fn := Tryd.f9) Tryd.func9 (res1 rfl rfl) (Split.tail _ _) ⟨by rw [inF, if_neg a2, if_neg a3, if_neg a4], by rw [inF, if_neg a2, if_neg a3, if_neg a4]; exact ⟨wn, wsv, Cn, Cws, rfl, g1, h2⟩⟩
end Go.Proofs.YtcgenmfnlocbbaaDoor.T
