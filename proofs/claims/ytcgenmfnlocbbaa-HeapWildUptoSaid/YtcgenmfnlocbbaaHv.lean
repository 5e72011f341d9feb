/- The wild compare of HeapWild, and what it asks of its lists: once, each. Nothing is claimed of a law here. -/
import Derived.Test.YtcgenmfnlocbbaaHq
namespace Go.Proofs.Ytcgenmfnlocbbaa.T
open Go.Lg Go.Hp
theorem cb32 : callable Try.prog 32 = true := by kernel_rfl
theorem fo31_1 : fieldOff Try.prog 31 1 = some 1 := by kernel_rfl
theorem ft48 : flatT Try.prog 48 = true := by kernel_rfl
theorem is48 : isSlice Try.prog 48 = true := by kernel_rfl
theorem sl48 : sliceElem Try.prog 48 = some (3, 1) := by kernel_rfl
/-- the blocks of the wild compare: its count, its table's variable, and where the table lies -/
def wE (cb tb : Nat) (tv : Value) (Et : Chunks) (c : Nat) : Chunks := (cb, cel 3 [.int .i64 (IntKind.i64.wrap (c : Int))]) :: (tb, cel 48 [tv]) :: Et
def u64 (n : Int) : Int := IntKind.u64.wrap n
def wIdx (len : Nat) (x y : Int × Int) : Int := (u64 (u64 (u64 (u64 x.1 * 31) + u64 (u64 y.1 * 7)) + u64 x.2)).tmod (len : Int)
def cmpW (T : List Int) (x y : Int × Int) : Int := if T.length = 0 then 1 else T.getD (wIdx T.length x y).toNat 0
theorem u64_nonneg (n : Int) : 0 ≤ u64 n := by
  unfold u64 IntKind.wrap
  simp only [IntKind.signed, Bool.false_and, Bool.false_eq_true, if_false]
  exact Int.emod_nonneg _ (by decide)
theorem wIdx_lt (len : Nat) (h : 0 < len) (x y : Int × Int) : 0 ≤ wIdx len x y ∧ wIdx len x y < len := by
  unfold wIdx
  exact ⟨Int.tmod_nonneg _ (u64_nonneg _), Int.tmod_lt_of_pos _ (by omega)⟩
/-- the table lies in an owned block -/
def TabIn (T : List Int) (b o : Nat) (Et : Chunks) : Prop := T ≠ [] → ∃ (arr : List Value) (e : TypeId) (fr : Nat × Nat), (b, Obj.cells arr.toArray e fr) ∈ Et ∧ ∀ i v, T[i]? = some v → arr[o + i]? = some (.int .i64 v)
theorem wild_ct (cb tb c : Nat) (T : List Int) (ad : Option Addr) (cap b o : Nat) (Et : Chunks) (had : T ≠ [] → ad = some ⟨b, o, none⟩) (hT : TabIn T b o Et) (hbig : T.length ≤ 1048576) (x y : Int × Int) :
    Ct Try.prog 32 [Value.agg (enc1 x).toArray, Value.agg (enc1 y).toArray, .pointer (some ⟨cb, 0, none⟩), .pointer (some ⟨tb, 0, none⟩)].toArray (fun _ => True) (wE cb tb (.slice ad T.length cap) Et c) (fun v C' => v = .int .i64 (cmpW T x y) ∧ C' = wE cb tb (.slice ad T.length cap) Et (c + 1)) := by
  unfold wE
  refine ct_of_walk (fn := Try.f32) Try.func32 rfl rfl fun w0 hpre hst => ?_
  clear hst
  repeat refine G.seq ?_
  refine G.region [.alloc, .alloc, .loc] (.take 0 (.take 1 (.take 2 .done))) rfl ?_
  refine GP.take rfl rfl (Does.box (T := 31) rfl rfl fun b4 N4 h4 n4 => ?_)
  refine GP.take rfl rfl (Does.box (T := 31) rfl rfl fun b5 N5 h5 n5 => ?_)
  refine GP.take rfl rfl (Does.assign rfl ?_)
  refine GP.keep [(2, _), (3, _), (4, _), (5, _)] (.cons rfl (.cons rfl (.cons rfl (.cons rfl .nil)))) ?_
  repeat refine G.seq ?_
  refine G.region [.gen, .loc, .gen] (.take 0 (.take 1 (.take 2 .done))) rfl ?_
  refine GP.take rfl rfl (Does.load1 rfl ft3 (CellIn.own (.tail _ (.tail _ (.head _))) rfl) ?_)
  refine GP.take rfl rfl (Does.add rfl rfl (r := IntKind.i64.wrap ((c + 1 : Nat) : Int)) (by rw [wrap_i64_add]; rfl) ?_)
  refine GP.take0 rfl (Does.store1 rfl rfl sz3 rfl (.tail (.tail .head)) .head ?_)
  refine GP.keep [(2, _), (3, _), (4, _), (5, _)] (.cons rfl (.cons rfl (.cons rfl (.cons rfl .nil)))) ?_
  repeat refine G.seq ?_
  refine G.region [.gen, .loc, .loc] (.take 0 (.take 1 (.take 2 .done))) rfl ?_
  refine GP.take rfl rfl (Does.load1 rfl ft48 (CellIn.own (.tail _ (.tail _ (.tail _ (.head _)))) rfl) ?_)
  refine GP.take rfl rfl (Does.len rfl is48 ?_)
  refine GP.take rfl rfl (Does.eql rfl rfl rfl ?_)
  refine GP.keep [(2, _), (3, _), (4, _), (5, _), (11, _)] (.cons rfl (.cons rfl (.cons rfl (.cons rfl (.cons rfl .nil))))) ?_
  repeat refine G.seq ?_
  refine G.cond rfl ?_ ?_
  · intro hz
    repeat refine G.seq ?_
    refine G.region [.loc] (.take 0 .done) rfl ?_
    refine GP.take rfl rfl (Does.assign rfl ?_)
    refine GP.keep [(6, _)] (.cons rfl .nil) ?_
    exact fin_ret (fn := Try.f32) Try.func32 (res1 rfl rfl) .split2 ⟨by rw [cmpW, if_pos (by omega)], rfl⟩
  intro hz
  have hpos : 0 < T.length := by omega
  have hne : T ≠ [] := List.length_pos_iff.1 hpos
  obtain rfl := had hne
  obtain ⟨arr, e, fr, hm, hrow⟩ := hT hne
  obtain ⟨hw0, hw1⟩ := wIdx_lt T.length hpos x y
  have hil : (wIdx T.length x y).toNat < T.length := by omega
  refine G.skip ?_
  repeat refine G.seq ?_
  refine G.draw [.load, .loc, .load, .loc, .loc, .loc, .load, .loc, .loc, .loc, .loc, .load, .loc, .loc, .load, .loc, .loc, .loc, .loc, .loc, .load, .loc] (.take 1 (.take 5 (.take 10 (.take 0 (.take 2 (.take 3 (.take 4 (.take 6 (.take 7 (.take 8 (.take 9 (.take 11 (.take 12 (.take 13 (.take 14 (.take 15 (.take 16 (.take 17 (.take 18 (.take 19 (.take 20 (.take 21 .done)))))))))))))))))))))) (by exact mixed) (by kernel_rfl) ?_
  intro N hN0 hN
  refine GP.take rfl rfl (Does.fieldAddr rfl fo31_0 ?_)
  refine GP.take rfl rfl (Does.fieldAddr rfl fo31_0 ?_)
  refine GP.take rfl rfl (Does.fieldAddr rfl fo31_1 ?_)
  refine GP.take rfl rfl (Does.load1N rfl ft48 (hN _ (.tail _ (.tail _ (.tail _ (.head _))))) (CellIn.own (.tail _ (.tail _ (.tail _ (.head _)))) rfl) ?_)
  refine GP.take rfl rfl (Does.load1N rfl ft3 (hN _ (.tail _ (.head _))) (CellIn.own (.tail _ (.head _)) rfl) ?_)
  refine GP.take rfl rfl (Does.convL rfl Try.underlying22 ⟨_, Try.underlying3⟩ (r := u64 _) rfl ?_)
  refine GP.take rfl rfl (Does.mul rfl rfl (r := u64 _) rfl ?_)
  refine GP.take rfl rfl (Does.load1N rfl ft3 (hN _ (.head _)) (CellIn.own (.head _) rfl) ?_)
  refine GP.take rfl rfl (Does.convL rfl Try.underlying22 ⟨_, Try.underlying3⟩ (r := u64 _) rfl ?_)
  refine GP.take rfl rfl (Does.mul rfl rfl (r := u64 _) rfl ?_)
  refine GP.take rfl rfl (Does.add rfl rfl (r := u64 _) rfl ?_)
  refine GP.take rfl rfl (Does.load1N rfl ft3 (hN _ (.tail _ (.head _))) (CellIn.own (.tail _ (.head _)) rfl) ?_)
  refine GP.take rfl rfl (Does.convL rfl Try.underlying22 ⟨_, Try.underlying3⟩ (r := u64 _) rfl ?_)
  refine GP.take rfl rfl (Does.add rfl rfl (r := u64 _) rfl ?_)
  refine GP.take rfl rfl (Does.load1N rfl ft48 (hN _ (.tail _ (.tail _ (.tail _ (.head _))))) (CellIn.own (.tail _ (.tail _ (.tail _ (.head _)))) rfl) ?_)
  refine GP.take rfl rfl (Does.len rfl is48 ?_)
  refine GP.take rfl rfl (Does.convL rfl Try.underlying22 ⟨_, Try.underlying3⟩ (r := (T.length : Int)) (wr_u64 (by omega) (by omega)) ?_)
  refine GP.take rfl rfl (Does.rem rfl rfl (by omega) (r := wIdx T.length x y) rfl ?_)
  refine GP.take rfl rfl (Does.convL rfl Try.underlying3 ⟨_, Try.underlying22⟩ (r := wIdx T.length x y) (wr_i64 (by omega) (by omega)) ?_)
  refine GP.take rfl rfl (Does.indexAddr (wIdx T.length x y).toNat rfl rfl sl48 (by omega) hil ?_)
  refine GP.take rfl rfl (Does.load1N rfl ft3 (hN (b, _) (.tail _ (.tail _ (.tail _ (.tail _ hm))))) (CellIn.own (v := .int .i64 (T.getD (wIdx T.length x y).toNat 0)) (.tail _ (.tail _ (.tail _ (.tail _ hm)))) (by have := hrow (wIdx T.length x y).toNat T[(wIdx T.length x y).toNat] (by simp); simpa [hil] using this)) ?_)
  refine GP.take rfl rfl (Does.assign rfl ?_)
  refine GP.keep [(6, _)] (.cons rfl .nil) ?_
  exact fin_ret (fn := Try.f32) Try.func32 (res1 rfl rfl) .split2 ⟨by rw [cmpW, if_neg (by omega)], rfl⟩
theorem wild_ok (cb tb : Nat) (T : List Int) (ad : Option Addr) (cap b o : Nat) (Et : Chunks) (had : T ≠ [] → ad = some ⟨b, o, none⟩) (hT : TabIn T b o Et) (hbig : T.length ≤ 1048576) :
    CmpOk Try.prog 32 #[] #[.pointer (some ⟨cb, 0, none⟩), .pointer (some ⟨tb, 0, none⟩)] (wE cb tb (.slice ad T.length cap) Et) enc1 (cmpW T) := ⟨cb32, fun c x y => wild_ct cb tb c T ad cap b o Et had hT hbig x y⟩
theorem zeros_bool (n : Nat) : zerosL [.bool false] (n * 1) = (List.replicate n false).flatMap rowB := by
  rw [rowB_map, List.map_replicate, Nat.mul_one]
  unfold zerosL
  refine List.ext_getElem (by simp) fun i h1 h2 => ?_
  simp [Nat.mod_one]
/-- these are things of the list, none twice -/
def Once (inn out : List (Int × Int)) : Prop := (∀ x ∈ out, ∃ n : Nat, x.2 = (n : Int) ∧ inn[n]? = some x) ∧ (out.map (·.2)).Nodup
theorem once_ct (inn out : List (Int × Int)) (ad0 ad1 : Option Addr) (cap0 cap1 b0 o0 b1 o1 : Nat) (h0 : inn ≠ [] → ad0 = some ⟨b0, o0, none⟩) (h1 : out ≠ [] → ad1 = some ⟨b1, o1, none⟩) (hbig : inn.length ≤ 1048576) (hbig1 : out.length ≤ 1048576) (hon : Once inn out) :
    Ct Try.prog 34 [.slice ad0 inn.length cap0, .slice ad1 out.length cap1].toArray (fun w => At w b0 o0 (inn.flatMap enc1) ∧ At w b1 o1 (out.flatMap enc1)) [] (fun v C' => v = .bool true ∧ C' = []) := by
  refine ct_of_walk (fn := Try.f34) Try.func34 rfl rfl fun w0 hpre hst => ?_
  clear hst
  repeat refine G.seq ?_
  obtain ⟨hp0, hp1⟩ := hpre
  refine G.region [.loc] (.take 0 .done) rfl ?_
  refine GP.take rfl rfl (Does.assign rfl ?_)
  refine GP.keep [(0, _), (1, _), (4, _)] (.cons rfl (.cons rfl (.cons rfl .nil))) ?_
  repeat refine G.seq ?_
  refine G.region [.loc, .loc, .gen, .loc] (.take 0 (.take 1 (.take 2 (.take 3 .done)))) rfl ?_
  refine GP.take rfl rfl (Does.move rfl ?_)
  refine GP.take rfl rfl (Does.len rfl is34 ?_)
  refine GP.take rfl rfl (Does.makeSlice (l := inn.length) (c := inn.length) rfl rfl si67 bz4 rfl (by decide) (Nat.le_refl _) (by omega) (by omega) fun bm Nm hm nm => ?_)
  refine GP.take rfl rfl (Does.assign rfl ?_)
  refine GP.keep [(0, _), (1, _), (5, _)] (.cons rfl (.cons rfl (.cons rfl .nil))) ?_
  repeat refine G.seq ?_
  refine G.region [.loc] (.take 0 .done) rfl ?_
  refine GP.take rfl rfl (Does.assign rfl ?_)
  refine GP.keep [(0, _), (1, _), (5, _), (6, _)] (.cons rfl (.cons rfl (.cons rfl (.cons rfl .nil)))) ?_
  repeat refine G.seq ?_
  rw [zeros_bool]
  refine G.block ?_
  refine G.loop (S := List Bool × Nat) (fun s => [(0, .slice ad0 inn.length cap0), (1, .slice ad1 out.length cap1), (5, .slice (some ⟨bm, 0, none⟩) inn.length inn.length), (6, .int .i64 (s.2 : Int))]) (fun s => [(bm, cel 4 (s.1.flatMap rowB))])
    (fun s => s.1.length = inn.length ∧ s.2 ≤ out.length ∧ ∀ n : Nat, s.1[n]? = some true → ∃ j, j < s.2 ∧ (out.map (·.2))[j]? = some (n : Int)) (fun s => out.length - s.2) (List.replicate inn.length false, 0) ⟨by simp, Nat.zero_le _, fun n h => by simp [List.getElem?_replicate] at h⟩ (.cons rfl (.cons rfl (.cons rfl (.cons rfl .nil)))) .all ?_
  rintro ⟨q, i⟩ ⟨hq, hi, hse⟩ IH
  simp only at hq hi hse IH ⊢
  repeat refine G.seq ?_
  refine G.region [.loc, .loc, .loc, .loc] (.take 0 (.take 1 (.take 2 (.take 3 .done)))) rfl ?_
  refine GP.take rfl rfl (Does.move rfl ?_)
  refine GP.take rfl rfl (Does.move rfl ?_)
  refine GP.take rfl rfl (Does.len rfl is34 ?_)
  refine GP.take rfl rfl (Does.lss rfl rfl rfl ?_)
  refine GP.keep [(0, _), (1, _), (5, _), (6, _), (14, _)] (.cons rfl (.cons rfl (.cons rfl (.cons rfl (.cons rfl .nil))))) ?_
  repeat refine G.seq ?_
  refine G.cond rfl ?_ ?_
  case refine_2 =>
    intro hz
    refine G.exit rfl ?_
    repeat refine G.seq ?_
    refine G.region [.loc] (.take 0 .done) rfl ?_
    refine GP.take rfl rfl (Does.assign rfl ?_)
    refine GP.keep [(4, _)] (.cons rfl .nil) ?_
    exact fin_ret (fn := Try.f34) Try.func34 (res1 rfl rfl) .nil ⟨rfl, rfl⟩
  intro hz
  have hio : i < out.length := by omega
  have hone : out ≠ [] := by rintro rfl; simp at hio
  obtain rfl := h1 hone
  obtain ⟨⟨k, n'⟩, hx⟩ : ∃ x, out[i]? = some x := ⟨out[i], by simp [hio]⟩
  obtain ⟨n, hn', hin⟩ := hon.1 _ (List.mem_of_getElem? hx)
  simp only at hn'
  subst hn'
  have hnl : n < inn.length := (List.getElem?_eq_some_iff.1 hin).1
  have hinne : inn ≠ [] := by rintro rfl; simp at hnl
  obtain rfl := h0 hinne
  have hqn : q[n]? = some false := by
    rcases hqe : q[n]? with _ | b
    · rw [List.getElem?_eq_none_iff] at hqe; omega
    · cases b with
      | false => rfl
      | true =>
        obtain ⟨j, hj, hje⟩ := hse n hqe
        have hie : (out.map (·.2))[i]? = some (n : Int) := by rw [List.getElem?_map, hx]; rfl
        have := (List.getElem?_inj (by simp; omega) hon.2).1 (hje.trans hie.symm)
        omega
  refine G.skip ?_
  repeat refine G.seq ?_
  refine G.block ?_
  repeat refine G.seq ?_
  have hro : ∀ C, RowIn (cxF Try.prog 34 Try.f34.ntmps w0 (List.map Prod.fst ([] : Chunks)) fun v C' => v = .bool true ∧ C' = []) C b1 (o1 + i * 2) (enc1 (k, (n : Int))) := fun C => by
    have := At.old (X := cxF Try.prog 34 Try.f34.ntmps w0 (List.map Prod.fst ([] : Chunks)) fun v C' => v = .bool true ∧ C' = []) (C := C) (by simp) hp1 i hio
    rw [(List.getElem?_eq_some_iff.1 hx).2] at this
    exact this
  have hri : ∀ C, RowIn (cxF Try.prog 34 Try.f34.ntmps w0 (List.map Prod.fst ([] : Chunks)) fun v C' => v = .bool true ∧ C' = []) C b0 (o0 + n * 2) (enc1 (k, (n : Int))) := fun C => by
    have := At.old (X := cxF Try.prog 34 Try.f34.ntmps w0 (List.map Prod.fst ([] : Chunks)) fun v C' => v = .bool true ∧ C' = []) (C := C) (by simp) hp0 n hnl
    rw [(List.getElem?_eq_some_iff.1 hin).2] at this
    exact this
  have hlt0 := At.lt hp0 n hnl
  have hlt1 := At.lt hp1 i hio
  refine G.region [.loc, .loc, .loc, .loc, .gen, .loc] (.take 0 (.take 1 (.take 2 (.take 3 (.take 4 (.take 5 .done)))))) rfl ?_
  refine GP.take rfl rfl (Does.move rfl ?_)
  refine GP.take rfl rfl (Does.move rfl ?_)
  refine GP.take rfl rfl (Does.indexAddr i rfl rfl sl34 rfl hio ?_)
  refine GP.take rfl rfl (Does.fieldAddr rfl fo31_1 ?_)
  refine GP.take rfl rfl (Does.load1 rfl ft3 (fun w hs => hro _ w hs 1 _ rfl) ?_)
  refine GP.take rfl rfl (Does.assign rfl ?_)
  refine GP.keep [(0, _), (1, _), (5, _), (6, _), (7, _)] (.cons rfl (.cons rfl (.cons rfl (.cons rfl (.cons rfl .nil))))) ?_
  repeat refine G.seq ?_
  refine G.draw [.loc, .loc, .loc, .loc, .loc, .loc, .loc, .loc, .loc, .loc, .loc, .loc, .load, .loc, .loc, .loc, .loc, .loc, .load, .loc, .loc, .loc, .load, .loc, .loc] (.take 0 (.take 1 (.take 2 (.take 3 (.take 4 (.take 5 (.take 6 (.take 7 (.take 8 (.take 9 (.take 10 (.take 11 (.take 12 (.take 13 (.take 14 (.take 15 (.take 16 (.take 17 (.take 19 (.take 20 (.take 21 (.take 18 (.take 22 (.take 23 (.take 24 .done))))))))))))))))))))))))) (by exact mixed) (by kernel_rfl) ?_
  intro N hN0 hN
  refine GP.take rfl rfl (Does.move rfl ?_)
  refine GP.take rfl rfl (Does.lss rfl rfl (show decide ((n : Int) < 0) = false from decide_eq_false (by omega)) ?_)
  refine GP.take rfl rfl (Does.move rfl ?_)
  refine GP.takeG rfl rfl rfl rfl (Does.move rfl ?_)
  refine GP.takeG rfl rfl rfl rfl (Does.move rfl ?_)
  refine GP.takeG rfl rfl rfl rfl (Does.len rfl is34 ?_)
  refine GP.takeG rfl rfl rfl rfl (Does.geq rfl rfl (show decide ((n : Int) ≥ (inn.length : Int)) = false from decide_eq_false (by omega)) ?_)
  refine GP.take rfl rfl (Does.pickF rfl rfl ?_)
  refine GP.take rfl rfl (Does.move rfl ?_)
  refine GP.takeG rfl rfl rfl rfl (Does.move rfl ?_)
  refine GP.takeG rfl rfl rfl rfl (Does.move rfl ?_)
  refine GP.takeG rfl rfl rfl rfl (Does.indexAddr n rfl rfl sl67 rfl hnl ?_)
  refine GP.takeG rfl rfl rfl rfl (Does.load1N rfl ft4 (hN _ (.head _)) (CellIn.own (l := q.flatMap rowB) (.head _) (by have := rowB_at q [] n false hqn; simpa using this)) ?_)
  refine GP.take rfl rfl (Does.pickF rfl rfl ?_)
  refine GP.take rfl rfl (Does.move rfl ?_)
  refine GP.takeG rfl rfl rfl rfl (Does.move rfl ?_)
  refine GP.takeG rfl rfl rfl rfl (Does.move rfl ?_)
  refine GP.takeG rfl rfl rfl rfl (Does.indexAddr i rfl rfl sl34 rfl hio ?_)
  refine GP.takeG rfl rfl rfl rfl (Does.move rfl ?_)
  refine GP.takeG rfl rfl rfl rfl (Does.move rfl ?_)
  refine GP.takeG rfl rfl rfl rfl (Does.indexAddr n rfl rfl sl34 rfl hnl ?_)
  refine GP.takeG rfl rfl rfl rfl (Does.loadAN (vs := enc1 (k, (n : Int))) rfl ag31 (Nat.lt_of_lt_of_le hlt1 hN0) (hro _) ?_)
  refine GP.takeG rfl rfl rfl rfl (Does.loadAN (vs := enc1 (k, (n : Int))) rfl ag31 (Nat.lt_of_lt_of_le hlt0 hN0) (hri _) ?_)
  refine GP.takeG rfl rfl rfl rfl (Does.neqA (b := true) rfl rfl gd31 (fun w => by have := eq31 (k, (n : Int)) (k, (n : Int)) w; simpa using this) rfl ?_)
  refine GP.take rfl rfl (Does.pickF rfl rfl ?_)
  refine GP.keep [(0, _), (1, _), (5, _), (6, _), (7, _), (46, _)] (.cons rfl (.cons rfl (.cons rfl (.cons rfl (.cons rfl (.cons rfl .nil)))))) ?_
  refine G.condF rfl ?_
  refine G.skip ?_
  repeat refine G.seq ?_
  refine G.region [.loc, .loc, .loc, .gen] (.take 0 (.take 1 (.take 2 (.take 3 .done)))) rfl ?_
  refine GP.take rfl rfl (Does.move rfl ?_)
  refine GP.take rfl rfl (Does.move rfl ?_)
  refine GP.take rfl rfl (Does.indexAddr n rfl rfl sl67 rfl hnl ?_)
  refine GP.take0 rfl (Does.store1 rfl rfl sz4 rfl .head (by have := rowB_set q [] n (by omega) true; simpa using this) ?_)
  refine GP.keep [(0, _), (1, _), (5, _), (6, _)] (.cons rfl (.cons rfl (.cons rfl (.cons rfl .nil)))) ?_
  refine G.inBlock ?_
  repeat refine G.seq ?_
  refine G.region [.loc, .loc, .loc] (.take 0 (.take 1 (.take 2 .done))) rfl ?_
  refine GP.take rfl rfl (Does.move rfl ?_)
  refine GP.take rfl rfl (Does.add rfl rfl (r := ((i + 1 : Nat) : Int)) (wrc_i64 (by omega) (by omega) (by omega)) ?_)
  refine GP.take rfl rfl (Does.assign rfl ?_)
  refine GP.keep [(0, _), (1, _), (5, _), (6, _)] (.cons rfl (.cons rfl (.cons rfl (.cons rfl .nil)))) ?_
  exact IH (q.set n true, i + 1) ⟨by simpa using hq, by simp only; omega, fun m hm => by
    by_cases hmn : m = n
    · subst hmn
      exact ⟨i, by simp only; omega, by rw [List.getElem?_map, hx]; rfl⟩
    · simp only [List.getElem?_set_ne (Ne.symm hmn)] at hm
      obtain ⟨j, hj, hje⟩ := hse m hm
      exact ⟨j, by simp only; omega, hje⟩⟩ (by simp only; omega)
theorem each_ct (inn out : List (Int × Int)) (ad0 ad1 : Option Addr) (cap0 cap1 b0 o0 b1 o1 : Nat) (h0 : inn ≠ [] → ad0 = some ⟨b0, o0, none⟩) (h1 : out ≠ [] → ad1 = some ⟨b1, o1, none⟩) (hbig : inn.length ≤ 1048576) (hlen : inn.length = out.length) (hon : Once inn out) :
    Ct Try.prog 36 [.slice ad0 inn.length cap0, .slice ad1 out.length cap1].toArray (fun w => At w b0 o0 (inn.flatMap enc1) ∧ At w b1 o1 (out.flatMap enc1)) [] (fun v C' => v = .bool true ∧ C' = []) := by
  refine ct_of_walk (fn := Try.f36) Try.func36 rfl rfl fun w0 hpre hst => ?_
  clear hst
  repeat refine G.seq ?_
  refine G.region [.loc] (.take 0 .done) rfl ?_
  refine GP.take rfl rfl (Does.assign rfl ?_)
  refine GP.keep [(0, _), (1, _), (4, _)] (.cons rfl (.cons rfl (.cons rfl .nil))) ?_
  repeat refine G.seq ?_
  refine G.region [.loc, .loc, .loc, .loc, .loc, .loc, .loc, .loc, .gen, .loc, .loc] (.take 0 (.take 1 (.take 2 (.take 3 (.take 4 (.take 5 (.take 6 (.take 7 (.take 8 (.take 9 (.take 10 .done))))))))))) rfl ?_
  refine GP.take rfl rfl (Does.move rfl ?_)
  refine GP.take rfl rfl (Does.len rfl is34 ?_)
  refine GP.take rfl rfl (Does.move rfl ?_)
  refine GP.take rfl rfl (Does.len rfl is34 ?_)
  refine GP.take rfl rfl (Does.eql rfl rfl (show decide ((inn.length : Int) = (out.length : Int)) = true from decide_eq_true (by omega)) ?_)
  refine GP.take rfl rfl (Does.move rfl ?_)
  refine GP.takeG rfl rfl rfl rfl (Does.move rfl ?_)
  refine GP.takeG rfl rfl rfl rfl (Does.move rfl ?_)
  refine GP.takeG rfl rfl rfl rfl (Does.callN (.cons rfl (.cons rfl .nil)) cb34 (once_ct inn out ad0 ad1 cap0 cap1 b0 o0 b1 o1 h0 h1 hbig (by omega) hon) (fun w hs => ⟨fun i u hi => RowIn.old (C := []) (vs := inn.flatMap enc1) (by simp) (fun i v h => hpre.1 i v h) w (hs.sub .nil) i u hi, fun i u hi => RowIn.old (C := []) (vs := out.flatMap enc1) (by simp) (fun i v h => hpre.2 i v h) w (hs.sub .nil) i u hi⟩) ?_)
  rintro _ _ ⟨rfl, rfl⟩
  simp only [List.append_nil]
  refine GP.take rfl rfl (Does.pickT rfl rfl ?_)
  refine GP.take rfl rfl (Does.assign rfl ?_)
  refine GP.keep [(4, _)] (.cons rfl .nil) ?_
  exact fin_ret (fn := Try.f36) Try.func36 (res1 rfl rfl) .nil ⟨rfl, rfl⟩
end Go.Proofs.Ytcgenmfnlocbbaa.T
