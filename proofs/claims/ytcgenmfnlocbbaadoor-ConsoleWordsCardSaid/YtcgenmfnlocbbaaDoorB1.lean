/- The document's hex and Quote, walked. Nothing is claimed of a law here. -/
import Derived.Test.YtcgenmfnlocbbaaDoorA4
namespace Go.Proofs.YtcgenmfnlocbbaaDoor.T
open Go.Lg
theorem cb14 : callable Tryd.prog 14 = true := by kernel_rfl
theorem cb8 : callable Tryd.prog 8 = true := by kernel_rfl
theorem is30 : isSlice Tryd.prog 30 = true := by kernel_rfl
theorem hexD_at0 : ∀ i : Fin 16, ([48, 49, 50, 51, 52, 53, 54, 55, 56, 57, 97, 98, 99, 100, 101, 102] : List UInt8)[i.val]? = some (([48, 49, 50, 51, 52, 53, 54, 55, 56, 57, 97, 98, 99, 100, 101, 102] : List UInt8).getD i.val 0) := by decide
def hexD (i : Nat) : UInt8 := ([48, 49, 50, 51, 52, 53, 54, 55, 56, 57, 97, 98, 99, 100, 101, 102] : List UInt8).getD i 0
theorem hexD_at (i : Nat) (h : i < 16) : ([48, 49, 50, 51, 52, 53, 54, 55, 56, 57, 97, 98, 99, 100, 101, 102] : List UInt8)[i]? = some (hexD i) := hexD_at0 ⟨i, h⟩
def hexF (b : UInt8) : List UInt8 := [hexD (b.toNat / 16), hexD (b.toNat % 16)]
def qF (b : UInt8) : List UInt8 := if b.toNat = 34 then [92, 34] else if b.toNat = 92 then [92, 92] else if b.toNat = 10 then [92, 110] else if b.toNat = 9 then [92, 116] else if b.toNat < 32 ∨ b.toNat > 126 then [92, 120] ++ hexF b else [b]
def quoteF (l : List UInt8) : List UInt8 := 34 :: l.flatMap qF ++ [34]
theorem qF_length (b : UInt8) : (qF b).length ≤ 4 := by unfold qF hexF; (repeat' split) <;> simp
theorem flat_qF_length (l : List UInt8) : (l.flatMap qF).length ≤ 4 * l.length := by
  induction l with
  | nil => simp
  | cons b l ih => have := qF_length b; simp only [List.flatMap_cons, List.length_append, List.length_cons]; omega
/-- a list of bytes lies in memory -/
def AtU (w : World) (b o : Nat) (l : List UInt8) : Prop := ∀ i v, (l.flatMap fun x => [rU x])[i]? = some v → w.cell? ⟨b, o + i, none⟩ = some v
theorem AtU.at {w : World} {b o : Nat} {l : List UInt8} (h : AtU w b o l) {i : Nat} {x : UInt8} (hx : l[i]? = some x) : w.cell? ⟨b, o + i * 1, none⟩ = some (rU x) := by
  refine h (i * 1) _ ?_
  have := row_at rU l [] i x hx
  simpa using this
theorem hex_ct (b : UInt8) : Ct Tryd.prog 14 [.int .u8 (b.toNat : Int)].toArray (fun _ => True) [] (fun v C' => v = str (hexF b) ∧ C' = []) := by
  have hb := UInt8.toNat_lt b
  refine ct_of_walk (fn := Tryd.f14) Tryd.func14 rfl rfl fun w0 hpre hst => ?_
  clear hst
  repeat refine G.seq ?_
  refine G.region [.loc] (.take 0 .done) rfl ?_
  refine GP.take rfl rfl (Does.assign rfl ?_)
  refine GP.keep [(0, _)] (.cons rfl .nil) ?_
  repeat refine G.seq ?_
  refine G.draw [.loc, .loc, .loc, .loc, .loc, .loc, .alloc, .gen, .loc] (.take 0 (.take 1 (.take 2 (.take 3 (.take 4 (.take 5 (.alt 6 (.alt 7 (.take 8 .done) .stop) .stop))))))) (by exact mixed) (by kernel_rfl) ?_
  intro N hN0 hN
  refine GP.take rfl rfl (Does.move rfl ?_)
  refine GP.take rfl rfl (Does.quo rfl rfl (by decide) (r := ((b.toNat / 16 : Nat) : Int)) (by rw [show ((b.toNat : Int).tdiv 16) = ((b.toNat / 16 : Nat) : Int) from (Int.ofNat_tdiv _ _).symm]; exact wr_u8 (by omega) (by omega)) ?_)
  refine GP.take rfl rfl (Does.indexS (b.toNat / 16) (l := [48, 49, 50, 51, 52, 53, 54, 55, 56, 57, 97, 98, 99, 100, 101, 102]) (b := hexD (b.toNat / 16)) rfl rfl Tryd.underlying9 rfl (hexD_at _ (by omega)) ?_)
  refine GP.take rfl rfl (Does.move rfl ?_)
  refine GP.take rfl rfl (Does.rem rfl rfl (by decide) (r := ((b.toNat % 16 : Nat) : Int)) (by rw [show ((b.toNat : Int).tmod 16) = ((b.toNat % 16 : Nat) : Int) from (Int.ofNat_tmod _ _).symm]) ?_)
  refine GP.take rfl rfl (Does.indexS (b.toNat % 16) (l := [48, 49, 50, 51, 52, 53, 54, 55, 56, 57, 97, 98, 99, 100, 101, 102]) (b := hexD (b.toNat % 16)) rfl rfl Tryd.underlying9 rfl (hexD_at _ (by omega)) ?_)
  refine GP.one ?_
  refine GP.take rfl rfl (Does.buildSlice (r := [rU (hexD (b.toNat / 16)), rU (hexD (b.toNat % 16))]) (.cons rfl (.cons rfl .nil)) sl30 zl5 (by decide) rfl fun b9 N9 h9 n9 => ?_)
  refine GP.one ?_
  refine GP.take rfl rfl (Does.strOfN (l := hexF b) rfl Tryd.underlying30 Tryd.underlying5 Tryd.underlying9 (RowIn.own (vs := (hexF b).flatMap rowU) (.head _) rfl) ?_)
  refine GP.take rfl rfl (Does.assign rfl ?_)
  refine GP.keep [(2, _)] (.cons rfl .nil) ?_
  exact fin_ret (fn := Tryd.f14) Tryd.func14 (res1 rfl rfl) .nil ⟨rfl, rfl⟩
theorem quote_ct (l : List UInt8) (ad : Option Addr) (cap b o : Nat) (had : l ≠ [] → ad = some ⟨b, o, none⟩) (hbig : l.length ≤ 140737488355328) : Ct Tryd.prog 8 [.slice ad l.length cap].toArray (fun w => AtU w b o l) [] (fun v C' => v = str (quoteF l) ∧ C' = []) := by
  refine ct_of_walk (fn := Tryd.f8) Tryd.func8 rfl rfl fun w0 hpre hst => ?_
  clear hst
  repeat refine G.seq ?_
  refine G.region [.loc] (.take 0 .done) rfl ?_
  refine GP.take rfl rfl (Does.assign rfl ?_)
  refine GP.keep [(0, _)] (.cons rfl .nil) ?_
  repeat refine G.seq ?_
  refine G.region [.loc] (.take 0 .done) rfl ?_
  refine GP.take rfl rfl (Does.assign rfl ?_)
  refine GP.keep [(0, _), (3, _)] (.cons rfl (.cons rfl .nil)) ?_
  repeat refine G.seq ?_
  refine G.region [.loc, .loc, .loc] (.take 0 (.take 1 (.take 2 .done))) rfl ?_
  refine GP.take rfl rfl (Does.move rfl ?_)
  refine GP.take rfl rfl (Does.len rfl is30 ?_)
  refine GP.take rfl rfl (Does.move rfl ?_)
  refine GP.keep [(3, _), (6, _), (7, _), (8, _)] (.cons rfl (.cons rfl (.cons rfl (.cons rfl .nil)))) ?_
  repeat refine G.seq ?_
  refine G.block ?_
  refine G.loop (S := Nat) (fun i => [(3, str (34 :: (l.take i).flatMap qF)), (6, .slice ad l.length cap), (7, .int .i64 (l.length : Int)), (8, .int .i64 (i : Int))]) (fun _ => []) (fun i => i ≤ l.length) (fun i => l.length - i) 0 (Nat.zero_le _) (.cons rfl (.cons rfl (.cons rfl (.cons rfl .nil)))) .all ?_
  intro i hi IH
  repeat refine G.seq ?_
  refine G.region [.loc] (.take 0 .done) rfl ?_
  refine GP.take rfl rfl (Does.lss rfl rfl rfl ?_)
  refine GP.keep [(3, _), (6, _), (7, _), (8, _), (9, _)] (.cons rfl (.cons rfl (.cons rfl (.cons rfl (.cons rfl .nil))))) ?_
  repeat refine G.seq ?_
  refine G.cond rfl ?_ ?_
  case refine_2 =>
    intro hz
    obtain rfl : i = l.length := by omega
    refine G.exit rfl ?_
    rw [List.take_length]
    have hql := flat_qF_length l
    repeat refine G.seq ?_
    refine G.region [.loc, .loc, .loc] (.take 0 (.take 1 (.take 2 .done))) rfl ?_
    refine GP.take rfl rfl (Does.move rfl ?_)
    refine GP.take rfl rfl (Does.addS (a := 34 :: l.flatMap qF) (b := [34]) rfl rfl (by simp only [List.length_cons, List.length_nil]; omega) ?_)
    refine GP.take rfl rfl (Does.assign rfl ?_)
    refine GP.keep [(2, _)] (.cons rfl .nil) ?_
    exact fin_ret (fn := Tryd.f8) Tryd.func8 (res1 rfl rfl) .nil ⟨rfl, rfl⟩
  intro hz
  have hil : i < l.length := by omega
  have hlne : l ≠ [] := by rintro rfl; simp at hil
  obtain rfl := had hlne
  obtain ⟨x, hx⟩ : ∃ x, l[i]? = some x := ⟨l[i], by simp [hil]⟩
  have hxb := UInt8.toNat_lt x
  have hts : (l.take (i + 1)).flatMap qF = (l.take i).flatMap qF ++ qF x := by
    rw [List.take_succ_eq_append_getElem hil, (List.getElem?_eq_some_iff.1 hx).2]; simp
  have hql := flat_qF_length (l.take i)
  rw [List.length_take, Nat.min_eq_left hi] at hql
  have IH' := IH (i + 1) (by omega) (by omega)
  rw [hts] at IH'
  refine G.skip ?_
  repeat refine G.seq ?_
  refine G.block ?_
  repeat refine G.seq ?_
  refine G.region [.loc, .gen, .loc] (.take 0 (.take 1 (.take 2 .done))) rfl ?_
  refine GP.take rfl rfl (Does.indexAddr i rfl rfl sl30 rfl hil ?_)
  refine GP.take rfl rfl (Does.load1 rfl ft5 (CellIn.old (by simp) (hpre.at hx)) ?_)
  refine GP.take rfl rfl (Does.assign rfl ?_)
  refine GP.keep [(3, _), (5, _), (6, _), (7, _), (8, _)] (.cons rfl (.cons rfl (.cons rfl (.cons rfl (.cons rfl .nil))))) ?_
  repeat refine G.seq ?_
  refine G.block ?_
  repeat refine G.seq ?_
  refine G.region [.loc, .loc, .loc] (.take 0 (.take 1 (.take 2 .done))) rfl ?_
  refine GP.take rfl rfl (Does.move rfl ?_)
  refine GP.take rfl rfl (Does.eql rfl rfl (show decide ((x.toNat : Int) = 34) = decide (x.toNat = 34) from decide_eq_decide.2 (by omega)) ?_)
  refine GP.take rfl rfl (Does.assign rfl ?_)
  refine GP.keep [(3, _), (5, _), (6, _), (7, _), (8, _), (17, _)] (.cons rfl (.cons rfl (.cons rfl (.cons rfl (.cons rfl (.cons rfl .nil)))))) ?_
  repeat refine G.seq ?_
  refine G.cond rfl ?_ ?_
  · intro x34
    repeat refine G.seq ?_
    refine G.region [.loc, .loc, .loc] (.take 0 (.take 1 (.take 2 .done))) rfl ?_
    refine GP.take rfl rfl (Does.move rfl ?_)
    refine GP.take rfl rfl (Does.addS (a := 34 :: (l.take i).flatMap qF) (b := [92, 34]) rfl rfl (by simp only [List.length_cons, List.length_nil, List.length_append]; omega) ?_)
    refine GP.take rfl rfl (Does.assign rfl ?_)
    refine GP.keep [(3, _), (6, _), (7, _), (8, _)] (.cons rfl (.cons rfl (.cons rfl (.cons rfl .nil)))) ?_
    refine G.inBlock ?_
    refine G.inBlock ?_
    repeat refine G.seq ?_
    refine G.region [.loc, .loc] (.take 0 (.take 1 .done)) rfl ?_
    refine GP.take rfl rfl (Does.add rfl rfl (r := ((i + 1 : Nat) : Int)) (wrc_i64 (by omega) (by omega) (by omega)) ?_)
    refine GP.take rfl rfl (Does.move rfl ?_)
    refine GP.keep [(3, _), (6, _), (7, _), (8, _)] (.cons rfl (.cons rfl (.cons rfl (.cons rfl .nil)))) ?_
    rw [qF, if_pos x34] at IH'
    exact IH'
  intro x34
  repeat refine G.seq ?_
  refine G.region [.loc, .loc, .loc] (.take 0 (.take 1 (.take 2 .done))) rfl ?_
  refine GP.take rfl rfl (Does.move rfl ?_)
  refine GP.take rfl rfl (Does.eql rfl rfl (show decide ((x.toNat : Int) = 92) = decide (x.toNat = 92) from decide_eq_decide.2 (by omega)) ?_)
  refine GP.take rfl rfl (Does.assign rfl ?_)
  refine GP.keep [(3, _), (5, _), (6, _), (7, _), (8, _), (22, _)] (.cons rfl (.cons rfl (.cons rfl (.cons rfl (.cons rfl (.cons rfl .nil)))))) ?_
  repeat refine G.seq ?_
  refine G.cond rfl ?_ ?_
  · intro x92
    repeat refine G.seq ?_
    refine G.region [.loc, .loc, .loc] (.take 0 (.take 1 (.take 2 .done))) rfl ?_
    refine GP.take rfl rfl (Does.move rfl ?_)
    refine GP.take rfl rfl (Does.addS (a := 34 :: (l.take i).flatMap qF) (b := [92, 92]) rfl rfl (by simp only [List.length_cons, List.length_nil, List.length_append]; omega) ?_)
    refine GP.take rfl rfl (Does.assign rfl ?_)
    refine GP.keep [(3, _), (6, _), (7, _), (8, _)] (.cons rfl (.cons rfl (.cons rfl (.cons rfl .nil)))) ?_
    refine G.inBlock ?_
    refine G.inBlock ?_
    repeat refine G.seq ?_
    refine G.region [.loc, .loc] (.take 0 (.take 1 .done)) rfl ?_
    refine GP.take rfl rfl (Does.add rfl rfl (r := ((i + 1 : Nat) : Int)) (wrc_i64 (by omega) (by omega) (by omega)) ?_)
    refine GP.take rfl rfl (Does.move rfl ?_)
    refine GP.keep [(3, _), (6, _), (7, _), (8, _)] (.cons rfl (.cons rfl (.cons rfl (.cons rfl .nil)))) ?_
    rw [qF, if_neg x34, if_pos x92] at IH'
    exact IH'
  intro x92
  repeat refine G.seq ?_
  refine G.region [.loc, .loc, .loc] (.take 0 (.take 1 (.take 2 .done))) rfl ?_
  refine GP.take rfl rfl (Does.move rfl ?_)
  refine GP.take rfl rfl (Does.eql rfl rfl (show decide ((x.toNat : Int) = 10) = decide (x.toNat = 10) from decide_eq_decide.2 (by omega)) ?_)
  refine GP.take rfl rfl (Does.assign rfl ?_)
  refine GP.keep [(3, _), (5, _), (6, _), (7, _), (8, _), (27, _)] (.cons rfl (.cons rfl (.cons rfl (.cons rfl (.cons rfl (.cons rfl .nil)))))) ?_
  repeat refine G.seq ?_
  refine G.cond rfl ?_ ?_
  · intro x10
    repeat refine G.seq ?_
    refine G.region [.loc, .loc, .loc] (.take 0 (.take 1 (.take 2 .done))) rfl ?_
    refine GP.take rfl rfl (Does.move rfl ?_)
    refine GP.take rfl rfl (Does.addS (a := 34 :: (l.take i).flatMap qF) (b := [92, 110]) rfl rfl (by simp only [List.length_cons, List.length_nil, List.length_append]; omega) ?_)
    refine GP.take rfl rfl (Does.assign rfl ?_)
    refine GP.keep [(3, _), (6, _), (7, _), (8, _)] (.cons rfl (.cons rfl (.cons rfl (.cons rfl .nil)))) ?_
    refine G.inBlock ?_
    refine G.inBlock ?_
    repeat refine G.seq ?_
    refine G.region [.loc, .loc] (.take 0 (.take 1 .done)) rfl ?_
    refine GP.take rfl rfl (Does.add rfl rfl (r := ((i + 1 : Nat) : Int)) (wrc_i64 (by omega) (by omega) (by omega)) ?_)
    refine GP.take rfl rfl (Does.move rfl ?_)
    refine GP.keep [(3, _), (6, _), (7, _), (8, _)] (.cons rfl (.cons rfl (.cons rfl (.cons rfl .nil)))) ?_
    rw [qF, if_neg x34, if_neg x92, if_pos x10] at IH'
    exact IH'
  intro x10
  repeat refine G.seq ?_
  refine G.region [.loc, .loc, .loc] (.take 0 (.take 1 (.take 2 .done))) rfl ?_
  refine GP.take rfl rfl (Does.move rfl ?_)
  refine GP.take rfl rfl (Does.eql rfl rfl (show decide ((x.toNat : Int) = 9) = decide (x.toNat = 9) from decide_eq_decide.2 (by omega)) ?_)
  refine GP.take rfl rfl (Does.assign rfl ?_)
  refine GP.keep [(3, _), (5, _), (6, _), (7, _), (8, _), (32, _)] (.cons rfl (.cons rfl (.cons rfl (.cons rfl (.cons rfl (.cons rfl .nil)))))) ?_
  repeat refine G.seq ?_
  refine G.cond rfl ?_ ?_
  · intro x9
    repeat refine G.seq ?_
    refine G.region [.loc, .loc, .loc] (.take 0 (.take 1 (.take 2 .done))) rfl ?_
    refine GP.take rfl rfl (Does.move rfl ?_)
    refine GP.take rfl rfl (Does.addS (a := 34 :: (l.take i).flatMap qF) (b := [92, 116]) rfl rfl (by simp only [List.length_cons, List.length_nil, List.length_append]; omega) ?_)
    refine GP.take rfl rfl (Does.assign rfl ?_)
    refine GP.keep [(3, _), (6, _), (7, _), (8, _)] (.cons rfl (.cons rfl (.cons rfl (.cons rfl .nil)))) ?_
    refine G.inBlock ?_
    refine G.inBlock ?_
    repeat refine G.seq ?_
    refine G.region [.loc, .loc] (.take 0 (.take 1 .done)) rfl ?_
    refine GP.take rfl rfl (Does.add rfl rfl (r := ((i + 1 : Nat) : Int)) (wrc_i64 (by omega) (by omega) (by omega)) ?_)
    refine GP.take rfl rfl (Does.move rfl ?_)
    refine GP.keep [(3, _), (6, _), (7, _), (8, _)] (.cons rfl (.cons rfl (.cons rfl (.cons rfl .nil)))) ?_
    rw [qF, if_neg x34, if_neg x92, if_neg x10, if_pos x9] at IH'
    exact IH'
  intro x9
  repeat refine G.seq ?_
  refine G.join (S := Unit) (fun _ => [(3, str (34 :: (l.take i).flatMap qF)), (5, .int .u8 (x.toNat : Int)), (6, .slice (some ⟨b, o, none⟩) l.length cap), (7, .int .i64 (l.length : Int)), (8, .int .i64 (i : Int)), (37, .bool (decide (x.toNat < 32 ∨ x.toNat > 126)))]) (fun _ => []) (fun _ => True) ?_ fun key => ?_
  case refine_2 =>
    by_cases h1 : x.toNat < 32
    · rw [decide_eq_true (show x.toNat < 32 ∨ x.toNat > 126 from .inl h1)] at key
      refine G.region [.loc, .loc, .loc, .loc, .loc, .loc, .loc] (.take 0 (.take 1 (.take 2 (.take 3 (.take 4 (.take 5 (.take 6 .done))))))) rfl ?_
      refine GP.take rfl rfl (Does.move rfl ?_)
      refine GP.take rfl rfl (Does.lss rfl rfl (show decide ((x.toNat : Int) < 32) = true from decide_eq_true (by omega)) ?_)
      refine GP.take rfl rfl (Does.move rfl ?_)
      refine GP.pass rfl rfl rfl rfl rfl ?_
      refine GP.pass rfl rfl rfl rfl rfl ?_
      refine GP.take rfl rfl (Does.pickT rfl rfl ?_)
      refine GP.take rfl rfl (Does.assign rfl ?_)
      refine GP.keep [(3, _), (5, _), (6, _), (7, _), (8, _), (37, _)] (.cons rfl (.cons rfl (.cons rfl (.cons rfl (.cons rfl (.cons rfl .nil)))))) ?_
      exact key () trivial
    · rw [show decide (x.toNat < 32 ∨ x.toNat > 126) = decide (x.toNat > 126) from decide_eq_decide.2 (by omega)] at key
      refine G.region [.loc, .loc, .loc, .loc, .loc, .loc, .loc] (.take 0 (.take 1 (.take 2 (.take 3 (.take 4 (.take 5 (.take 6 .done))))))) rfl ?_
      refine GP.take rfl rfl (Does.move rfl ?_)
      refine GP.take rfl rfl (Does.lss rfl rfl (show decide ((x.toNat : Int) < 32) = false from decide_eq_false (by omega)) ?_)
      refine GP.take rfl rfl (Does.move rfl ?_)
      refine GP.takeG rfl rfl rfl rfl (Does.move rfl ?_)
      refine GP.takeG rfl rfl rfl rfl (Does.gtr rfl rfl (show decide ((x.toNat : Int) > 126) = decide (x.toNat > 126) from decide_eq_decide.2 (by omega)) ?_)
      refine GP.take rfl rfl (Does.pickF rfl rfl ?_)
      refine GP.take rfl rfl (Does.assign rfl ?_)
      refine GP.keep [(3, _), (5, _), (6, _), (7, _), (8, _), (37, _)] (.cons rfl (.cons rfl (.cons rfl (.cons rfl (.cons rfl (.cons rfl .nil)))))) ?_
      exact key () trivial
  rintro - -
  refine G.cond rfl ?_ ?_
  · intro hw
    repeat refine G.seq ?_
    refine G.region [.loc, .loc, .loc, .gen, .loc, .loc] (.take 0 (.take 1 (.take 2 (.take 3 (.take 4 (.take 5 .done)))))) rfl ?_
    refine GP.take rfl rfl (Does.move rfl ?_)
    refine GP.take rfl rfl (Does.addS (a := 34 :: (l.take i).flatMap qF) (b := [92, 120]) rfl rfl (by simp only [List.length_cons, List.length_nil, List.length_append]; omega) ?_)
    refine GP.take rfl rfl (Does.move rfl ?_)
    refine GP.take rfl rfl (Does.callN (.cons rfl .nil) cb14 (hex_ct x) (fun _ _ => trivial) ?_)
    rintro _ _ ⟨rfl, rfl⟩
    simp only [List.append_nil]
    refine GP.take rfl rfl (Does.addS (b := hexF x) rfl rfl (by simp only [hexF, List.length_cons, List.length_nil, List.length_append]; omega) ?_)
    refine GP.take rfl rfl (Does.assign rfl ?_)
    refine GP.keep [(3, _), (6, _), (7, _), (8, _)] (.cons rfl (.cons rfl (.cons rfl (.cons rfl .nil)))) ?_
    rw [List.append_assoc]
    refine G.inBlock ?_
    refine G.inBlock ?_
    repeat refine G.seq ?_
    refine G.region [.loc, .loc] (.take 0 (.take 1 .done)) rfl ?_
    refine GP.take rfl rfl (Does.add rfl rfl (r := ((i + 1 : Nat) : Int)) (wrc_i64 (by omega) (by omega) (by omega)) ?_)
    refine GP.take rfl rfl (Does.move rfl ?_)
    refine GP.keep [(3, _), (6, _), (7, _), (8, _)] (.cons rfl (.cons rfl (.cons rfl (.cons rfl .nil)))) ?_
    rw [qF, if_neg x34, if_neg x92, if_neg x10, if_neg x9, if_pos hw] at IH'
    exact IH'
  intro hw
  repeat refine G.seq ?_
  refine G.region [.loc, .loc, .alloc, .gen, .loc, .loc] (.take 0 (.take 1 (.take 2 (.take 3 (.take 4 (.take 5 .done)))))) rfl ?_
  refine GP.take rfl rfl (Does.move rfl ?_)
  refine GP.take rfl rfl (Does.move rfl ?_)
  refine GP.take rfl rfl (Does.buildSlice (r := [rU x]) (.cons rfl .nil) sl30 zl5 (by decide) rfl fun b14 N14 h14 n14 => ?_)
  refine GP.take rfl rfl (Does.strOfN (l := [x]) rfl Tryd.underlying30 Tryd.underlying5 Tryd.underlying9 (RowIn.own (vs := [x].flatMap rowU) (.head _) rfl) ?_)
  refine GP.take rfl rfl (Does.addS (a := 34 :: (l.take i).flatMap qF) (b := [x]) rfl rfl (by simp only [List.length_cons, List.length_nil, List.length_append]; omega) ?_)
  refine GP.take rfl rfl (Does.assign rfl ?_)
  refine GP.keep [(3, _), (6, _), (7, _), (8, _)] (.cons rfl (.cons rfl (.cons rfl (.cons rfl .nil)))) ?_
  refine G.dropP [(b14, cel 5 [rU x])] (A := []) (by classical exact List.perm_iff_count.2 fun q => by simp only [List.append_eq, List.nil_append, List.append_nil, List.cons_append, List.count_append, List.count_cons, List.count_nil] <;> omega) ?_
  refine G.inBlock ?_
  refine G.inBlock ?_
  repeat refine G.seq ?_
  refine G.region [.loc, .loc] (.take 0 (.take 1 .done)) rfl ?_
  refine GP.take rfl rfl (Does.add rfl rfl (r := ((i + 1 : Nat) : Int)) (wrc_i64 (by omega) (by omega) (by omega)) ?_)
  refine GP.take rfl rfl (Does.move rfl ?_)
  refine GP.keep [(3, _), (6, _), (7, _), (8, _)] (.cons rfl (.cons rfl (.cons rfl (.cons rfl .nil)))) ?_
  rw [qF, if_neg x34, if_neg x92, if_neg x10, if_neg x9, if_neg hw] at IH'
  exact IH'
end Go.Proofs.YtcgenmfnlocbbaaDoor.T
