/- The law's own small functions over lists of things, walked: one, took, same, Without, a counting compare. Nothing is claimed of a law here. -/
import Derived.Test.YtcgenmfnlocbbaaH3
import Derived.Test.YtcgenmfnlocbbaaL7
namespace Go.Proofs.Ytcgenmfnlocbbaa.T
open Go.Lg Go.Hp
theorem cb18 : callable Try.prog 18 = true := by kernel_rfl
theorem sz3 : sizeT Try.prog 3 = some 1 := by kernel_rfl
theorem sz31 : sizeT Try.prog 31 = some 2 := by kernel_rfl
theorem At.lt {w : World} {b o : Nat} {l : List (Int × Int)} (h : At w b o (l.flatMap enc1)) (j : Nat) (hj : j < l.length) : b < w.heap.size := cell_lt (h _ _ (flat_get enc1 2 enc1_length l j hj 0 _ rfl))
theorem enc1_one (x : Int × Int) : ∀ v ∈ enc1 x, oneC v = true := by intro v hv; simp [enc1] at hv; rcases hv with rfl | rfl <;> rfl
theorem At.drop {w : World} {b o : Nat} {l : List (Int × Int)} (h : At w b o (l.flatMap enc1)) (k : Nat) (hk : k ≤ l.length) : At w b (o + k * 2) ((l.drop k).flatMap enc1) := by
  intro i u hi
  have h1 := flat_drop enc1 2 enc1_length l [] k hk
  rw [List.append_nil, List.append_nil] at h1
  rw [← h1, List.getElem?_drop] at hi
  rw [Nat.add_assoc]; exact h _ _ hi
theorem At.take {w : World} {b o : Nat} {l : List (Int × Int)} (h : At w b o (l.flatMap enc1)) (k : Nat) (hk : k ≤ l.length) : At w b o ((l.take k).flatMap enc1) := by
  intro i u hi
  have h1 := flat_take enc1 2 enc1_length l [] k hk
  rw [List.append_nil] at h1
  rw [← h1, List.getElem?_take] at hi
  split at hi
  · exact h _ _ hi
  · cases hi
theorem At.row {X : Cx} {C : Chunks} {b o : Nat} {l : List (Int × Int)} (hb : b ∉ X.B0) (h : At X.w0 b o (l.flatMap enc1)) : RowIn X C b o (l.flatMap enc1) := RowIn.old hb fun i v hv => h i v hv
theorem one_ct (l : List (Int × Int)) (ad : Option Addr) (cap b o : Nat) (had : l ≠ [] → ad = some ⟨b, o, none⟩) :
    Ct Try.prog 23 [.slice ad l.length cap].toArray (fun w => At w b o (l.flatMap enc1)) [] (fun v C' => v = .agg (enc1 (l.headD (0, 0))).toArray ∧ C' = []) := by
  refine ct_of_walk (fn := Try.f23) Try.func23 rfl rfl fun w0 hpre hst => ?_
  clear hst
  repeat refine G.seq ?_
  refine G.region [.alloc] (.take 0 .done) rfl ?_
  refine GP.take rfl rfl (Does.alloc zl31 fun b2 Nb2 hb2 nb2 => ?_)
  refine GP.keep [(0, _), (2, _)] (.cons rfl (.cons rfl .nil)) ?_
  repeat refine G.seq ?_
  refine G.region [.loc, .loc, .loc] (.take 0 (.take 1 (.take 2 .done))) rfl ?_
  refine GP.take rfl rfl (Does.move rfl ?_)
  refine GP.take rfl rfl (Does.len rfl is34 ?_)
  refine GP.take rfl rfl (Does.eql rfl rfl rfl ?_)
  refine GP.keep [(0, _), (2, _), (5, _)] (.cons rfl (.cons rfl (.cons rfl .nil))) ?_
  repeat refine G.seq ?_
  refine G.cond rfl ?_ ?_
  · intro hz
    obtain rfl : l = [] := List.eq_nil_of_length_eq_zero (by omega)
    repeat refine G.seq ?_
    refine G.region [.loc, .gen] (.take 0 (.take 1 .done)) rfl ?_
    refine GP.take rfl rfl (Does.build (r := [_, _]) .nil sp31 zl31 rfl ?_)
    refine GP.take0 rfl (Does.storeA rfl rfl sz31 (by first | exact .head | exact .tail .head | exact .tail (.tail .head) | exact .tail (.tail (.tail .head)) | exact .tail (.tail (.tail (.tail .head))) | exact .tail (.tail (.tail (.tail (.tail .head))))) (.cons rfl .head (.cons rfl (.tail .head) .nil)) ?_)
    refine GP.keep [(0, _), (2, _), (5, _)] (.cons rfl (.cons rfl (.cons rfl .nil))) ?_
    exact fin_ret (fn := Try.f23) Try.func23 (fun a w hs => resc0 (vs := [_, _]) rfl hs rfl ag31 rfl (RowIn.own (by first | exact .head _ | exact .tail _ (.head _) | exact .tail _ (.tail _ (.head _)) | exact .tail _ (.tail _ (.tail _ (.head _))) | exact .tail _ (.tail _ (.tail _ (.tail _ (.head _)))) | exact .tail _ (.tail _ (.tail _ (.tail _ (.tail _ (.head _)))))) rfl)) .split1 ⟨rfl, rfl⟩
  · intro hz
    have hne : l ≠ [] := by rintro rfl; exact hz rfl
    obtain ⟨x, r, rfl⟩ : ∃ x r, l = x :: r := by cases l with | nil => exact absurd rfl hne | cons x r => exact ⟨x, r, rfl⟩
    obtain rfl := had hne
    refine G.skip ?_
    repeat refine G.seq ?_
    refine G.region [.loc, .loc, .gen, .gen] (.take 0 (.take 1 (.take 2 (.take 3 .done)))) rfl ?_
    refine GP.take rfl rfl (Does.move rfl ?_)
    refine GP.take rfl rfl (Does.indexAddr 0 rfl rfl sl34 rfl (by simp) ?_)
    refine GP.take rfl rfl (Does.loadA (vs := [.int .i64 ((x :: r)[0]'(by simp)).1, .int .i64 ((x :: r)[0]'(by simp)).2]) rfl ag31 (At.old (by simp) hpre 0 (by simp)) ?_)
    refine GP.take0 rfl (Does.storeA rfl rfl sz31 (by first | exact .head | exact .tail .head | exact .tail (.tail .head) | exact .tail (.tail (.tail .head)) | exact .tail (.tail (.tail (.tail .head))) | exact .tail (.tail (.tail (.tail (.tail .head))))) (.cons rfl .head (.cons rfl (.tail .head) .nil)) ?_)
    refine GP.keep [(0, _), (2, _), (5, _)] (.cons rfl (.cons rfl (.cons rfl .nil))) ?_
    exact fin_ret (fn := Try.f23) Try.func23 (fun a w hs => resc0 (vs := [_, _]) rfl hs rfl ag31 rfl (RowIn.own (by first | exact .head _ | exact .tail _ (.head _) | exact .tail _ (.tail _ (.head _)) | exact .tail _ (.tail _ (.tail _ (.head _))) | exact .tail _ (.tail _ (.tail _ (.tail _ (.head _)))) | exact .tail _ (.tail _ (.tail _ (.tail _ (.tail _ (.head _)))))) rfl)) .split1 ⟨rfl, rfl⟩
/-- is v, ok the first thing's? -/
def tookB (v : Int × Int) (ok : Bool) (l : List (Int × Int)) (all : Bool) : Bool := match fstI all l l.length with
  | none => !ok && decide (v = (0, 0))
  | some i => ok && decide (v = l.getD i (0, 0))
theorem took_ct (v : Int × Int) (ok : Bool) (l : List (Int × Int)) (all : Bool) (ad : Option Addr) (cap b o : Nat) (had : l ≠ [] → ad = some ⟨b, o, none⟩) (hbig : l.length ≤ 4611686018427387904) :
    Ct Try.prog 25 [.agg (enc1 v).toArray, .bool ok, .slice ad l.length cap, .bool all].toArray (fun w => At w b o (l.flatMap enc1)) [] (fun r C' => r = .bool (tookB v ok l all) ∧ C' = []) := by
  refine ct_of_walk (fn := Try.f25) Try.func25 rfl rfl fun w0 hpre hst => ?_
  clear hst
  repeat refine G.seq ?_
  refine G.region [.alloc, .loc] (.take 0 (.take 1 .done)) rfl ?_
  refine GP.take rfl rfl (Does.box (T := 31) rfl rfl fun b4 Nb4 hb4 nb4 => ?_)
  refine GP.take rfl rfl (Does.assign rfl ?_)
  refine GP.keep [(0, _), (1, _), (2, _), (3, _), (4, _), (8, _)] (.cons rfl (.cons rfl (.cons rfl (.cons rfl (.cons rfl (.cons rfl .nil)))))) ?_
  repeat refine G.seq ?_
  refine G.region [.loc, .loc, .gen, .loc] (.take 0 (.take 1 (.take 2 (.take 3 .done)))) rfl ?_
  refine GP.take rfl rfl (Does.move rfl ?_)
  refine GP.take rfl rfl (Does.move rfl ?_)
  refine GP.take rfl rfl (Does.callF [(b4, _)] [] (.cons rfl (.cons rfl .nil)) cb26 rfl (first_ct l all ad cap b o had hbig) (fun w hs i u hi => RowIn.old (C := []) (vs := l.flatMap enc1) (by simp) (fun i v h => hpre i v h) w (hs.sub .nil) i u hi) ?_)
  rintro _ _ ⟨rfl, rfl⟩
  simp only [List.append_nil]
  refine GP.take rfl rfl (Does.assign rfl ?_)
  refine GP.keep [(0, _), (1, _), (2, _), (3, _), (4, _), (8, _), (9, _)] (.cons rfl (.cons rfl (.cons rfl (.cons rfl (.cons rfl (.cons rfl (.cons rfl .nil))))))) ?_
  repeat refine G.seq ?_
  refine G.region [.loc, .loc] (.take 0 (.take 1 .done)) rfl ?_
  refine GP.take rfl rfl (Does.move rfl ?_)
  refine GP.take rfl rfl (Does.lss rfl rfl rfl ?_)
  refine GP.keep [(0, _), (1, _), (2, _), (3, _), (4, _), (8, _), (9, _), (14, _)] (.cons rfl (.cons rfl (.cons rfl (.cons rfl (.cons rfl (.cons rfl (.cons rfl (.cons rfl .nil)))))))) ?_
  repeat refine G.seq ?_
  cases hf : fstI all l l.length with
  | none =>
    refine G.condT rfl ?_
    repeat refine G.seq ?_
    cases ok
    · skip
      refine G.region [.loc, .loc, .loc, .gen, .loc, .loc, .loc, .loc] (.take 0 (.take 1 (.take 2 (.take 3 (.take 4 (.take 5 (.take 6 (.take 7 .done)))))))) rfl ?_
      refine GP.take rfl rfl (Does.move rfl ?_)
      refine GP.take rfl rfl (Does.not rfl rfl ?_)
      refine GP.take rfl rfl (Does.move rfl ?_)
      refine GP.takeG rfl rfl rfl rfl (Does.loadA (vs := enc1 v) rfl ag31 (RowIn.own (by first | exact .head _ | exact .tail _ (.head _) | exact .tail _ (.tail _ (.head _)) | exact .tail _ (.tail _ (.tail _ (.head _))) | exact .tail _ (.tail _ (.tail _ (.tail _ (.head _)))) | exact .tail _ (.tail _ (.tail _ (.tail _ (.tail _ (.head _)))))) rfl) ?_)
      refine GP.takeG rfl rfl rfl rfl (Does.build (r := [_, _]) .nil sp31 zl31 rfl ?_)
      refine GP.takeG rfl rfl rfl rfl (Does.eqlA rfl rfl gd31 (fun w => eq31 v (0, 0) w) rfl ?_)
      refine GP.take rfl rfl (Does.pickT rfl rfl ?_)
      refine GP.take rfl rfl (Does.assign rfl ?_)
      refine GP.keep [(0, _), (1, _), (2, _), (3, _), (4, _), (8, _), (9, _), (14, _)] (.cons rfl (.cons rfl (.cons rfl (.cons rfl (.cons rfl (.cons rfl (.cons rfl (.cons rfl .nil)))))))) ?_
      exact fin_ret (fn := Try.f25) Try.func25 (res1 rfl rfl) .split1 ⟨by simp [tookB, hf], rfl⟩
    · skip
      refine G.region [.loc, .loc, .loc, .gen, .loc, .loc, .loc, .loc] (.take 0 (.take 1 (.take 2 (.take 3 (.take 4 (.take 5 (.take 6 (.take 7 .done)))))))) rfl ?_
      refine GP.take rfl rfl (Does.move rfl ?_)
      refine GP.take rfl rfl (Does.not rfl rfl ?_)
      refine GP.take rfl rfl (Does.move rfl ?_)
      refine GP.pass rfl rfl rfl rfl rfl ?_
      refine GP.pass rfl rfl rfl rfl rfl ?_
      refine GP.pass rfl rfl rfl rfl rfl ?_
      refine GP.take rfl rfl (Does.pickF rfl rfl ?_)
      refine GP.take rfl rfl (Does.assign rfl ?_)
      refine GP.keep [(0, _), (1, _), (2, _), (3, _), (4, _), (8, _), (9, _), (14, _)] (.cons rfl (.cons rfl (.cons rfl (.cons rfl (.cons rfl (.cons rfl (.cons rfl (.cons rfl .nil)))))))) ?_
      exact fin_ret (fn := Try.f25) Try.func25 (res1 rfl rfl) .split1 ⟨by simp [tookB, hf], rfl⟩
  | some i =>
    have hi := fstI_lt _ _ _ _ hf
    have hne : l ≠ [] := by rintro rfl; simp at hi
    obtain rfl := had hne
    have hnn : decide (plc (some i) < 0) = false := decide_eq_false (by simp only [plc]; omega)
    refine G.condF (by rw [← hnn]; rfl) ?_
    refine G.skip ?_
    repeat refine G.seq ?_
    cases ok
    · skip
      refine G.draw [.loc, .loc, .load, .loc, .loc, .loc, .load, .loc, .loc, .loc] (.take 0 (.take 1 (.take 3 (.take 4 (.take 5 (.take 2 (.take 6 (.take 7 (.take 8 (.take 9 .done)))))))))) (by exact mixed) (by kernel_rfl) ?_
      intro N hN0 hN
      refine GP.take rfl rfl (Does.move rfl ?_)
      refine GP.take rfl rfl (Does.move rfl ?_)
      refine GP.pass rfl rfl rfl rfl rfl ?_
      refine GP.pass rfl rfl rfl rfl rfl ?_
      refine GP.pass rfl rfl rfl rfl rfl ?_
      refine GP.pass rfl rfl rfl rfl rfl ?_
      refine GP.pass rfl rfl rfl rfl rfl ?_
      refine GP.pass rfl rfl rfl rfl rfl ?_
      refine GP.take rfl rfl (Does.pickF rfl rfl ?_)
      refine GP.take rfl rfl (Does.assign rfl ?_)
      refine GP.keep [(0, _), (1, _), (2, _), (3, _), (4, _), (8, _), (9, _), (14, _)] (.cons rfl (.cons rfl (.cons rfl (.cons rfl (.cons rfl (.cons rfl (.cons rfl (.cons rfl .nil)))))))) ?_
      exact fin_ret (fn := Try.f25) Try.func25 (res1 rfl rfl) .split1 ⟨by simp [tookB, hf], rfl⟩
    · skip
      refine G.draw [.loc, .loc, .load, .loc, .loc, .loc, .load, .loc, .loc, .loc] (.take 0 (.take 1 (.take 3 (.take 4 (.take 5 (.take 2 (.take 6 (.take 7 (.take 8 (.take 9 .done)))))))))) (by exact mixed) (by kernel_rfl) ?_
      intro N hN0 hN
      refine GP.take rfl rfl (Does.move rfl ?_)
      refine GP.take rfl rfl (Does.move rfl ?_)
      refine GP.takeG rfl rfl rfl rfl (Does.move rfl ?_)
      refine GP.takeG rfl rfl rfl rfl (Does.move rfl ?_)
      refine GP.takeG rfl rfl rfl rfl (Does.indexAddr i rfl rfl sl34 rfl hi ?_)
      refine GP.takeG rfl rfl rfl rfl (Does.loadAN (vs := enc1 v) rfl ag31 (by first | exact hN _ (.head _) | exact hN _ (.tail _ (.head _)) | exact hN _ (.tail _ (.tail _ (.head _))) | exact hN _ (.tail _ (.tail _ (.tail _ (.head _)))) | exact hN _ (.tail _ (.tail _ (.tail _ (.tail _ (.head _))))) | exact hN _ (.tail _ (.tail _ (.tail _ (.tail _ (.tail _ (.head _)))))) | exact hN _ (.tail _ (.tail _ (.tail _ (.tail _ (.tail _ (.tail _ (.head _)))))))) (RowIn.own (by first | exact .head _ | exact .tail _ (.head _) | exact .tail _ (.tail _ (.head _)) | exact .tail _ (.tail _ (.tail _ (.head _))) | exact .tail _ (.tail _ (.tail _ (.tail _ (.head _)))) | exact .tail _ (.tail _ (.tail _ (.tail _ (.tail _ (.head _)))))) rfl) ?_)
      refine GP.takeG rfl rfl rfl rfl (Does.loadAN (vs := [.int .i64 (l[i]'hi).1, .int .i64 (l[i]'hi).2]) rfl ag31 (Nat.lt_of_lt_of_le (At.lt hpre i hi) hN0) (At.old (by simp) hpre i hi) ?_)
      refine GP.takeG rfl rfl rfl rfl (Does.eqlA rfl rfl gd31 (fun w => eq31 v l[i] w) rfl ?_)
      refine GP.take rfl rfl (Does.pickT rfl rfl ?_)
      refine GP.take rfl rfl (Does.assign rfl ?_)
      refine GP.keep [(0, _), (1, _), (2, _), (3, _), (4, _), (8, _), (9, _), (14, _)] (.cons rfl (.cons rfl (.cons rfl (.cons rfl (.cons rfl (.cons rfl (.cons rfl (.cons rfl .nil)))))))) ?_
      exact fin_ret (fn := Try.f25) Try.func25 (res1 rfl rfl) .split1 ⟨by simp [tookB, hf, hi], rfl⟩
theorem sames_ct (la lb : List (Int × Int)) (ada adb : Option Addr) (capa capb b1 o1 b2 o2 : Nat) (h1 : la ≠ [] → ada = some ⟨b1, o1, none⟩) (h2 : lb ≠ [] → adb = some ⟨b2, o2, none⟩) (hbig : la.length ≤ 4611686018427387904) :
    Ct Try.prog 29 [.slice ada la.length capa, .slice adb lb.length capb].toArray (fun w => At w b1 o1 (la.flatMap enc1) ∧ At w b2 o2 (lb.flatMap enc1)) [] (fun r C' => r = .bool (decide (la = lb)) ∧ C' = []) := by
  refine ct_of_walk (fn := Try.f29) Try.func29 rfl rfl fun w0 hpre hst => ?_
  clear hst
  repeat refine G.seq ?_
  obtain ⟨hp1, hp2⟩ := hpre
  refine G.region [.loc] (.take 0 .done) rfl ?_
  refine GP.take rfl rfl (Does.assign rfl ?_)
  refine GP.keep [(0, _), (1, _), (4, _)] (.cons rfl (.cons rfl (.cons rfl .nil))) ?_
  repeat refine G.seq ?_
  refine G.region [.loc, .loc, .loc, .loc, .loc] (.take 0 (.take 1 (.take 2 (.take 3 (.take 4 .done))))) rfl ?_
  refine GP.take rfl rfl (Does.move rfl ?_)
  refine GP.take rfl rfl (Does.len rfl is34 ?_)
  refine GP.take rfl rfl (Does.move rfl ?_)
  refine GP.take rfl rfl (Does.len rfl is34 ?_)
  refine GP.take rfl rfl (Does.neq rfl rfl rfl ?_)
  refine GP.keep [(0, _), (1, _), (4, _), (10, _)] (.cons rfl (.cons rfl (.cons rfl (.cons rfl .nil)))) ?_
  repeat refine G.seq ?_
  refine G.condN rfl ?_ ?_
  · intro hne
    repeat refine G.seq ?_
    refine G.region [.loc] (.take 0 .done) rfl ?_
    refine GP.take rfl rfl (Does.assign rfl ?_)
    refine GP.keep [(0, _), (1, _), (4, _), (10, _)] (.cons rfl (.cons rfl (.cons rfl (.cons rfl .nil)))) ?_
    exact fin_ret (fn := Try.f29) (R := []) Try.func29 (res1 rfl rfl) .all ⟨by rw [decide_eq_false (fun e => hne (by rw [e]))], rfl⟩
  intro hlen
  have hlen : la.length = lb.length := by omega
  refine G.skip ?_
  repeat refine G.seq ?_
  refine G.region [.loc] (.take 0 .done) rfl ?_
  refine GP.take rfl rfl (Does.assign rfl ?_)
  refine GP.keep [(0, _), (1, _), (4, _), (5, _), (10, _)] (.cons rfl (.cons rfl (.cons rfl (.cons rfl (.cons rfl .nil))))) ?_
  repeat refine G.seq ?_
  refine G.block ?_
  refine G.loop (S := Nat) (fun i => [(0, .slice ada la.length capa), (1, .slice adb lb.length capb), (5, .int .i64 (i : Int))]) (fun _ => []) (fun i => i ≤ la.length ∧ ∀ j, j < i → la[j]? = lb[j]?) (fun i => la.length - i)
    0 ⟨Nat.zero_le _, fun j hj => absurd hj (by omega)⟩ (.cons rfl (.cons rfl (.cons rfl .nil))) .all ?_
  rintro i ⟨hi, hall⟩ IH
  repeat refine G.seq ?_
  refine G.region [.loc, .loc, .loc, .loc] (.take 0 (.take 1 (.take 2 (.take 3 .done)))) rfl ?_
  refine GP.take rfl rfl (Does.move rfl ?_)
  refine GP.take rfl rfl (Does.move rfl ?_)
  refine GP.take rfl rfl (Does.len rfl is34 ?_)
  refine GP.take rfl rfl (Does.lss rfl rfl rfl ?_)
  refine GP.keep [(0, _), (1, _), (5, _), (14, _)] (.cons rfl (.cons rfl (.cons rfl (.cons rfl .nil)))) ?_
  repeat refine G.seq ?_
  refine G.cond rfl ?_ ?_
  case refine_2 =>
    intro hz
    have heq : la = lb := List.ext_getElem? fun j => by
      by_cases hj : j < i
      · exact hall j hj
      · rw [List.getElem?_eq_none (by omega), List.getElem?_eq_none (by omega)]
    refine G.exit rfl ?_
    repeat refine G.seq ?_
    refine G.region [.loc] (.take 0 .done) rfl ?_
    refine GP.take rfl rfl (Does.assign rfl ?_)
    refine GP.keep [(0, _), (1, _), (4, _), (5, _), (14, _)] (.cons rfl (.cons rfl (.cons rfl (.cons rfl (.cons rfl .nil))))) ?_
    exact fin_ret (fn := Try.f29) (R := []) Try.func29 (res1 rfl rfl) .all ⟨by rw [decide_eq_true heq], rfl⟩
  intro hz
  have hia : i < la.length := by omega
  have hib : i < lb.length := by omega
  obtain rfl := h1 (by rintro rfl; simp at hia)
  obtain rfl := h2 (by rintro rfl; simp at hib)
  refine G.skip ?_
  repeat refine G.seq ?_
  refine G.block ?_
  repeat refine G.seq ?_
  refine G.draw [.loc, .loc, .loc, .load, .loc, .loc, .loc, .load, .loc] (.take 0 (.take 1 (.take 2 (.take 4 (.take 5 (.take 6 (.take 3 (.take 7 (.take 8 .done))))))))) (by exact mixed) (by kernel_rfl) ?_
  intro N hN0 hN
  refine GP.take rfl rfl (Does.move rfl ?_)
  refine GP.take rfl rfl (Does.move rfl ?_)
  refine GP.take rfl rfl (Does.indexAddr i rfl rfl sl34 rfl hia ?_)
  refine GP.take rfl rfl (Does.move rfl ?_)
  refine GP.take rfl rfl (Does.move rfl ?_)
  refine GP.take rfl rfl (Does.indexAddr i rfl rfl sl34 rfl hib ?_)
  refine GP.take rfl rfl (Does.loadAN (vs := [.int .i64 (la[i]'hia).1, .int .i64 (la[i]'hia).2]) rfl ag31 (Nat.lt_of_lt_of_le (At.lt hp1 i hia) hN0) (At.old (by simp) hp1 i hia) ?_)
  refine GP.take rfl rfl (Does.loadAN (vs := [.int .i64 (lb[i]'hib).1, .int .i64 (lb[i]'hib).2]) rfl ag31 (Nat.lt_of_lt_of_le (At.lt hp2 i hib) hN0) (At.old (by simp) hp2 i hib) ?_)
  refine GP.take rfl rfl (Does.neqA rfl rfl gd31 (fun w => eq31 la[i] lb[i] w) rfl ?_)
  refine GP.keep [(0, _), (1, _), (5, _), (14, _), (25, _)] (.cons rfl (.cons rfl (.cons rfl (.cons rfl (.cons rfl .nil))))) ?_
  repeat refine G.seq ?_
  refine G.condN rfl ?_ ?_
  · intro hne
    repeat refine G.seq ?_
    refine G.region [.loc] (.take 0 .done) rfl ?_
    refine GP.take rfl rfl (Does.assign rfl ?_)
    refine GP.keep [(0, _), (1, _), (4, _), (5, _), (14, _), (25, _)] (.cons rfl (.cons rfl (.cons rfl (.cons rfl (.cons rfl (.cons rfl .nil)))))) ?_
    exact fin_ret (fn := Try.f29) (R := []) Try.func29 (res1 rfl rfl) .all ⟨by rw [decide_eq_false (fun e => hne (by subst e; rfl))], rfl⟩
  intro he
  refine G.skip ?_
  refine G.inBlock ?_
  repeat refine G.seq ?_
  refine G.region [.loc, .loc, .loc] (.take 0 (.take 1 (.take 2 .done))) rfl ?_
  refine GP.take rfl rfl (Does.move rfl ?_)
  refine GP.take rfl rfl (Does.add rfl rfl (r := ((i + 1 : Nat) : Int)) (wrc_i64 (by omega) (by omega) (by omega)) ?_)
  refine GP.take rfl rfl (Does.assign rfl ?_)
  refine GP.keep [(0, _), (1, _), (5, _)] (.cons rfl (.cons rfl (.cons rfl .nil))) ?_
  refine IH (i + 1) ⟨by omega, fun j hj => ?_⟩ (by omega)
  rcases (by omega : j < i ∨ j = i) with hj | rfl
  · exact hall j hj
  · rw [List.getElem?_eq_getElem hia, List.getElem?_eq_getElem hib, he]
/-- a list of things in memory of its own -/
def LRep (l : List (Int × Int)) (sv : Value) (C : Chunks) : Prop := Owns 31 2 sv l.length (l.flatMap enc1) C []
theorem LRep.nil : LRep [] (.slice none 0 0) [] := Owns.nil
theorem LRep.form {l : List (Int × Int)} {sv : Value} {C : Chunks} (h : LRep l sv C) : ∃ ad cap b, sv = .slice ad l.length cap ∧ (l ≠ [] → ad = some ⟨b, 0, none⟩) ∧ l.length ≤ cap ∧
    (l ≠ [] → b ∈ C.map Prod.fst) ∧ ∀ (X : Cx) (Cl Cr : Chunks), RowIn X (Cl ++ (C ++ Cr)) b 0 (l.flatMap enc1) := by
  unfold LRep at h
  generalize hn : l.length = n at h
  generalize hf : l.flatMap enc1 = fl at h
  cases h with
  | nil =>
    obtain rfl : l = [] := List.eq_nil_of_length_eq_zero hn
    exact ⟨none, 0, 0, rfl, fun h => absurd rfl h, Nat.le_refl _, fun h => absurd rfl h, fun X Cl Cr w hs i v hi => by simp at hi⟩
  | @blk sb n cap old sp _ _ h h1 h2 h3 =>
    obtain rfl := take_nil h
    refine ⟨_, cap, sb, rfl, fun _ => rfl, h3, fun _ => by simp, fun X Cl Cr => RowIn.own (e := 31) (l := fl ++ sp) (fr := (0, 0)) (List.mem_append_right _ (List.mem_append_left _ (by simp))) (by simp)⟩
theorem Does.appendT {X : Cx} {L : Env} {ds : List Deferred} {C : Chunks} {N : Nat} {κ : Value → Chunks → Prop} {x y : Operand} {mc : Nat} {l xs : List (Int × Int)} {ad2 : Option Addr} {sv : Value} (hP : X.P = Try.prog) (Cl Cn Cr : Chunks)
    (hx : ev L x = some sv) (hy : ev L y = some (.slice ad2 xs.length mc)) (hC : C = Cl ++ (Cn ++ Cr)) (ho : LRep l sv Cn)
    (hxs : xs ≠ [] → ∃ xb xo, ad2 = some ⟨xb, xo, none⟩ ∧ RowIn X C xb xo (xs.flatMap enc1)) (hroom : l.length + xs.length ≤ 4294967296)
    (hk : ∀ sv' Cn', LRep (l ++ xs) sv' Cn' → κ sv' (Cl ++ (Cn' ++ Cr))) : Does X N (.call ⟨.builtin .append, #[x, y], #[34, 34]⟩) .gen L ds C κ :=
  Does.appendL (row := enc1) Cl Cn Cr hx hy (by rw [hP]; exact si34) (by rw [hP]; exact zl31) hC ho hxs enc1_length enc1_one rfl (by decide) (by omega) hk
theorem Ct.cases {P : Program} {f : FuncId} {args : Array Value} {pre : World → Prop} {C : Chunks} {κ : Value → Chunks → Prop} {p : Prop} (h1 : p → Ct P f args pre C κ) (h2 : ¬ p → Ct P f args pre C κ) : Ct P f args pre C κ := by
  by_cases h : p
  · exact h1 h
  · exact h2 h
theorem without_ct (l : List (Int × Int)) (i : Nat) (hi : i < l.length) (cap b o : Nat) (hcap : l.length ≤ cap) (hbig : l.length ≤ 4294967296) :
    Ct Try.prog 27 [.slice (some ⟨b, o, none⟩) l.length cap, .int .i64 (i : Int)].toArray (fun w => At w b o (l.flatMap enc1)) [] (fun v C' => LRep (l.eraseIdx i) v C') := by
  refine ct_of_walk (fn := Try.f27) Try.func27 rfl rfl fun w0 hpre hst => ?_
  clear hst
  repeat refine G.seq ?_
  refine G.region [.loc] (.take 0 .done) rfl ?_
  refine GP.take rfl rfl (Does.assign rfl ?_)
  refine GP.keep [(0, _), (1, _), (4, _)] (.cons rfl (.cons rfl (.cons rfl .nil))) ?_
  repeat refine G.seq ?_
  refine G.region [.loc] (.take 0 .done) rfl ?_
  refine GP.take rfl rfl (Does.assign rfl ?_)
  refine GP.keep [(0, _), (1, _), (4, _), (5, _)] (.cons rfl (.cons rfl (.cons rfl (.cons rfl .nil)))) ?_
  repeat refine G.seq ?_
  have e1 : (l.take i).length = i := by rw [List.length_take]; omega
  have e2 : (l.drop (i + 1)).length = l.length - (i + 1) := List.length_drop
  refine G.region [.loc, .loc, .loc, .loc, .gen, .loc] (.take 0 (.take 1 (.take 2 (.take 3 (.take 4 (.take 5 .done)))))) rfl ?_
  refine GP.take rfl rfl (Does.move rfl ?_)
  refine GP.take rfl rfl (Does.move rfl ?_)
  refine GP.take rfl rfl (Does.move rfl ?_)
  refine GP.take rfl rfl (Does.sliceTo i rfl rfl sl34 rfl (by omega) ?_)
  refine GP.take rfl rfl (Does.appendT rfl (l := []) (xs := l.take i) (ad2 := some ⟨b, o, none⟩) (mc := cap) [] [] [] rfl (by rw [e1]; rfl) rfl LRep.nil (fun _ => ⟨_, _, rfl, At.row (by simp) (hpre.take i (by omega))⟩) (by rw [e1]; simp; omega) ?_)
  intro sv1 C1 h1
  simp only [List.nil_append, List.append_nil] at h1 ⊢
  refine GP.take rfl rfl (Does.assign rfl ?_)
  refine GP.keep [(0, _), (1, _), (4, _), (5, _)] (.cons rfl (.cons rfl (.cons rfl (.cons rfl .nil)))) ?_
  repeat refine G.seq ?_
  have hoff : ∀ xs : List (Int × Int), xs.length = l.length - (i + 1) → xs ≠ [] → (if cap = i + 1 then o else o + (i + 1) * 2) = o + (i + 1) * 2 := by
    intro xs hxl hne
    by_cases hc : cap = i + 1
    · exact absurd (List.eq_nil_of_length_eq_zero (by omega)) hne
    · rw [if_neg hc]
  refine G.region [.loc, .loc, .loc, .loc, .loc, .gen, .loc] (.take 0 (.take 1 (.take 2 (.take 3 (.take 4 (.take 5 (.take 6 .done))))))) rfl ?_
  refine GP.take rfl rfl (Does.move rfl ?_)
  refine GP.take rfl rfl (Does.move rfl ?_)
  refine GP.take rfl rfl (Does.move rfl ?_)
  refine GP.take rfl rfl (Does.add rfl rfl (r := ((i + 1 : Nat) : Int)) (wrc_i64 (by omega) (by omega) (by omega)) ?_)
  refine GP.take rfl rfl (Does.sliceFrom (i + 1) rfl rfl sl34 rfl (by omega) hcap ?_)
  refine GP.take rfl rfl (Does.appendT rfl (l := l.take i) (xs := l.drop (i + 1)) (mc := cap - (i + 1)) [] C1 [] rfl (by rw [e2]; rfl) (by simp) h1 (fun hne => ⟨_, _, by rw [hoff _ e2 hne], At.row (by simp) (hpre.drop (i + 1) (by omega))⟩) (by rw [e1, e2]; omega) ?_)
  intro sv2 C2 h2
  simp only [List.nil_append, List.append_nil] at h2 ⊢
  refine GP.take rfl rfl (Does.assign rfl ?_)
  refine GP.keep [(0, _), (1, _), (4, _), (5, _)] (.cons rfl (.cons rfl (.cons rfl (.cons rfl .nil)))) ?_
  repeat refine G.seq ?_
  refine G.region [.loc, .loc] (.take 0 (.take 1 .done)) rfl ?_
  refine GP.take rfl rfl (Does.move rfl ?_)
  refine GP.take rfl rfl (Does.assign rfl ?_)
  refine GP.keep [(0, _), (1, _), (4, _), (5, _)] (.cons rfl (.cons rfl (.cons rfl (.cons rfl .nil)))) ?_
  exact fin_ret (fn := Try.f27) (R := []) Try.func27 (res1 rfl rfl) .all (by rw [List.eraseIdx_eq_take_drop_succ]; exact h2)
def cntE (cb : Nat) (c : Nat) : Chunks := [(cb, cel 3 [.int .i64 (IntKind.i64.wrap (c : Int))])]
theorem costs1_ct (cb c : Nat) (x y : Int × Int) : Ct Try.prog 18 [Value.agg (enc1 x).toArray, Value.agg (enc1 y).toArray, .pointer (some ⟨cb, 0, none⟩)].toArray (fun _ => True) (cntE cb c) (fun v C' => v = .int .i64 (cmpK x y) ∧ C' = cntE cb (c + 1)) := by
  unfold cntE
  refine ct_of_walk (fn := Try.f18) Try.func18 rfl rfl fun w0 hpre hst => ?_
  clear hst
  repeat refine G.seq ?_
  refine G.region [.alloc, .alloc, .loc] (.take 0 (.take 1 (.take 2 .done))) rfl ?_
  refine GP.take rfl rfl (Does.box (T := 31) rfl rfl fun b3 Nb3 hb3 nb3 => ?_)
  refine GP.take rfl rfl (Does.box (T := 31) rfl rfl fun b4 Nb4 hb4 nb4 => ?_)
  refine GP.take rfl rfl (Does.assign rfl ?_)
  refine GP.keep [(0, _), (1, _), (2, _), (3, _), (4, _), (5, _)] (.cons rfl (.cons rfl (.cons rfl (.cons rfl (.cons rfl (.cons rfl .nil)))))) ?_
  repeat refine G.seq ?_
  refine G.region [.gen, .loc, .gen] (.take 0 (.take 1 (.take 2 .done))) rfl ?_
  refine GP.take rfl rfl (Does.load1 rfl ft3 (CellIn.own (by first | exact .head _ | exact .tail _ (.head _) | exact .tail _ (.tail _ (.head _)) | exact .tail _ (.tail _ (.tail _ (.head _))) | exact .tail _ (.tail _ (.tail _ (.tail _ (.head _)))) | exact .tail _ (.tail _ (.tail _ (.tail _ (.tail _ (.head _)))))) rfl) ?_)
  refine GP.take rfl rfl (Does.add rfl rfl (r := IntKind.i64.wrap ((c + 1 : Nat) : Int)) (by rw [wrap_i64_add]; rfl) ?_)
  refine GP.take0 rfl (Does.store1 rfl rfl sz3 rfl (by first | exact .head | exact .tail .head | exact .tail (.tail .head) | exact .tail (.tail (.tail .head)) | exact .tail (.tail (.tail (.tail .head))) | exact .tail (.tail (.tail (.tail (.tail .head))))) (by first | exact .head | exact .tail .head | exact .tail (.tail .head) | exact .tail (.tail (.tail .head))) ?_)
  refine GP.keep [(0, _), (1, _), (2, _), (3, _), (4, _), (5, _)] (.cons rfl (.cons rfl (.cons rfl (.cons rfl (.cons rfl (.cons rfl .nil)))))) ?_
  repeat refine G.seq ?_
  refine G.region [.gen, .gen, .gen, .loc] (.take 0 (.take 1 (.take 2 (.take 3 .done)))) rfl ?_
  refine GP.take rfl rfl (Does.loadA (vs := enc1 x) rfl ag31 (RowIn.own (by first | exact .head _ | exact .tail _ (.head _) | exact .tail _ (.tail _ (.head _)) | exact .tail _ (.tail _ (.tail _ (.head _))) | exact .tail _ (.tail _ (.tail _ (.tail _ (.head _)))) | exact .tail _ (.tail _ (.tail _ (.tail _ (.tail _ (.head _)))))) rfl) ?_)
  refine GP.take rfl rfl (Does.loadA (vs := enc1 y) rfl ag31 (RowIn.own (by first | exact .head _ | exact .tail _ (.head _) | exact .tail _ (.tail _ (.head _)) | exact .tail _ (.tail _ (.tail _ (.head _))) | exact .tail _ (.tail _ (.tail _ (.tail _ (.head _)))) | exact .tail _ (.tail _ (.tail _ (.tail _ (.tail _ (.head _)))))) rfl) ?_)
  refine GP.take rfl rfl (Does.callF [(b4, _), (b3, _), (cb, _)] [] (.cons rfl (.cons rfl .nil)) cb14 rfl (byK_ct x y) (fun _ _ => trivial) ?_)
  rintro _ _ ⟨rfl, rfl⟩
  simp only [List.append_nil]
  refine GP.take rfl rfl (Does.assign rfl ?_)
  refine GP.keep [(0, _), (1, _), (2, _), (3, _), (4, _), (5, _)] (.cons rfl (.cons rfl (.cons rfl (.cons rfl (.cons rfl (.cons rfl .nil)))))) ?_
  exact fin_ret (fn := Try.f18) Try.func18 (res1 rfl rfl) .split2 ⟨rfl, rfl⟩
theorem costs1_ok (cb : Nat) : CmpOk Try.prog 18 #[] #[.pointer (some ⟨cb, 0, none⟩)] (cntE cb) enc1 cmpK := ⟨cb18, fun c x y => costs1_ct cb c x y⟩
end Go.Proofs.Ytcgenmfnlocbbaa.T
