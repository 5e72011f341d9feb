/- Least, walked. Nothing is claimed of a law here. -/
import Derived.Test.YtcgenmfnlocbbaaH2
import Derived.Test.YtcgenmfnlocbbaaH8
namespace Go.Proofs.Ytcgenmfnlocbbaa.T
open Go.Lg Go.Hp
theorem cb45 : callable Try.prog 45 = true := by kernel_rfl
theorem fo73_0 : fieldOff Try.prog 73 0 = some 0 := by kernel_rfl
theorem fo73_1 : fieldOff Try.prog 73 1 = some 2 := by kernel_rfl
theorem fo81_1 : fieldOff Try.prog 81 1 = some 1 := by kernel_rfl
theorem fo84_0 : fieldOff Try.prog 84 0 = some 0 := by kernel_rfl
theorem ft22 : flatT Try.prog 22 = true := by kernel_rfl
theorem ft32 : flatT Try.prog 32 = true := by kernel_rfl
theorem ft79 : flatT Try.prog 79 = true := by kernel_rfl
theorem sl69 : sliceElem Try.prog 69 = some (73, 3) := by kernel_rfl
theorem sl79 : sliceElem Try.prog 79 = some (84, 4) := by kernel_rfl
theorem sp73 : structPlaces Try.prog 73 = some [(0, 2), (2, 1)] := by kernel_rfl
theorem sp81 : structPlaces Try.prog 81 = some [(0, 1), (1, 1), (2, 1)] := by kernel_rfl
theorem sz32 : sizeT Try.prog 32 = some 1 := by kernel_rfl
theorem sz73 : sizeT Try.prog 73 = some 3 := by kernel_rfl
theorem zl73 : zeroL Try.prog 73 = some [.int .i64 0, .int .i64 0, .int .u64 0] := by kernel_rfl
theorem zl81 : zeroL Try.prog 81 = some [.nilFunc, .slice none 0 0, .int .u64 0] := by kernel_rfl
open I2 (enc2 row2 row2_length row2_one row2_el push2 pop2 swap2)
/-- the order of Least's own heap: the one that goes last is its first -/
def cmpL (cmp : Int × Int → Int × Int → Int) (a b : (Int × Int) × Nat) : Int := if cmp b.1 a.1 ≠ 0 then cmp b.1 a.1 else if a.2 > b.2 then -1 else 1
def boxE (b5 : Nat) (v : Value) (E : Nat → Chunks) (c : Nat) : Chunks := (b5, cel 32 [v]) :: E c
theorem lst1_ct {g : FuncId} {fs cs : Array Value} {E : Nat → Chunks} {cmp : Int × Int → Int × Int → Int} (hc : CmpOk Try.prog g fs cs E enc1 cmp) (b5 c : Nat) (x y : (Int × Int) × Nat) :
    Ct Try.prog 45 [Value.agg (enc2 x).toArray, Value.agg (enc2 y).toArray, .pointer (some ⟨b5, 0, none⟩)].toArray (fun _ => True) (boxE b5 (.func (.func g) fs cs) E c) (fun v C' => v = .int .i64 (cmpL cmp x y) ∧ C' = boxE b5 (.func (.func g) fs cs) E (c + 1)) := by
  unfold boxE
  refine ct_of_walk (fn := Try.f45) Try.func45 rfl rfl fun w0 hpre hst => ?_
  clear hst
  repeat refine G.seq ?_
  refine G.region [.alloc, .alloc, .loc] (.take 0 (.take 1 (.take 2 .done))) rfl ?_
  refine GP.take rfl rfl (Does.box (T := 73) rfl rfl fun b3 Nb3 hb3 nb3 => ?_)
  refine GP.take rfl rfl (Does.box (T := 73) rfl rfl fun b4 Nb4 hb4 nb4 => ?_)
  refine GP.take rfl rfl (Does.assign rfl ?_)
  refine GP.keep [(0, _), (1, _), (2, _), (3, _), (4, _), (5, _)] (.cons rfl (.cons rfl (.cons rfl (.cons rfl (.cons rfl (.cons rfl .nil)))))) ?_
  repeat refine G.seq ?_
  refine G.region [.gen, .loc, .gen, .loc, .gen, .gen, .loc] (.take 0 (.take 1 (.take 2 (.take 3 (.take 4 (.take 5 (.take 6 .done))))))) rfl ?_
  refine GP.take rfl rfl (Does.load1 rfl ft32 (CellIn.own (by first | exact .head _ | exact .tail _ (.head _) | exact .tail _ (.tail _ (.head _)) | exact .tail _ (.tail _ (.tail _ (.head _))) | exact .tail _ (.tail _ (.tail _ (.tail _ (.head _)))) | exact .tail _ (.tail _ (.tail _ (.tail _ (.tail _ (.head _)))))) rfl) ?_)
  refine GP.take rfl rfl (Does.fieldAddr rfl fo73_0 ?_)
  refine GP.take rfl rfl (Does.loadA (vs := enc1 y.1) rfl ag31 (RowIn.own (by first | exact .head _ | exact .tail _ (.head _) | exact .tail _ (.tail _ (.head _)) | exact .tail _ (.tail _ (.tail _ (.head _))) | exact .tail _ (.tail _ (.tail _ (.tail _ (.head _)))) | exact .tail _ (.tail _ (.tail _ (.tail _ (.tail _ (.head _)))))) rfl) ?_)
  refine GP.take rfl rfl (Does.fieldAddr rfl fo73_0 ?_)
  refine GP.take rfl rfl (Does.loadA (vs := enc1 x.1) rfl ag31 (RowIn.own (by first | exact .head _ | exact .tail _ (.head _) | exact .tail _ (.tail _ (.head _)) | exact .tail _ (.tail _ (.tail _ (.head _))) | exact .tail _ (.tail _ (.tail _ (.tail _ (.head _)))) | exact .tail _ (.tail _ (.tail _ (.tail _ (.tail _ (.head _)))))) rfl) ?_)
  refine GP.take rfl rfl (Does.callS [(b4, cel 73 (enc2 y)), (b3, cel 73 (enc2 x)), (b5, cel 32 [(.func (.func g) fs cs)])] (E c) rfl (.cons rfl (.cons rfl .nil)) hc.1 rfl rfl (hc.2 c y.1 x.1) (fun _ _ => trivial) ?_)
  rintro _ _ ⟨rfl, rfl⟩
  simp only [List.cons_append, List.nil_append]
  refine GP.take rfl rfl (Does.assign rfl ?_)
  refine GP.keep [(0, _), (1, _), (2, _), (3, _), (4, _), (5, _), (6, _)] (.cons rfl (.cons rfl (.cons rfl (.cons rfl (.cons rfl (.cons rfl (.cons rfl .nil))))))) ?_
  repeat refine G.seq ?_
  refine G.region [.loc, .loc] (.take 0 (.take 1 .done)) rfl ?_
  refine GP.take rfl rfl (Does.move rfl ?_)
  refine GP.take rfl rfl (Does.neq rfl rfl rfl ?_)
  refine GP.keep [(0, _), (1, _), (2, _), (3, _), (4, _), (5, _), (6, _), (14, _)] (.cons rfl (.cons rfl (.cons rfl (.cons rfl (.cons rfl (.cons rfl (.cons rfl (.cons rfl .nil)))))))) ?_
  repeat refine G.seq ?_
  refine G.condN rfl ?_ ?_
  · intro h1
    repeat refine G.seq ?_
    refine G.region [.loc, .loc] (.take 0 (.take 1 .done)) rfl ?_
    refine GP.take rfl rfl (Does.move rfl ?_)
    refine GP.take rfl rfl (Does.assign rfl ?_)
    refine GP.keep [(0, _), (1, _), (2, _), (3, _), (4, _), (5, _), (6, _), (14, _)] (.cons rfl (.cons rfl (.cons rfl (.cons rfl (.cons rfl (.cons rfl (.cons rfl (.cons rfl .nil)))))))) ?_
    exact fin_ret (fn := Try.f45) Try.func45 (res1 rfl rfl) .split2 ⟨by unfold cmpL; rw [if_pos h1], rfl⟩
  intro h1
  refine G.skip ?_
  repeat refine G.seq ?_
  refine G.region [.loc, .gen, .loc, .gen, .loc] (.take 0 (.take 1 (.take 2 (.take 3 (.take 4 .done))))) rfl ?_
  refine GP.take rfl rfl (Does.fieldAddr rfl fo73_1 ?_)
  refine GP.take rfl rfl (Does.load1 rfl ft22 (CellIn.own (by first | exact .head _ | exact .tail _ (.head _) | exact .tail _ (.tail _ (.head _)) | exact .tail _ (.tail _ (.tail _ (.head _))) | exact .tail _ (.tail _ (.tail _ (.tail _ (.head _)))) | exact .tail _ (.tail _ (.tail _ (.tail _ (.tail _ (.head _)))))) rfl) ?_)
  refine GP.take rfl rfl (Does.fieldAddr rfl fo73_1 ?_)
  refine GP.take rfl rfl (Does.load1 rfl ft22 (CellIn.own (by first | exact .head _ | exact .tail _ (.head _) | exact .tail _ (.tail _ (.head _)) | exact .tail _ (.tail _ (.tail _ (.head _))) | exact .tail _ (.tail _ (.tail _ (.tail _ (.head _)))) | exact .tail _ (.tail _ (.tail _ (.tail _ (.tail _ (.head _)))))) rfl) ?_)
  refine GP.take rfl rfl (Does.gtr rfl rfl rfl ?_)
  refine GP.keep [(0, _), (1, _), (2, _), (3, _), (4, _), (5, _), (6, _), (14, _), (20, _)] (.cons rfl (.cons rfl (.cons rfl (.cons rfl (.cons rfl (.cons rfl (.cons rfl (.cons rfl (.cons rfl .nil))))))))) ?_
  repeat refine G.seq ?_
  refine G.cond rfl ?_ ?_
  · intro h2
    repeat refine G.seq ?_
    refine G.region [.loc] (.take 0 .done) rfl ?_
    refine GP.take rfl rfl (Does.assign rfl ?_)
    refine GP.keep [(0, _), (1, _), (2, _), (3, _), (4, _), (5, _), (6, _), (14, _), (20, _)] (.cons rfl (.cons rfl (.cons rfl (.cons rfl (.cons rfl (.cons rfl (.cons rfl (.cons rfl (.cons rfl .nil))))))))) ?_
    exact fin_ret (fn := Try.f45) Try.func45 (res1 rfl rfl) .split2 ⟨by unfold cmpL; rw [if_neg (by simpa using h1), if_pos (by omega)], rfl⟩
  intro h2
  refine G.skip ?_
  repeat refine G.seq ?_
  refine G.region [.loc] (.take 0 .done) rfl ?_
  refine GP.take rfl rfl (Does.assign rfl ?_)
  refine GP.keep [(0, _), (1, _), (2, _), (3, _), (4, _), (5, _), (6, _), (14, _), (20, _)] (.cons rfl (.cons rfl (.cons rfl (.cons rfl (.cons rfl (.cons rfl (.cons rfl (.cons rfl (.cons rfl .nil))))))))) ?_
  exact fin_ret (fn := Try.f45) Try.func45 (res1 rfl rfl) .split2 ⟨by unfold cmpL; rw [if_neg (by simpa using h1), if_neg (by omega)], rfl⟩
theorem lst1_ok {g : FuncId} {fs cs : Array Value} {E : Nat → Chunks} {cmp : Int × Int → Int × Int → Int} (hc : CmpOk Try.prog g fs cs E enc1 cmp) (b5 : Nat) : CmpOk Try.prog 45 #[] #[.pointer (some ⟨b5, 0, none⟩)] (boxE b5 (.func (.func g) fs cs) E) enc2 (cmpL cmp) := ⟨cb45, fun c x y => lst1_ct hc b5 c x y⟩
/-- a step of Least's first loop: the heap, the next number, how often was compared -/
structure LsS where
  items : List (((Int × Int) × Nat) × Nat)
  came : Nat
  cn : Nat
def lsStep (cmp : Int × Int → Int × Int → Int) (m i : Nat) (v : Int × Int) (s : LsS) : LsS :=
  if i < m then ⟨(pushF (cmpL cmp) s.items s.came [(v, i)]).1, (pushF (cmpL cmp) s.items s.came [(v, i)]).2.1, s.cn + (pushF (cmpL cmp) s.items s.came [(v, i)]).2.2⟩
  else if cmp v (firstF s.items).1 < 0 then ⟨(swapF (cmpL cmp) s.items s.came (v, i)).1, (swapF (cmpL cmp) s.items s.came (v, i)).2.1, s.cn + 1 + (swapF (cmpL cmp) s.items s.came (v, i)).2.2⟩
  else ⟨s.items, s.came, s.cn + 1⟩
def lsRun (cmp : Int × Int → Int × Int → Int) (m : Nat) (l : List (Int × Int)) : Nat → LsS
  | 0 => ⟨[], 0, 0⟩
  | i + 1 => lsStep cmp m i (l.getD i (0, 0)) (lsRun cmp m l i)
theorem swapF_length' {α : Type} [Inhabited α] (cmp : α → α → Int) (l : List (α × Nat)) (came : Nat) (x : α) (h : 0 < l.length) : (swapF cmp l came x).1.length = l.length ∧ (swapF cmp l came x).2.1 = came + 1 := by
  unfold swapF
  rw [if_neg (List.length_pos_iff.1 h)]
  exact ⟨by simp [downF_length], rfl⟩
theorem lsRun_length (cmp : Int × Int → Int × Int → Int) (m : Nat) (hm : 0 < m) (l : List (Int × Int)) : ∀ i, (lsRun cmp m l i).items.length = min i m ∧ (lsRun cmp m l i).came ≤ i := by
  intro i
  induction i with
  | zero => simp [lsRun]
  | succ i ih =>
    simp only [lsRun, lsStep]
    split
    · have := pushF_length (cmpL cmp) [(l.getD i (0, 0), i)] (lsRun cmp m l i).items (lsRun cmp m l i).came
      simp only [List.length_cons, List.length_nil] at this ⊢
      omega
    · split
      · have := swapF_length' (cmpL cmp) (lsRun cmp m l i).items (lsRun cmp m l i).came (l.getD i (0, 0), i) (by omega)
        simp only
        omega
      · simp only; omega
/-- the first m things of a list in order, m at most its length -/
def leastF (cmp : Int × Int → Int × Int → Int) (l : List (Int × Int)) (m : Nat) : List (Int × Int) := ((popsF (cmpL cmp) m (lsRun cmp m l l.length).items).1.map (·.1)).reverse
def leastC (cmp : Int × Int → Int × Int → Int) (l : List (Int × Int)) (m : Nat) : Nat := if m = 0 then 0 else (lsRun cmp m l l.length).cn + (popsF (cmpL cmp) m (lsRun cmp m l l.length).items).2
theorem zeros_flat (m : Nat) : zerosL [.int .i64 0, .int .i64 0] (m * 2) = (List.replicate m ((0 : Int), (0 : Int))).flatMap enc1 := by
  induction m with
  | zero => rfl
  | succ m ih =>
    rw [List.replicate_succ', List.flatMap_append, ← ih, Nat.add_mul]
    simp only [zerosL, Nat.one_mul, List.range_add, List.map_append, List.map_map]
    congr 1
    simp [List.range_succ, Function.comp_def]
structure LpS where
  items : List (((Int × Int) × Nat) × Nat)
  C0 : Chunks
  cn : Nat
  acc : List (Int × Int)
theorem least_ct {g : FuncId} {fs cs : Array Value} {E : Nat → Chunks} {cmp : Int × Int → Int × Int → Int} (hc : CmpOk Try.prog g fs cs E enc1 cmp) (fnv : Value) (hf : fnv = (.func (.func g) fs cs) ∨ (fnv = .nilFunc ∧ g = 40 ∧ fs = #[] ∧ cs = #[]))
    (l : List (Int × Int)) (n : Int) (ad : Option Addr) (cap b o c : Nat) (had : l ≠ [] → ad = some ⟨b, o, none⟩) (hE : l ≠ [] → b ∉ (E c).map Prod.fst) (hbig : l.length ≤ 16777216) :
    Ct Try.prog 33 [.slice ad l.length cap, .int .i64 n, fnv].toArray (fun w => At w b o (l.flatMap enc1)) (E c) (fun v C' => ∃ Cs, LRep (leastF cmp l (min n l.length).toNat) v Cs ∧ C' = Cs ++ E (c + leastC cmp l (min n l.length).toNat)) := by
  obtain ⟨hone, hcells⟩ : oneC fnv = true ∧ fnv.cells = #[fnv] := by
    rcases hf with rfl | ⟨rfl, -, -, -⟩ <;> exact ⟨rfl, rfl⟩
  refine ct_of_walk (fn := Try.f33) Try.func33 rfl rfl fun w0 hpre hst => ?_
  clear hst
  repeat refine G.seq ?_
  refine G.region [.alloc, .loc] (.take 0 (.take 1 .done)) rfl ?_
  refine GP.take rfl rfl (Does.box (T := 32) (l := [fnv]) rfl hcells fun b5 Nb5 hb5 nb5 => ?_)
  refine GP.take rfl rfl (Does.assign rfl ?_)
  refine GP.keep [(0, _), (1, _), (2, _), (5, _), (6, _)] (.cons rfl (.cons rfl (.cons rfl (.cons rfl (.cons rfl .nil))))) ?_
  repeat refine G.seq ?_
  refine G.region [.loc, .loc, .loc, .loc, .loc] (.take 0 (.take 1 (.take 2 (.take 3 (.take 4 .done))))) rfl ?_
  refine GP.take rfl rfl (Does.move rfl ?_)
  refine GP.take rfl rfl (Does.move rfl ?_)
  refine GP.take rfl rfl (Does.len rfl is34 ?_)
  refine GP.take rfl rfl (Does.min rfl rfl (r := min n l.length) (by rw [Int.min_def]; split <;> split <;> omega) ?_)
  refine GP.take rfl rfl (Does.assign rfl ?_)
  refine GP.keep [(0, _), (1, _), (2, _), (5, _), (6, _)] (.cons rfl (.cons rfl (.cons rfl (.cons rfl (.cons rfl .nil))))) ?_
  repeat refine G.seq ?_
  refine G.region [.loc, .loc] (.take 0 (.take 1 .done)) rfl ?_
  refine GP.take rfl rfl (Does.move rfl ?_)
  refine GP.take rfl rfl (Does.lss rfl rfl rfl ?_)
  refine GP.keep [(0, _), (1, _), (2, _), (5, _), (6, _), (19, _)] (.cons rfl (.cons rfl (.cons rfl (.cons rfl (.cons rfl (.cons rfl .nil)))))) ?_
  repeat refine G.seq ?_
  refine G.cond rfl ?_ ?_
  · intro hlt
    have hm0 : (min n l.length).toNat = 0 := by omega
    rw [hm0]
    repeat refine G.seq ?_
    refine G.region [.loc] (.take 0 .done) rfl ?_
    refine GP.take rfl rfl (Does.assign rfl ?_)
    refine GP.keep [(0, _), (1, _), (2, _), (5, _), (6, _), (19, _)] (.cons rfl (.cons rfl (.cons rfl (.cons rfl (.cons rfl (.cons rfl .nil)))))) ?_
    exact fin_ret (fn := Try.f33) Try.func33 (res1 rfl rfl) .split1 ⟨[], LRep.nil, by simp [leastC]⟩
  intro hlt
  obtain ⟨m, hm⟩ : ∃ m : Nat, min n l.length = (m : Int) := ⟨(min n l.length).toNat, by omega⟩
  rw [hm] at hlt ⊢
  simp only [Int.toNat_natCast]
  have hm1 : 0 < m := by omega
  have hml : m ≤ l.length := by omega
  have hne : l ≠ [] := by rintro rfl; simp at hml; omega
  obtain rfl := had hne
  have hE := hE hne
  refine G.skip ?_
  repeat refine G.seq ?_
  rcases hf with rfl | ⟨rfl, rfl, rfl, rfl⟩
  · skip
    refine G.region [.gen, .loc] (.take 0 (.take 1 .done)) rfl ?_
    refine GP.take rfl rfl (Does.load1 rfl ft32 (CellIn.own (by first | exact .head _ | exact .tail _ (.head _) | exact .tail _ (.tail _ (.head _)) | exact .tail _ (.tail _ (.tail _ (.head _))) | exact .tail _ (.tail _ (.tail _ (.tail _ (.head _)))) | exact .tail _ (.tail _ (.tail _ (.tail _ (.tail _ (.head _)))))) rfl) ?_)
    refine GP.take rfl rfl (Does.isNilF rfl Try.underlying32 rfl ?_)
    refine GP.keep [(0, _), (1, _), (5, _), (21, _)] (.cons rfl (.cons rfl (.cons rfl (.cons rfl .nil)))) ?_
    repeat refine G.seq ?_
    refine G.condF rfl ?_
    refine G.skip ?_
    repeat refine G.seq ?_
    refine G.region [.loc, .loc, .alloc, .loc] (.take 0 (.take 1 (.take 2 (.take 3 .done)))) rfl ?_
    refine GP.take rfl rfl (Does.makeFunc .nil (.cons rfl .nil) ?_)
    refine GP.take rfl rfl (Does.build (r := [_, _, _]) (.cons rfl .nil) sp81 zl81 rfl ?_)
    refine GP.take rfl rfl (Does.box (T := 81) rfl rfl fun hb Nhb hhb nhb => ?_)
    refine GP.take rfl rfl (Does.assign rfl ?_)
    refine GP.keep [(0, _), (1, _), (5, _), (7, _)] (.cons rfl (.cons rfl (.cons rfl (.cons rfl .nil)))) ?_
    repeat refine G.seq ?_
    refine G.region [.loc, .loc, .loc] (.take 0 (.take 1 (.take 2 .done))) rfl ?_
    refine GP.take rfl rfl (Does.move rfl ?_)
    refine GP.take rfl rfl (Does.len rfl is34 ?_)
    refine GP.take rfl rfl (Does.move rfl ?_)
    refine GP.keep [(1, _), (5, _), (7, _), (25, _), (26, _), (27, _)] (.cons rfl (.cons rfl (.cons rfl (.cons rfl (.cons rfl (.cons rfl .nil)))))) ?_
    repeat refine G.seq ?_
    have hrep0 : HRep 81 84 row2 4 hb (.func (.func 45) #[] #[.pointer (some ⟨b5, 0, none⟩)]) [] 0 [(hb, cel 81 [(.func (.func 45) #[] #[.pointer (some ⟨b5, 0, none⟩)]), .slice none 0 0, .int .u64 0])] := ⟨_, [], rfl, .nil⟩
    refine G.block ?_
    refine G.loop (S := Nat × Chunks) (fun s => [(1, .int .i64 (m : Int)), (5, .pointer (some ⟨b5, 0, none⟩)), (7, .pointer (some ⟨hb, 0, none⟩)), (25, .slice (some ⟨b, o, none⟩) l.length cap), (26, .int .i64 (l.length : Int)), (27, .int .i64 (s.1 : Int))]) (fun s => s.2 ++ boxE b5 (.func (.func g) fs cs) E (c + (lsRun cmp m l s.1).cn))
      (fun s => s.1 ≤ l.length ∧ HRep 81 84 row2 4 hb (.func (.func 45) #[] #[.pointer (some ⟨b5, 0, none⟩)]) (lsRun cmp m l s.1).items (lsRun cmp m l s.1).came s.2) (fun s => l.length - s.1) (0, [(hb, cel 81 [(.func (.func 45) #[] #[.pointer (some ⟨b5, 0, none⟩)]), .slice none 0 0, .int .u64 0])]) ⟨Nat.zero_le _, hrep0⟩ (.cons rfl (.cons rfl (.cons rfl (.cons rfl (.cons rfl (.cons rfl .nil)))))) .all ?_
    clear hrep0
    rintro ⟨i, C0⟩ ⟨hi, hrep⟩ IH
    simp only at hi hrep IH ⊢
    obtain ⟨hlen, hcm⟩ := lsRun_length cmp m hm1 l i
    unfold boxE
    repeat refine G.seq ?_
    refine G.region [.loc] (.take 0 .done) rfl ?_
    refine GP.take rfl rfl (Does.lss rfl rfl rfl ?_)
    refine GP.keep [(1, _), (5, _), (7, _), (25, _), (26, _), (27, _), (28, _)] (.cons rfl (.cons rfl (.cons rfl (.cons rfl (.cons rfl (.cons rfl (.cons rfl .nil))))))) ?_
    repeat refine G.seq ?_
    refine G.cond rfl ?_ ?_
    case refine_1 =>
      intro hz
      have hil : i < l.length := by omega
      have hgd : l.getD i (0, 0) = l[i] := by simp [hil]
      refine G.skip ?_
      repeat refine G.seq ?_
      refine G.block ?_
      repeat refine G.seq ?_
      refine G.region [.loc, .loc, .gen, .alloc, .loc, .gen] (.take 0 (.take 1 (.take 2 (.take 3 (.take 4 (.take 5 .done)))))) rfl ?_
      refine GP.take rfl rfl (Does.move rfl ?_)
      refine GP.take rfl rfl (Does.indexAddr i rfl rfl sl34 rfl hil ?_)
      refine GP.take rfl rfl (Does.loadA (vs := enc1 l[i]) rfl ag31 (At.old hE hpre i hil) ?_)
      refine GP.take rfl rfl (Does.alloc zl31 fun b9 Nb9 hb9 nb9 => ?_)
      refine GP.take rfl rfl (Does.assign rfl ?_)
      refine GP.take0 rfl (Does.storeA rfl rfl sz31 (by first | exact .head | exact .tail .head | exact .tail (.tail .head) | exact .tail (.tail (.tail .head)) | exact .tail (.tail (.tail (.tail .head))) | exact .tail (.tail (.tail (.tail (.tail .head))))) (.cons rfl .head (.cons rfl (.tail .head) .nil)) ?_)
      refine GP.keep [(1, _), (5, _), (7, _), (8, _), (9, _), (25, _), (26, _), (27, _)] (.cons rfl (.cons rfl (.cons rfl (.cons rfl (.cons rfl (.cons rfl (.cons rfl (.cons rfl .nil)))))))) ?_
      repeat refine G.seq ?_
      refine G.block ?_
      refine G.join (S := Chunks) (fun _ => [(1, .int .i64 (m : Int)), (5, .pointer (some ⟨b5, 0, none⟩)), (7, .pointer (some ⟨hb, 0, none⟩)), (25, .slice (some ⟨b, o, none⟩) l.length cap), (26, .int .i64 (l.length : Int)), (27, .int .i64 (i : Int))]) (fun C1 => C1 ++ boxE b5 (.func (.func g) fs cs) E (c + (lsRun cmp m l (i + 1)).cn)) (fun C1 => HRep 81 84 row2 4 hb (.func (.func 45) #[] #[.pointer (some ⟨b5, 0, none⟩)]) (lsRun cmp m l (i + 1)).items (lsRun cmp m l (i + 1)).came C1) ?_ fun key => ?_
      · intro C1 hrep1
        refine G.inBlock ?_
        refine G.inBlock ?_
        repeat refine G.seq ?_
        refine G.region [.loc, .loc] (.take 0 (.take 1 .done)) rfl ?_
        refine GP.take rfl rfl (Does.add rfl rfl (r := ((i + 1 : Nat) : Int)) (wrc_i64 (by omega) (by omega) (by omega)) ?_)
        refine GP.take rfl rfl (Does.move rfl ?_)
        refine GP.keep [(1, _), (5, _), (7, _), (25, _), (26, _), (27, _)] (.cons rfl (.cons rfl (.cons rfl (.cons rfl (.cons rfl (.cons rfl .nil)))))) ?_
        exact IH (i + 1, C1) ⟨hil, hrep1⟩ (by simp only; omega)
      simp only [lsRun, hgd] at key
      unfold boxE at key
      repeat refine G.seq ?_
      refine G.region [.loc, .loc, .loc, .loc] (.take 0 (.take 1 (.take 2 (.take 3 .done)))) rfl ?_
      refine GP.take rfl rfl (Does.move rfl ?_)
      refine GP.take rfl rfl (Does.move rfl ?_)
      refine GP.take rfl rfl (Does.lss rfl rfl rfl ?_)
      refine GP.take rfl rfl (Does.assign rfl ?_)
      refine GP.keep [(1, _), (5, _), (7, _), (8, _), (9, _), (25, _), (26, _), (27, _), (32, _)] (.cons rfl (.cons rfl (.cons rfl (.cons rfl (.cons rfl (.cons rfl (.cons rfl (.cons rfl (.cons rfl .nil))))))))) ?_
      repeat refine G.seq ?_
      refine G.cond rfl ?_ ?_
      · intro him
        have him : i < m := by omega
        simp only [lsStep, if_pos him] at key
        repeat refine G.seq ?_
        refine G.region [.loc, .gen, .loc, .gen, .loc, .alloc, .gen] (.take 0 (.take 1 (.take 2 (.take 3 (.take 4 (.take 5 (.take 6 .done))))))) rfl ?_
        refine GP.take rfl rfl (Does.move rfl ?_)
        refine GP.take rfl rfl (Does.loadA (vs := enc1 l[i]) rfl ag31 (RowIn.own (by first | exact .head _ | exact .tail _ (.head _) | exact .tail _ (.tail _ (.head _)) | exact .tail _ (.tail _ (.tail _ (.head _))) | exact .tail _ (.tail _ (.tail _ (.tail _ (.head _)))) | exact .tail _ (.tail _ (.tail _ (.tail _ (.tail _ (.head _)))))) rfl) ?_)
        refine GP.take rfl rfl (Does.move rfl ?_)
        refine GP.take rfl rfl (Does.conv rfl Try.underlying22 ⟨_, Try.underlying3⟩ (wr_u64 (by omega) (by omega)) ?_)
        refine GP.take rfl rfl (Does.build (r := [_, _, _]) (.cons rfl (.cons rfl .nil)) sp73 zl73 rfl ?_)
        refine GP.take rfl rfl (Does.buildSlice (r := [_, _, _]) (.cons rfl .nil) sl69 zl73 (by decide) rfl fun b41 N41 h41 n41 => ?_)
        refine GP.take rfl rfl (Does.callP [(b41, cel 73 (enc2 (l[i], i))), (b9, cel 31 (enc1 l[i]))] (C0 ++ boxE b5 (.func (.func g) fs cs) E (c + (lsRun cmp m l i).cn)) (.cons rfl (.cons rfl .nil)) cb46 (by classical exact List.perm_iff_count.2 fun q => by simp only [enc1, enc2, boxE, List.append_eq, List.nil_append, List.cons_append, List.count_append, List.count_cons, List.count_nil] <;> omega) (push2 (lst1_ok hc b5) hb (lsRun cmp m l i).items (lsRun cmp m l i).came C0 hrep (c + (lsRun cmp m l i).cn) [(l[i], i)] (some ⟨b41, 0, none⟩) 1 b41 0 (fun _ => rfl) (fun _ hq => n41 (by simp only [boxE, List.map_append, List.map_cons, List.mem_append, List.mem_cons] at hq ⊢; simp only [hq, or_true])) (by simp; omega) (by simp; omega)) (fun w hs q u hq => RowIn.own (o := 0) (vs := enc2 (l[i], i)) (l := enc2 (l[i], i)) (.head _) rfl w hs q u (by simpa using hq)) ?_)
        rintro _ _ ⟨rfl, C1, hrep1, rfl⟩
        refine ⟨(b41, cel 73 (enc2 (l[i], i))) :: (b9, cel 31 (enc1 l[i])) :: (C1 ++ ((b5, cel 32 [(.func (.func g) fs cs)]) :: E (c + (lsRun cmp m l i).cn + (pushF (cmpL cmp) (lsRun cmp m l i).items (lsRun cmp m l i).came [(l[i], i)]).2.2))), (by classical exact List.perm_iff_count.2 fun q => by simp only [enc1, boxE, List.append_eq, List.nil_append, List.cons_append, List.count_append, List.count_cons, List.count_nil] <;> omega), ?_⟩
        refine GP.keep [(1, _), (5, _), (7, _), (25, _), (26, _), (27, _)] (.cons rfl (.cons rfl (.cons rfl (.cons rfl (.cons rfl (.cons rfl .nil)))))) ?_
        rw [Nat.add_assoc]
        exact G.sub (key C1 hrep1) .split2
      intro him
      have him : ¬ i < m := by omega
      simp only [lsStep, if_neg him] at key
      repeat refine G.seq ?_
      have hitne : (lsRun cmp m l i).items ≠ [] := List.length_pos_iff.1 (by omega)
      have hitp : 0 < (lsRun cmp m l i).items.length := by omega
      obtain ⟨ib, icap, sp, rfl, hicap, hisp⟩ := hrep.full hitne
      simp only [List.cons_append, List.nil_append]
      refine G.draw [.load, .load, .loc, .loc, .loc, .load, .loc, .loc, .loc, .load, .gen, .loc, .loc] (.take 2 (.take 3 (.take 4 (.take 0 (.take 1 (.take 5 (.take 6 (.take 7 (.take 8 (.take 9 (.alt 10 (.take 11 (.take 12 .done)) .stop))))))))))) (by exact mixed) (by kernel_rfl) ?_
      intro N hN0 hN
      refine GP.take rfl rfl (Does.move rfl ?_)
      refine GP.take rfl rfl (Does.nilCheck rfl ?_)
      refine GP.take rfl rfl (Does.fieldAddr rfl fo81_1 ?_)
      refine GP.take rfl rfl (Does.load1N rfl ft32 (by first | exact hN _ (.head _) | exact hN _ (.tail _ (.head _)) | exact hN _ (.tail _ (.tail _ (.head _))) | exact hN _ (.tail _ (.tail _ (.tail _ (.head _)))) | exact hN _ (.tail _ (.tail _ (.tail _ (.tail _ (.head _))))) | exact hN _ (.tail _ (.tail _ (.tail _ (.tail _ (.tail _ (.head _)))))) | exact hN _ (.tail _ (.tail _ (.tail _ (.tail _ (.tail _ (.tail _ (.head _)))))))) (CellIn.own (by first | exact .head _ | exact .tail _ (.head _) | exact .tail _ (.tail _ (.head _)) | exact .tail _ (.tail _ (.tail _ (.head _))) | exact .tail _ (.tail _ (.tail _ (.tail _ (.head _)))) | exact .tail _ (.tail _ (.tail _ (.tail _ (.tail _ (.head _)))))) rfl) ?_)
      refine GP.take rfl rfl (Does.loadAN (vs := enc1 l[i]) rfl ag31 (by first | exact hN _ (.head _) | exact hN _ (.tail _ (.head _)) | exact hN _ (.tail _ (.tail _ (.head _))) | exact hN _ (.tail _ (.tail _ (.tail _ (.head _)))) | exact hN _ (.tail _ (.tail _ (.tail _ (.tail _ (.head _))))) | exact hN _ (.tail _ (.tail _ (.tail _ (.tail _ (.tail _ (.head _)))))) | exact hN _ (.tail _ (.tail _ (.tail _ (.tail _ (.tail _ (.tail _ (.head _)))))))) (RowIn.own (by first | exact .head _ | exact .tail _ (.head _) | exact .tail _ (.tail _ (.head _)) | exact .tail _ (.tail _ (.tail _ (.head _))) | exact .tail _ (.tail _ (.tail _ (.tail _ (.head _)))) | exact .tail _ (.tail _ (.tail _ (.tail _ (.tail _ (.head _)))))) rfl) ?_)
      refine GP.take rfl rfl (Does.load1N rfl ft79 (by first | exact hN _ (.head _) | exact hN _ (.tail _ (.head _)) | exact hN _ (.tail _ (.tail _ (.head _))) | exact hN _ (.tail _ (.tail _ (.tail _ (.head _)))) | exact hN _ (.tail _ (.tail _ (.tail _ (.tail _ (.head _))))) | exact hN _ (.tail _ (.tail _ (.tail _ (.tail _ (.tail _ (.head _)))))) | exact hN _ (.tail _ (.tail _ (.tail _ (.tail _ (.tail _ (.tail _ (.head _)))))))) (CellIn.own (by first | exact .head _ | exact .tail _ (.head _) | exact .tail _ (.tail _ (.head _)) | exact .tail _ (.tail _ (.tail _ (.head _))) | exact .tail _ (.tail _ (.tail _ (.tail _ (.head _)))) | exact .tail _ (.tail _ (.tail _ (.tail _ (.tail _ (.head _)))))) rfl) ?_)
      refine GP.take rfl rfl (Does.indexAddr 0 rfl rfl sl79 rfl hitp ?_)
      refine GP.take rfl rfl (Does.fieldAddr rfl fo84_0 ?_)
      refine GP.take rfl rfl (Does.fieldAddr rfl fo73_0 ?_)
      refine GP.take rfl rfl (Does.loadAN (vs := enc1 (firstF (lsRun cmp m l i).items).1) rfl ag31 (by first | exact hN _ (.head _) | exact hN _ (.tail _ (.head _)) | exact hN _ (.tail _ (.tail _ (.head _))) | exact hN _ (.tail _ (.tail _ (.tail _ (.head _)))) | exact hN _ (.tail _ (.tail _ (.tail _ (.tail _ (.head _))))) | exact hN _ (.tail _ (.tail _ (.tail _ (.tail _ (.tail _ (.head _)))))) | exact hN _ (.tail _ (.tail _ (.tail _ (.tail _ (.tail _ (.tail _ (.head _)))))))) (RowIn.own (l := (lsRun cmp m l i).items.flatMap row2 ++ sp) (by first | exact .head _ | exact .tail _ (.head _) | exact .tail _ (.tail _ (.head _)) | exact .tail _ (.tail _ (.tail _ (.head _))) | exact .tail _ (.tail _ (.tail _ (.tail _ (.head _)))) | exact .tail _ (.tail _ (.tail _ (.tail _ (.tail _ (.head _)))))) (by have h2 := congrArg (List.take 2) (row2_el (lsRun cmp m l i).items sp 0 hitp); rw [List.take_take] at h2; simpa [firstF] using h2)) ?_)
      refine GP.one ?_
      refine GP.take rfl rfl (Does.callS [(b9, cel 31 (enc1 l[i])), (hb, cel 81 [(.func (.func 45) #[] #[.pointer (some ⟨b5, 0, none⟩)]), .slice (some ⟨ib, 0, none⟩) (lsRun cmp m l i).items.length icap, .int .u64 ((lsRun cmp m l i).came : Int)]), (ib, cel 84 ((lsRun cmp m l i).items.flatMap row2 ++ sp)), (b5, cel 32 [(.func (.func g) fs cs)])] (E (c + (lsRun cmp m l i).cn)) rfl (.cons rfl (.cons rfl .nil)) hc.1 rfl rfl (hc.2 (c + (lsRun cmp m l i).cn) l[i] (firstF (lsRun cmp m l i).items).1) (fun _ _ => trivial) ?_)
      rintro _ _ ⟨rfl, rfl⟩
      simp only [List.cons_append, List.nil_append]
      refine GP.take rfl rfl (Does.lss rfl rfl rfl ?_)
      refine GP.take rfl rfl (Does.assign rfl ?_)
      refine GP.keep [(1, _), (5, _), (7, _), (8, _), (9, _), (25, _), (26, _), (27, _), (43, _)] (.cons rfl (.cons rfl (.cons rfl (.cons rfl (.cons rfl (.cons rfl (.cons rfl (.cons rfl (.cons rfl .nil))))))))) ?_
      repeat refine G.seq ?_
      refine G.cond rfl ?_ ?_
      · intro hc0
        simp only [if_pos hc0] at key
        repeat refine G.seq ?_
        refine G.region [.loc, .gen, .loc, .gen, .loc, .gen] (.take 0 (.take 1 (.take 2 (.take 3 (.take 4 (.take 5 .done)))))) rfl ?_
        refine GP.take rfl rfl (Does.move rfl ?_)
        refine GP.take rfl rfl (Does.loadA (vs := enc1 l[i]) rfl ag31 (RowIn.own (by first | exact .head _ | exact .tail _ (.head _) | exact .tail _ (.tail _ (.head _)) | exact .tail _ (.tail _ (.tail _ (.head _))) | exact .tail _ (.tail _ (.tail _ (.tail _ (.head _)))) | exact .tail _ (.tail _ (.tail _ (.tail _ (.tail _ (.head _)))))) rfl) ?_)
        refine GP.take rfl rfl (Does.move rfl ?_)
        refine GP.take rfl rfl (Does.conv rfl Try.underlying22 ⟨_, Try.underlying3⟩ (wr_u64 (by omega) (by omega)) ?_)
        refine GP.take rfl rfl (Does.build (r := [_, _, _]) (.cons rfl (.cons rfl .nil)) sp73 zl73 rfl ?_)
        refine GP.take rfl rfl (Does.callP [(b9, cel 31 (enc1 l[i]))] ([(hb, cel 81 [(.func (.func 45) #[] #[.pointer (some ⟨b5, 0, none⟩)]), .slice (some ⟨ib, 0, none⟩) (lsRun cmp m l i).items.length icap, .int .u64 ((lsRun cmp m l i).came : Int)]), (ib, cel 84 ((lsRun cmp m l i).items.flatMap row2 ++ sp))] ++ boxE b5 (.func (.func g) fs cs) E (c + (lsRun cmp m l i).cn + 1)) (.cons rfl (.cons rfl .nil)) cb47 (by classical exact List.perm_iff_count.2 fun q => by simp only [enc1, boxE, List.append_eq, List.nil_append, List.cons_append, List.count_append, List.count_cons, List.count_nil] <;> omega) (swap2 (lst1_ok hc b5) hb (lsRun cmp m l i).items (lsRun cmp m l i).came _ hrep (c + (lsRun cmp m l i).cn + 1) (l[i], i) (by omega) (by omega)) (fun _ _ => trivial) ?_)
        rintro _ _ ⟨rfl, C1, hrep1, rfl⟩
        refine ⟨(b9, cel 31 (enc1 l[i])) :: (C1 ++ ((b5, cel 32 [(.func (.func g) fs cs)]) :: E (c + (lsRun cmp m l i).cn + 1 + (swapF (cmpL cmp) (lsRun cmp m l i).items (lsRun cmp m l i).came (l[i], i)).2.2))), (by classical exact List.perm_iff_count.2 fun q => by simp only [enc1, boxE, List.append_eq, List.nil_append, List.cons_append, List.count_append, List.count_cons, List.count_nil] <;> omega), ?_⟩
        refine GP.keep [(1, _), (5, _), (7, _), (25, _), (26, _), (27, _)] (.cons rfl (.cons rfl (.cons rfl (.cons rfl (.cons rfl (.cons rfl .nil)))))) ?_
        have e1 : c + (lsRun cmp m l i).cn + 1 + (swapF (cmpL cmp) (lsRun cmp m l i).items (lsRun cmp m l i).came (l[i], i)).2.2 = c + ((lsRun cmp m l i).cn + 1 + (swapF (cmpL cmp) (lsRun cmp m l i).items (lsRun cmp m l i).came (l[i], i)).2.2) := by omega
        rw [e1]
        exact G.sub (key C1 hrep1) .split1
      · intro hc0
        simp only [if_neg hc0] at key
        refine G.skip ?_
        rw [Nat.add_assoc]
        exact (G.sub (key _ hrep) .split1).weak (.cons rfl (.cons rfl (.cons rfl (.cons rfl (.cons rfl (.cons rfl .nil))))))
    intro hz
    obtain rfl : i = l.length := by omega
    clear IH
    refine G.exit rfl ?_
    repeat refine G.seq ?_
    refine G.region [.loc, .gen, .loc] (.take 0 (.take 1 (.take 2 .done))) rfl ?_
    refine GP.take rfl rfl (Does.move rfl ?_)
    refine GP.take rfl rfl (Does.makeSlice (l := m) (c := m) rfl rfl si34 zl31 rfl (by decide) (Nat.le_refl _) (by omega) (by omega) fun bm Nm hbm nm => ?_)
    rw [zeros_flat]
    refine GP.take rfl rfl (Does.assign rfl ?_)
    refine GP.keep [(1, _), (7, _), (10, _)] (.cons rfl (.cons rfl (.cons rfl .nil))) ?_
    repeat refine G.seq ?_
    refine G.region [.loc, .loc, .loc] (.take 0 (.take 1 (.take 2 .done))) rfl ?_
    refine GP.take rfl rfl (Does.move rfl ?_)
    refine GP.take rfl rfl (Does.sub rfl rfl (r := ((m : Int) - 1)) (wr_i64 (by omega) (by omega)) ?_)
    refine GP.take rfl rfl (Does.assign rfl ?_)
    refine GP.keep [(7, _), (10, _), (11, _)] (.cons rfl (.cons rfl (.cons rfl .nil))) ?_
    have hmin : min l.length m = m := by omega
    rw [hmin] at hlen
    repeat refine G.seq ?_
    refine G.block ?_
    refine G.loop (S := LpS) (fun s => [(7, .pointer (some ⟨hb, 0, none⟩)), (10, .slice (some ⟨bm, 0, none⟩) m m), (11, .int .i64 ((s.items.length : Int) - 1))]) (fun s => (bm, cel 31 ((List.replicate s.items.length ((0 : Int), (0 : Int)) ++ s.acc).flatMap enc1)) :: (s.C0 ++ boxE b5 (.func (.func g) fs cs) E s.cn))
      (fun s => HRep 81 84 row2 4 hb (.func (.func 45) #[] #[.pointer (some ⟨b5, 0, none⟩)]) s.items (lsRun cmp m l l.length).came s.C0 ∧ s.items.length + s.acc.length = m ∧ ((popsF (cmpL cmp) s.items.length s.items).1.map (·.1)).reverse ++ s.acc = leastF cmp l m ∧ s.cn + (popsF (cmpL cmp) s.items.length s.items).2 = c + leastC cmp l m) (fun s => s.items.length)
      ⟨(lsRun cmp m l l.length).items, C0, c + (lsRun cmp m l l.length).cn, []⟩ ⟨hrep, by simp only [List.length_nil]; omega, by simp only [hlen, List.append_nil]; rfl, by simp only [hlen]; unfold leastC; rw [if_neg (by omega)]; omega⟩ (by simp only [hlen]; exact (.cons rfl (.cons rfl (.cons rfl .nil)))) (by simp only [hlen, List.append_nil]; exact .all) ?_
    rintro ⟨items, C1, cn, acc⟩ ⟨h1, h2, h3, h4⟩ IH
    simp only at h1 h2 h3 h4 IH ⊢
    unfold boxE
    repeat refine G.seq ?_
    refine G.region [.loc, .loc] (.take 0 (.take 1 .done)) rfl ?_
    refine GP.take rfl rfl (Does.move rfl ?_)
    refine GP.take rfl rfl (Does.geq rfl rfl rfl ?_)
    refine GP.keep [(7, _), (10, _), (11, _), (68, _)] (.cons rfl (.cons rfl (.cons rfl (.cons rfl .nil)))) ?_
    repeat refine G.seq ?_
    refine G.cond rfl ?_ ?_
    case refine_2 =>
      intro hz
      obtain rfl : items = [] := List.eq_nil_of_length_eq_zero (by omega)
      refine G.exit rfl ?_
      repeat refine G.seq ?_
      refine G.region [.loc, .loc] (.take 0 (.take 1 .done)) rfl ?_
      refine GP.take rfl rfl (Does.move rfl ?_)
      refine GP.take rfl rfl (Does.assign rfl ?_)
      refine GP.keep [(6, _)] (.cons rfl .nil) ?_
      simp only [List.length_nil, popsF, List.map_nil, List.reverse_nil, List.nil_append, Nat.add_zero, Nat.zero_add, List.replicate_zero] at h2 h3 h4 ⊢
      rw [h4, h3]
      refine G.dropP ((b5, cel 32 [(.func (.func g) fs cs)]) :: C1) (A := (bm, cel 31 ((leastF cmp l m).flatMap enc1)) :: E (c + leastC cmp l m)) (by classical exact List.perm_iff_count.2 fun q => by simp only [enc1, List.append_eq, List.nil_append, List.cons_append, List.count_append, List.count_cons, List.count_nil] <;> omega) ?_
      rw [h3] at h2
      exact fin_ret (fn := Try.f33) (R := []) Try.func33 (res1 rfl rfl) .all ⟨[(bm, cel 31 ((leastF cmp l m).flatMap enc1))], by show Owns 31 2 _ (leastF cmp l m).length _ _ _; rw [h2]; exact Owns.blk (sp := []) (by rw [List.append_nil]; exact .head) (by rw [flat_length enc1 2 enc1_length, h2]) (by simp) (Nat.le_refl _), rfl⟩
    intro hz
    have hpos : 0 < items.length := by omega
    obtain ⟨k, hk⟩ : ∃ k, items.length = k + 1 := ⟨items.length - 1, by omega⟩
    have hpl : (popF (cmpL cmp) items).1.length = k := by rw [popF_length]; omega
    refine G.skip ?_
    repeat refine G.seq ?_
    refine G.block ?_
    repeat refine G.seq ?_
    refine G.region [.loc, .gen, .loc, .loc, .loc, .alloc, .gen, .loc] (.take 0 (.take 1 (.take 2 (.take 3 (.take 4 (.take 5 (.take 6 (.take 7 .done)))))))) rfl ?_
    refine GP.take rfl rfl (Does.move rfl ?_)
    refine GP.take rfl rfl (Does.callP [(bm, cel 31 ((List.replicate items.length ((0 : Int), (0 : Int)) ++ acc).flatMap enc1))] (C1 ++ boxE b5 (.func (.func g) fs cs) E cn) (.cons rfl .nil) cb48 (by classical exact List.perm_iff_count.2 fun q => by simp only [boxE, List.append_eq, List.nil_append, List.cons_append, List.count_append, List.count_cons, List.count_nil] <;> omega) (pop2 (lst1_ok hc b5) hb items _ C1 h1 cn (by omega)) (fun _ _ => trivial) ?_)
    rintro _ _ ⟨rfl, C2, hrep2, rfl⟩
    refine ⟨(bm, cel 31 ((List.replicate items.length ((0 : Int), (0 : Int)) ++ acc).flatMap enc1)) :: (C2 ++ ((b5, cel 32 [(.func (.func g) fs cs)]) :: E (cn + (popF (cmpL cmp) items).2))), (by classical exact List.perm_iff_count.2 fun q => by simp only [boxE, List.append_eq, List.nil_append, List.cons_append, List.count_append, List.count_cons, List.count_nil] <;> omega), ?_⟩
    refine GP.take rfl rfl (Does.move rfl ?_)
    refine GP.take rfl rfl (Does.extract rfl rfl ?_)
    refine GP.take rfl rfl (Does.extract rfl rfl ?_)
    refine GP.take rfl rfl (Does.alloc zl73 fun b12 Nb12 hb12 nb12 => ?_)
    refine GP.take0 rfl (Does.storeA rfl rfl sz73 (by first | exact .head | exact .tail .head | exact .tail (.tail .head) | exact .tail (.tail (.tail .head)) | exact .tail (.tail (.tail (.tail .head))) | exact .tail (.tail (.tail (.tail (.tail .head))))) (.cons rfl .head (.cons rfl (.tail .head) (.cons rfl (.tail (.tail .head)) .nil))) ?_)
    refine GP.take rfl rfl (Does.assign rfl ?_)
    refine GP.keep [(7, _), (10, _), (11, _), (12, _)] (.cons rfl (.cons rfl (.cons rfl (.cons rfl .nil)))) ?_
    repeat refine G.seq ?_
    have hset : SetRow (enc1 (firstF items).1) ((List.replicate items.length ((0 : Int), (0 : Int)) ++ acc).flatMap enc1) (0 + k * 2) ((List.replicate k ((0 : Int), (0 : Int)) ++ (firstF items).1 :: acc).flatMap enc1) := by
      have h9 := flat_set enc1 2 enc1_length enc1_one (List.replicate items.length ((0 : Int), (0 : Int)) ++ acc) [] k (by simp; omega) (firstF items).1
      rw [List.append_nil, List.append_nil] at h9
      have e : (List.replicate items.length ((0 : Int), (0 : Int)) ++ acc).set k (firstF items).1 = List.replicate k ((0 : Int), (0 : Int)) ++ (firstF items).1 :: acc := by
        rw [hk, List.replicate_succ', List.append_assoc, List.set_append_right _ _ (by simp)]
        simp
      rw [e] at h9
      exact h9
    refine G.region [.loc, .loc, .loc, .gen, .loc, .gen] (.take 0 (.take 1 (.take 2 (.take 3 (.take 4 (.take 5 .done)))))) rfl ?_
    refine GP.take rfl rfl (Does.move rfl ?_)
    refine GP.take rfl rfl (Does.move rfl ?_)
    refine GP.take rfl rfl (Does.fieldAddr rfl fo73_0 ?_)
    refine GP.take rfl rfl (Does.loadA (vs := enc1 (firstF items).1) rfl ag31 (RowIn.own (by first | exact .head _ | exact .tail _ (.head _) | exact .tail _ (.tail _ (.head _)) | exact .tail _ (.tail _ (.tail _ (.head _))) | exact .tail _ (.tail _ (.tail _ (.tail _ (.head _)))) | exact .tail _ (.tail _ (.tail _ (.tail _ (.tail _ (.head _)))))) rfl) ?_)
    refine GP.take rfl rfl (Does.indexAddr k rfl rfl sl34 (by omega) (by omega) ?_)
    refine GP.take0 rfl (Does.storeA rfl rfl sz31 (.tail .head) hset ?_)
    refine GP.keep [(7, _), (10, _), (11, _)] (.cons rfl (.cons rfl (.cons rfl .nil))) ?_
    refine G.inBlock ?_
    repeat refine G.seq ?_
    refine G.region [.loc, .loc, .loc] (.take 0 (.take 1 (.take 2 .done))) rfl ?_
    refine GP.take rfl rfl (Does.move rfl ?_)
    refine GP.take rfl rfl (Does.sub rfl rfl (r := ((k : Int) - 1)) (by rw [hk]; exact wrc_i64 (by omega) (by omega) (by omega)) ?_)
    refine GP.take rfl rfl (Does.assign rfl ?_)
    refine GP.keep [(7, _), (10, _), (11, _)] (.cons rfl (.cons rfl (.cons rfl .nil))) ?_
    rw [hk] at h3 h4
    simp only [popsF] at h3 h4
    have hIH := IH ⟨(popF (cmpL cmp) items).1, C2, cn + (popF (cmpL cmp) items).2, (firstF items).1 :: acc⟩ ⟨hrep2, by simp only [List.length_cons]; omega, by simp only [hpl]; rw [← h3]; simp, by simp only [hpl]; omega⟩ (by simp only; omega)
    simp only [hpl] at hIH
    unfold boxE at hIH
    exact G.sub hIH .split1
  · skip
    refine G.region [.gen, .loc] (.take 0 (.take 1 .done)) rfl ?_
    refine GP.take rfl rfl (Does.load1 rfl ft32 (CellIn.own (by first | exact .head _ | exact .tail _ (.head _) | exact .tail _ (.tail _ (.head _)) | exact .tail _ (.tail _ (.tail _ (.head _))) | exact .tail _ (.tail _ (.tail _ (.tail _ (.head _)))) | exact .tail _ (.tail _ (.tail _ (.tail _ (.tail _ (.head _)))))) rfl) ?_)
    refine GP.take rfl rfl (Does.isNilT rfl Try.underlying32 rfl ?_)
    refine GP.keep [(0, _), (1, _), (5, _), (21, _)] (.cons rfl (.cons rfl (.cons rfl (.cons rfl .nil)))) ?_
    repeat refine G.seq ?_
    refine G.condT rfl ?_
    repeat refine G.seq ?_
    refine G.region [.gen] (.take 0 .done) rfl ?_
    refine GP.take0 rfl (Does.store1 rfl rfl sz32 rfl (by first | exact .head | exact .tail .head | exact .tail (.tail .head) | exact .tail (.tail (.tail .head)) | exact .tail (.tail (.tail (.tail .head))) | exact .tail (.tail (.tail (.tail (.tail .head))))) (by first | exact .head | exact .tail .head | exact .tail (.tail .head) | exact .tail (.tail (.tail .head))) ?_)
    refine GP.keep [(0, _), (1, _), (5, _)] (.cons rfl (.cons rfl (.cons rfl .nil))) ?_
    repeat refine G.seq ?_
    refine G.region [.loc, .loc, .alloc, .loc] (.take 0 (.take 1 (.take 2 (.take 3 .done)))) rfl ?_
    refine GP.take rfl rfl (Does.makeFunc .nil (.cons rfl .nil) ?_)
    refine GP.take rfl rfl (Does.build (r := [_, _, _]) (.cons rfl .nil) sp81 zl81 rfl ?_)
    refine GP.take rfl rfl (Does.box (T := 81) rfl rfl fun hb Nhb hhb nhb => ?_)
    refine GP.take rfl rfl (Does.assign rfl ?_)
    refine GP.keep [(0, _), (1, _), (5, _), (7, _)] (.cons rfl (.cons rfl (.cons rfl (.cons rfl .nil)))) ?_
    repeat refine G.seq ?_
    refine G.region [.loc, .loc, .loc] (.take 0 (.take 1 (.take 2 .done))) rfl ?_
    refine GP.take rfl rfl (Does.move rfl ?_)
    refine GP.take rfl rfl (Does.len rfl is34 ?_)
    refine GP.take rfl rfl (Does.move rfl ?_)
    refine GP.keep [(1, _), (5, _), (7, _), (25, _), (26, _), (27, _)] (.cons rfl (.cons rfl (.cons rfl (.cons rfl (.cons rfl (.cons rfl .nil)))))) ?_
    repeat refine G.seq ?_
    have hrep0 : HRep 81 84 row2 4 hb (.func (.func 45) #[] #[.pointer (some ⟨b5, 0, none⟩)]) [] 0 [(hb, cel 81 [(.func (.func 45) #[] #[.pointer (some ⟨b5, 0, none⟩)]), .slice none 0 0, .int .u64 0])] := ⟨_, [], rfl, .nil⟩
    refine G.block ?_
    refine G.loop (S := Nat × Chunks) (fun s => [(1, .int .i64 (m : Int)), (5, .pointer (some ⟨b5, 0, none⟩)), (7, .pointer (some ⟨hb, 0, none⟩)), (25, .slice (some ⟨b, o, none⟩) l.length cap), (26, .int .i64 (l.length : Int)), (27, .int .i64 (s.1 : Int))]) (fun s => s.2 ++ boxE b5 (.func (.func 40) #[] #[]) E (c + (lsRun cmp m l s.1).cn))
      (fun s => s.1 ≤ l.length ∧ HRep 81 84 row2 4 hb (.func (.func 45) #[] #[.pointer (some ⟨b5, 0, none⟩)]) (lsRun cmp m l s.1).items (lsRun cmp m l s.1).came s.2) (fun s => l.length - s.1) (0, [(hb, cel 81 [(.func (.func 45) #[] #[.pointer (some ⟨b5, 0, none⟩)]), .slice none 0 0, .int .u64 0])]) ⟨Nat.zero_le _, hrep0⟩ (.cons rfl (.cons rfl (.cons rfl (.cons rfl (.cons rfl (.cons rfl .nil)))))) .all ?_
    clear hrep0
    rintro ⟨i, C0⟩ ⟨hi, hrep⟩ IH
    simp only at hi hrep IH ⊢
    obtain ⟨hlen, hcm⟩ := lsRun_length cmp m hm1 l i
    unfold boxE
    repeat refine G.seq ?_
    refine G.region [.loc] (.take 0 .done) rfl ?_
    refine GP.take rfl rfl (Does.lss rfl rfl rfl ?_)
    refine GP.keep [(1, _), (5, _), (7, _), (25, _), (26, _), (27, _), (28, _)] (.cons rfl (.cons rfl (.cons rfl (.cons rfl (.cons rfl (.cons rfl (.cons rfl .nil))))))) ?_
    repeat refine G.seq ?_
    refine G.cond rfl ?_ ?_
    case refine_1 =>
      intro hz
      have hil : i < l.length := by omega
      have hgd : l.getD i (0, 0) = l[i] := by simp [hil]
      refine G.skip ?_
      repeat refine G.seq ?_
      refine G.block ?_
      repeat refine G.seq ?_
      refine G.region [.loc, .loc, .gen, .alloc, .loc, .gen] (.take 0 (.take 1 (.take 2 (.take 3 (.take 4 (.take 5 .done)))))) rfl ?_
      refine GP.take rfl rfl (Does.move rfl ?_)
      refine GP.take rfl rfl (Does.indexAddr i rfl rfl sl34 rfl hil ?_)
      refine GP.take rfl rfl (Does.loadA (vs := enc1 l[i]) rfl ag31 (At.old hE hpre i hil) ?_)
      refine GP.take rfl rfl (Does.alloc zl31 fun b9 Nb9 hb9 nb9 => ?_)
      refine GP.take rfl rfl (Does.assign rfl ?_)
      refine GP.take0 rfl (Does.storeA rfl rfl sz31 (by first | exact .head | exact .tail .head | exact .tail (.tail .head) | exact .tail (.tail (.tail .head)) | exact .tail (.tail (.tail (.tail .head))) | exact .tail (.tail (.tail (.tail (.tail .head))))) (.cons rfl .head (.cons rfl (.tail .head) .nil)) ?_)
      refine GP.keep [(1, _), (5, _), (7, _), (8, _), (9, _), (25, _), (26, _), (27, _)] (.cons rfl (.cons rfl (.cons rfl (.cons rfl (.cons rfl (.cons rfl (.cons rfl (.cons rfl .nil)))))))) ?_
      repeat refine G.seq ?_
      refine G.block ?_
      refine G.join (S := Chunks) (fun _ => [(1, .int .i64 (m : Int)), (5, .pointer (some ⟨b5, 0, none⟩)), (7, .pointer (some ⟨hb, 0, none⟩)), (25, .slice (some ⟨b, o, none⟩) l.length cap), (26, .int .i64 (l.length : Int)), (27, .int .i64 (i : Int))]) (fun C1 => C1 ++ boxE b5 (.func (.func 40) #[] #[]) E (c + (lsRun cmp m l (i + 1)).cn)) (fun C1 => HRep 81 84 row2 4 hb (.func (.func 45) #[] #[.pointer (some ⟨b5, 0, none⟩)]) (lsRun cmp m l (i + 1)).items (lsRun cmp m l (i + 1)).came C1) ?_ fun key => ?_
      · intro C1 hrep1
        refine G.inBlock ?_
        refine G.inBlock ?_
        repeat refine G.seq ?_
        refine G.region [.loc, .loc] (.take 0 (.take 1 .done)) rfl ?_
        refine GP.take rfl rfl (Does.add rfl rfl (r := ((i + 1 : Nat) : Int)) (wrc_i64 (by omega) (by omega) (by omega)) ?_)
        refine GP.take rfl rfl (Does.move rfl ?_)
        refine GP.keep [(1, _), (5, _), (7, _), (25, _), (26, _), (27, _)] (.cons rfl (.cons rfl (.cons rfl (.cons rfl (.cons rfl (.cons rfl .nil)))))) ?_
        exact IH (i + 1, C1) ⟨hil, hrep1⟩ (by simp only; omega)
      simp only [lsRun, hgd] at key
      unfold boxE at key
      repeat refine G.seq ?_
      refine G.region [.loc, .loc, .loc, .loc] (.take 0 (.take 1 (.take 2 (.take 3 .done)))) rfl ?_
      refine GP.take rfl rfl (Does.move rfl ?_)
      refine GP.take rfl rfl (Does.move rfl ?_)
      refine GP.take rfl rfl (Does.lss rfl rfl rfl ?_)
      refine GP.take rfl rfl (Does.assign rfl ?_)
      refine GP.keep [(1, _), (5, _), (7, _), (8, _), (9, _), (25, _), (26, _), (27, _), (32, _)] (.cons rfl (.cons rfl (.cons rfl (.cons rfl (.cons rfl (.cons rfl (.cons rfl (.cons rfl (.cons rfl .nil))))))))) ?_
      repeat refine G.seq ?_
      refine G.cond rfl ?_ ?_
      · intro him
        have him : i < m := by omega
        simp only [lsStep, if_pos him] at key
        repeat refine G.seq ?_
        refine G.region [.loc, .gen, .loc, .gen, .loc, .alloc, .gen] (.take 0 (.take 1 (.take 2 (.take 3 (.take 4 (.take 5 (.take 6 .done))))))) rfl ?_
        refine GP.take rfl rfl (Does.move rfl ?_)
        refine GP.take rfl rfl (Does.loadA (vs := enc1 l[i]) rfl ag31 (RowIn.own (by first | exact .head _ | exact .tail _ (.head _) | exact .tail _ (.tail _ (.head _)) | exact .tail _ (.tail _ (.tail _ (.head _))) | exact .tail _ (.tail _ (.tail _ (.tail _ (.head _)))) | exact .tail _ (.tail _ (.tail _ (.tail _ (.tail _ (.head _)))))) rfl) ?_)
        refine GP.take rfl rfl (Does.move rfl ?_)
        refine GP.take rfl rfl (Does.conv rfl Try.underlying22 ⟨_, Try.underlying3⟩ (wr_u64 (by omega) (by omega)) ?_)
        refine GP.take rfl rfl (Does.build (r := [_, _, _]) (.cons rfl (.cons rfl .nil)) sp73 zl73 rfl ?_)
        refine GP.take rfl rfl (Does.buildSlice (r := [_, _, _]) (.cons rfl .nil) sl69 zl73 (by decide) rfl fun b41 N41 h41 n41 => ?_)
        refine GP.take rfl rfl (Does.callP [(b41, cel 73 (enc2 (l[i], i))), (b9, cel 31 (enc1 l[i]))] (C0 ++ boxE b5 (.func (.func 40) #[] #[]) E (c + (lsRun cmp m l i).cn)) (.cons rfl (.cons rfl .nil)) cb46 (by classical exact List.perm_iff_count.2 fun q => by simp only [enc1, enc2, boxE, List.append_eq, List.nil_append, List.cons_append, List.count_append, List.count_cons, List.count_nil] <;> omega) (push2 (lst1_ok hc b5) hb (lsRun cmp m l i).items (lsRun cmp m l i).came C0 hrep (c + (lsRun cmp m l i).cn) [(l[i], i)] (some ⟨b41, 0, none⟩) 1 b41 0 (fun _ => rfl) (fun _ hq => n41 (by simp only [boxE, List.map_append, List.map_cons, List.mem_append, List.mem_cons] at hq ⊢; simp only [hq, or_true])) (by simp; omega) (by simp; omega)) (fun w hs q u hq => RowIn.own (o := 0) (vs := enc2 (l[i], i)) (l := enc2 (l[i], i)) (.head _) rfl w hs q u (by simpa using hq)) ?_)
        rintro _ _ ⟨rfl, C1, hrep1, rfl⟩
        refine ⟨(b41, cel 73 (enc2 (l[i], i))) :: (b9, cel 31 (enc1 l[i])) :: (C1 ++ ((b5, cel 32 [(.func (.func 40) #[] #[])]) :: E (c + (lsRun cmp m l i).cn + (pushF (cmpL cmp) (lsRun cmp m l i).items (lsRun cmp m l i).came [(l[i], i)]).2.2))), (by classical exact List.perm_iff_count.2 fun q => by simp only [enc1, boxE, List.append_eq, List.nil_append, List.cons_append, List.count_append, List.count_cons, List.count_nil] <;> omega), ?_⟩
        refine GP.keep [(1, _), (5, _), (7, _), (25, _), (26, _), (27, _)] (.cons rfl (.cons rfl (.cons rfl (.cons rfl (.cons rfl (.cons rfl .nil)))))) ?_
        rw [Nat.add_assoc]
        exact G.sub (key C1 hrep1) .split2
      intro him
      have him : ¬ i < m := by omega
      simp only [lsStep, if_neg him] at key
      repeat refine G.seq ?_
      have hitne : (lsRun cmp m l i).items ≠ [] := List.length_pos_iff.1 (by omega)
      have hitp : 0 < (lsRun cmp m l i).items.length := by omega
      obtain ⟨ib, icap, sp, rfl, hicap, hisp⟩ := hrep.full hitne
      simp only [List.cons_append, List.nil_append]
      refine G.draw [.load, .load, .loc, .loc, .loc, .load, .loc, .loc, .loc, .load, .gen, .loc, .loc] (.take 2 (.take 3 (.take 4 (.take 0 (.take 1 (.take 5 (.take 6 (.take 7 (.take 8 (.take 9 (.alt 10 (.take 11 (.take 12 .done)) .stop))))))))))) (by exact mixed) (by kernel_rfl) ?_
      intro N hN0 hN
      refine GP.take rfl rfl (Does.move rfl ?_)
      refine GP.take rfl rfl (Does.nilCheck rfl ?_)
      refine GP.take rfl rfl (Does.fieldAddr rfl fo81_1 ?_)
      refine GP.take rfl rfl (Does.load1N rfl ft32 (by first | exact hN _ (.head _) | exact hN _ (.tail _ (.head _)) | exact hN _ (.tail _ (.tail _ (.head _))) | exact hN _ (.tail _ (.tail _ (.tail _ (.head _)))) | exact hN _ (.tail _ (.tail _ (.tail _ (.tail _ (.head _))))) | exact hN _ (.tail _ (.tail _ (.tail _ (.tail _ (.tail _ (.head _)))))) | exact hN _ (.tail _ (.tail _ (.tail _ (.tail _ (.tail _ (.tail _ (.head _)))))))) (CellIn.own (by first | exact .head _ | exact .tail _ (.head _) | exact .tail _ (.tail _ (.head _)) | exact .tail _ (.tail _ (.tail _ (.head _))) | exact .tail _ (.tail _ (.tail _ (.tail _ (.head _)))) | exact .tail _ (.tail _ (.tail _ (.tail _ (.tail _ (.head _)))))) rfl) ?_)
      refine GP.take rfl rfl (Does.loadAN (vs := enc1 l[i]) rfl ag31 (by first | exact hN _ (.head _) | exact hN _ (.tail _ (.head _)) | exact hN _ (.tail _ (.tail _ (.head _))) | exact hN _ (.tail _ (.tail _ (.tail _ (.head _)))) | exact hN _ (.tail _ (.tail _ (.tail _ (.tail _ (.head _))))) | exact hN _ (.tail _ (.tail _ (.tail _ (.tail _ (.tail _ (.head _)))))) | exact hN _ (.tail _ (.tail _ (.tail _ (.tail _ (.tail _ (.tail _ (.head _)))))))) (RowIn.own (by first | exact .head _ | exact .tail _ (.head _) | exact .tail _ (.tail _ (.head _)) | exact .tail _ (.tail _ (.tail _ (.head _))) | exact .tail _ (.tail _ (.tail _ (.tail _ (.head _)))) | exact .tail _ (.tail _ (.tail _ (.tail _ (.tail _ (.head _)))))) rfl) ?_)
      refine GP.take rfl rfl (Does.load1N rfl ft79 (by first | exact hN _ (.head _) | exact hN _ (.tail _ (.head _)) | exact hN _ (.tail _ (.tail _ (.head _))) | exact hN _ (.tail _ (.tail _ (.tail _ (.head _)))) | exact hN _ (.tail _ (.tail _ (.tail _ (.tail _ (.head _))))) | exact hN _ (.tail _ (.tail _ (.tail _ (.tail _ (.tail _ (.head _)))))) | exact hN _ (.tail _ (.tail _ (.tail _ (.tail _ (.tail _ (.tail _ (.head _)))))))) (CellIn.own (by first | exact .head _ | exact .tail _ (.head _) | exact .tail _ (.tail _ (.head _)) | exact .tail _ (.tail _ (.tail _ (.head _))) | exact .tail _ (.tail _ (.tail _ (.tail _ (.head _)))) | exact .tail _ (.tail _ (.tail _ (.tail _ (.tail _ (.head _)))))) rfl) ?_)
      refine GP.take rfl rfl (Does.indexAddr 0 rfl rfl sl79 rfl hitp ?_)
      refine GP.take rfl rfl (Does.fieldAddr rfl fo84_0 ?_)
      refine GP.take rfl rfl (Does.fieldAddr rfl fo73_0 ?_)
      refine GP.take rfl rfl (Does.loadAN (vs := enc1 (firstF (lsRun cmp m l i).items).1) rfl ag31 (by first | exact hN _ (.head _) | exact hN _ (.tail _ (.head _)) | exact hN _ (.tail _ (.tail _ (.head _))) | exact hN _ (.tail _ (.tail _ (.tail _ (.head _)))) | exact hN _ (.tail _ (.tail _ (.tail _ (.tail _ (.head _))))) | exact hN _ (.tail _ (.tail _ (.tail _ (.tail _ (.tail _ (.head _)))))) | exact hN _ (.tail _ (.tail _ (.tail _ (.tail _ (.tail _ (.tail _ (.head _)))))))) (RowIn.own (l := (lsRun cmp m l i).items.flatMap row2 ++ sp) (by first | exact .head _ | exact .tail _ (.head _) | exact .tail _ (.tail _ (.head _)) | exact .tail _ (.tail _ (.tail _ (.head _))) | exact .tail _ (.tail _ (.tail _ (.tail _ (.head _)))) | exact .tail _ (.tail _ (.tail _ (.tail _ (.tail _ (.head _)))))) (by have h2 := congrArg (List.take 2) (row2_el (lsRun cmp m l i).items sp 0 hitp); rw [List.take_take] at h2; simpa [firstF] using h2)) ?_)
      refine GP.one ?_
      refine GP.take rfl rfl (Does.callS [(b9, cel 31 (enc1 l[i])), (hb, cel 81 [(.func (.func 45) #[] #[.pointer (some ⟨b5, 0, none⟩)]), .slice (some ⟨ib, 0, none⟩) (lsRun cmp m l i).items.length icap, .int .u64 ((lsRun cmp m l i).came : Int)]), (ib, cel 84 ((lsRun cmp m l i).items.flatMap row2 ++ sp)), (b5, cel 32 [(.func (.func 40) #[] #[])])] (E (c + (lsRun cmp m l i).cn)) rfl (.cons rfl (.cons rfl .nil)) hc.1 rfl rfl (hc.2 (c + (lsRun cmp m l i).cn) l[i] (firstF (lsRun cmp m l i).items).1) (fun _ _ => trivial) ?_)
      rintro _ _ ⟨rfl, rfl⟩
      simp only [List.cons_append, List.nil_append]
      refine GP.take rfl rfl (Does.lss rfl rfl rfl ?_)
      refine GP.take rfl rfl (Does.assign rfl ?_)
      refine GP.keep [(1, _), (5, _), (7, _), (8, _), (9, _), (25, _), (26, _), (27, _), (43, _)] (.cons rfl (.cons rfl (.cons rfl (.cons rfl (.cons rfl (.cons rfl (.cons rfl (.cons rfl (.cons rfl .nil))))))))) ?_
      repeat refine G.seq ?_
      refine G.cond rfl ?_ ?_
      · intro hc0
        simp only [if_pos hc0] at key
        repeat refine G.seq ?_
        refine G.region [.loc, .gen, .loc, .gen, .loc, .gen] (.take 0 (.take 1 (.take 2 (.take 3 (.take 4 (.take 5 .done)))))) rfl ?_
        refine GP.take rfl rfl (Does.move rfl ?_)
        refine GP.take rfl rfl (Does.loadA (vs := enc1 l[i]) rfl ag31 (RowIn.own (by first | exact .head _ | exact .tail _ (.head _) | exact .tail _ (.tail _ (.head _)) | exact .tail _ (.tail _ (.tail _ (.head _))) | exact .tail _ (.tail _ (.tail _ (.tail _ (.head _)))) | exact .tail _ (.tail _ (.tail _ (.tail _ (.tail _ (.head _)))))) rfl) ?_)
        refine GP.take rfl rfl (Does.move rfl ?_)
        refine GP.take rfl rfl (Does.conv rfl Try.underlying22 ⟨_, Try.underlying3⟩ (wr_u64 (by omega) (by omega)) ?_)
        refine GP.take rfl rfl (Does.build (r := [_, _, _]) (.cons rfl (.cons rfl .nil)) sp73 zl73 rfl ?_)
        refine GP.take rfl rfl (Does.callP [(b9, cel 31 (enc1 l[i]))] ([(hb, cel 81 [(.func (.func 45) #[] #[.pointer (some ⟨b5, 0, none⟩)]), .slice (some ⟨ib, 0, none⟩) (lsRun cmp m l i).items.length icap, .int .u64 ((lsRun cmp m l i).came : Int)]), (ib, cel 84 ((lsRun cmp m l i).items.flatMap row2 ++ sp))] ++ boxE b5 (.func (.func 40) #[] #[]) E (c + (lsRun cmp m l i).cn + 1)) (.cons rfl (.cons rfl .nil)) cb47 (by classical exact List.perm_iff_count.2 fun q => by simp only [enc1, boxE, List.append_eq, List.nil_append, List.cons_append, List.count_append, List.count_cons, List.count_nil] <;> omega) (swap2 (lst1_ok hc b5) hb (lsRun cmp m l i).items (lsRun cmp m l i).came _ hrep (c + (lsRun cmp m l i).cn + 1) (l[i], i) (by omega) (by omega)) (fun _ _ => trivial) ?_)
        rintro _ _ ⟨rfl, C1, hrep1, rfl⟩
        refine ⟨(b9, cel 31 (enc1 l[i])) :: (C1 ++ ((b5, cel 32 [(.func (.func 40) #[] #[])]) :: E (c + (lsRun cmp m l i).cn + 1 + (swapF (cmpL cmp) (lsRun cmp m l i).items (lsRun cmp m l i).came (l[i], i)).2.2))), (by classical exact List.perm_iff_count.2 fun q => by simp only [enc1, boxE, List.append_eq, List.nil_append, List.cons_append, List.count_append, List.count_cons, List.count_nil] <;> omega), ?_⟩
        refine GP.keep [(1, _), (5, _), (7, _), (25, _), (26, _), (27, _)] (.cons rfl (.cons rfl (.cons rfl (.cons rfl (.cons rfl (.cons rfl .nil)))))) ?_
        have e1 : c + (lsRun cmp m l i).cn + 1 + (swapF (cmpL cmp) (lsRun cmp m l i).items (lsRun cmp m l i).came (l[i], i)).2.2 = c + ((lsRun cmp m l i).cn + 1 + (swapF (cmpL cmp) (lsRun cmp m l i).items (lsRun cmp m l i).came (l[i], i)).2.2) := by omega
        rw [e1]
        exact G.sub (key C1 hrep1) .split1
      · intro hc0
        simp only [if_neg hc0] at key
        refine G.skip ?_
        rw [Nat.add_assoc]
        exact (G.sub (key _ hrep) .split1).weak (.cons rfl (.cons rfl (.cons rfl (.cons rfl (.cons rfl (.cons rfl .nil))))))
    intro hz
    obtain rfl : i = l.length := by omega
    clear IH
    refine G.exit rfl ?_
    repeat refine G.seq ?_
    refine G.region [.loc, .gen, .loc] (.take 0 (.take 1 (.take 2 .done))) rfl ?_
    refine GP.take rfl rfl (Does.move rfl ?_)
    refine GP.take rfl rfl (Does.makeSlice (l := m) (c := m) rfl rfl si34 zl31 rfl (by decide) (Nat.le_refl _) (by omega) (by omega) fun bm Nm hbm nm => ?_)
    rw [zeros_flat]
    refine GP.take rfl rfl (Does.assign rfl ?_)
    refine GP.keep [(1, _), (7, _), (10, _)] (.cons rfl (.cons rfl (.cons rfl .nil))) ?_
    repeat refine G.seq ?_
    refine G.region [.loc, .loc, .loc] (.take 0 (.take 1 (.take 2 .done))) rfl ?_
    refine GP.take rfl rfl (Does.move rfl ?_)
    refine GP.take rfl rfl (Does.sub rfl rfl (r := ((m : Int) - 1)) (wr_i64 (by omega) (by omega)) ?_)
    refine GP.take rfl rfl (Does.assign rfl ?_)
    refine GP.keep [(7, _), (10, _), (11, _)] (.cons rfl (.cons rfl (.cons rfl .nil))) ?_
    have hmin : min l.length m = m := by omega
    rw [hmin] at hlen
    repeat refine G.seq ?_
    refine G.block ?_
    refine G.loop (S := LpS) (fun s => [(7, .pointer (some ⟨hb, 0, none⟩)), (10, .slice (some ⟨bm, 0, none⟩) m m), (11, .int .i64 ((s.items.length : Int) - 1))]) (fun s => (bm, cel 31 ((List.replicate s.items.length ((0 : Int), (0 : Int)) ++ s.acc).flatMap enc1)) :: (s.C0 ++ boxE b5 (.func (.func 40) #[] #[]) E s.cn))
      (fun s => HRep 81 84 row2 4 hb (.func (.func 45) #[] #[.pointer (some ⟨b5, 0, none⟩)]) s.items (lsRun cmp m l l.length).came s.C0 ∧ s.items.length + s.acc.length = m ∧ ((popsF (cmpL cmp) s.items.length s.items).1.map (·.1)).reverse ++ s.acc = leastF cmp l m ∧ s.cn + (popsF (cmpL cmp) s.items.length s.items).2 = c + leastC cmp l m) (fun s => s.items.length)
      ⟨(lsRun cmp m l l.length).items, C0, c + (lsRun cmp m l l.length).cn, []⟩ ⟨hrep, by simp only [List.length_nil]; omega, by simp only [hlen, List.append_nil]; rfl, by simp only [hlen]; unfold leastC; rw [if_neg (by omega)]; omega⟩ (by simp only [hlen]; exact (.cons rfl (.cons rfl (.cons rfl .nil)))) (by simp only [hlen, List.append_nil]; exact .all) ?_
    rintro ⟨items, C1, cn, acc⟩ ⟨h1, h2, h3, h4⟩ IH
    simp only at h1 h2 h3 h4 IH ⊢
    unfold boxE
    repeat refine G.seq ?_
    refine G.region [.loc, .loc] (.take 0 (.take 1 .done)) rfl ?_
    refine GP.take rfl rfl (Does.move rfl ?_)
    refine GP.take rfl rfl (Does.geq rfl rfl rfl ?_)
    refine GP.keep [(7, _), (10, _), (11, _), (68, _)] (.cons rfl (.cons rfl (.cons rfl (.cons rfl .nil)))) ?_
    repeat refine G.seq ?_
    refine G.cond rfl ?_ ?_
    case refine_2 =>
      intro hz
      obtain rfl : items = [] := List.eq_nil_of_length_eq_zero (by omega)
      refine G.exit rfl ?_
      repeat refine G.seq ?_
      refine G.region [.loc, .loc] (.take 0 (.take 1 .done)) rfl ?_
      refine GP.take rfl rfl (Does.move rfl ?_)
      refine GP.take rfl rfl (Does.assign rfl ?_)
      refine GP.keep [(6, _)] (.cons rfl .nil) ?_
      simp only [List.length_nil, popsF, List.map_nil, List.reverse_nil, List.nil_append, Nat.add_zero, Nat.zero_add, List.replicate_zero] at h2 h3 h4 ⊢
      rw [h4, h3]
      refine G.dropP ((b5, cel 32 [(.func (.func 40) #[] #[])]) :: C1) (A := (bm, cel 31 ((leastF cmp l m).flatMap enc1)) :: E (c + leastC cmp l m)) (by classical exact List.perm_iff_count.2 fun q => by simp only [enc1, List.append_eq, List.nil_append, List.cons_append, List.count_append, List.count_cons, List.count_nil] <;> omega) ?_
      rw [h3] at h2
      exact fin_ret (fn := Try.f33) (R := []) Try.func33 (res1 rfl rfl) .all ⟨[(bm, cel 31 ((leastF cmp l m).flatMap enc1))], by show Owns 31 2 _ (leastF cmp l m).length _ _ _; rw [h2]; exact Owns.blk (sp := []) (by rw [List.append_nil]; exact .head) (by rw [flat_length enc1 2 enc1_length, h2]) (by simp) (Nat.le_refl _), rfl⟩
    intro hz
    have hpos : 0 < items.length := by omega
    obtain ⟨k, hk⟩ : ∃ k, items.length = k + 1 := ⟨items.length - 1, by omega⟩
    have hpl : (popF (cmpL cmp) items).1.length = k := by rw [popF_length]; omega
    refine G.skip ?_
    repeat refine G.seq ?_
    refine G.block ?_
    repeat refine G.seq ?_
    refine G.region [.loc, .gen, .loc, .loc, .loc, .alloc, .gen, .loc] (.take 0 (.take 1 (.take 2 (.take 3 (.take 4 (.take 5 (.take 6 (.take 7 .done)))))))) rfl ?_
    refine GP.take rfl rfl (Does.move rfl ?_)
    refine GP.take rfl rfl (Does.callP [(bm, cel 31 ((List.replicate items.length ((0 : Int), (0 : Int)) ++ acc).flatMap enc1))] (C1 ++ boxE b5 (.func (.func 40) #[] #[]) E cn) (.cons rfl .nil) cb48 (by classical exact List.perm_iff_count.2 fun q => by simp only [boxE, List.append_eq, List.nil_append, List.cons_append, List.count_append, List.count_cons, List.count_nil] <;> omega) (pop2 (lst1_ok hc b5) hb items _ C1 h1 cn (by omega)) (fun _ _ => trivial) ?_)
    rintro _ _ ⟨rfl, C2, hrep2, rfl⟩
    refine ⟨(bm, cel 31 ((List.replicate items.length ((0 : Int), (0 : Int)) ++ acc).flatMap enc1)) :: (C2 ++ ((b5, cel 32 [(.func (.func 40) #[] #[])]) :: E (cn + (popF (cmpL cmp) items).2))), (by classical exact List.perm_iff_count.2 fun q => by simp only [boxE, List.append_eq, List.nil_append, List.cons_append, List.count_append, List.count_cons, List.count_nil] <;> omega), ?_⟩
    refine GP.take rfl rfl (Does.move rfl ?_)
    refine GP.take rfl rfl (Does.extract rfl rfl ?_)
    refine GP.take rfl rfl (Does.extract rfl rfl ?_)
    refine GP.take rfl rfl (Does.alloc zl73 fun b12 Nb12 hb12 nb12 => ?_)
    refine GP.take0 rfl (Does.storeA rfl rfl sz73 (by first | exact .head | exact .tail .head | exact .tail (.tail .head) | exact .tail (.tail (.tail .head)) | exact .tail (.tail (.tail (.tail .head))) | exact .tail (.tail (.tail (.tail (.tail .head))))) (.cons rfl .head (.cons rfl (.tail .head) (.cons rfl (.tail (.tail .head)) .nil))) ?_)
    refine GP.take rfl rfl (Does.assign rfl ?_)
    refine GP.keep [(7, _), (10, _), (11, _), (12, _)] (.cons rfl (.cons rfl (.cons rfl (.cons rfl .nil)))) ?_
    repeat refine G.seq ?_
    have hset : SetRow (enc1 (firstF items).1) ((List.replicate items.length ((0 : Int), (0 : Int)) ++ acc).flatMap enc1) (0 + k * 2) ((List.replicate k ((0 : Int), (0 : Int)) ++ (firstF items).1 :: acc).flatMap enc1) := by
      have h9 := flat_set enc1 2 enc1_length enc1_one (List.replicate items.length ((0 : Int), (0 : Int)) ++ acc) [] k (by simp; omega) (firstF items).1
      rw [List.append_nil, List.append_nil] at h9
      have e : (List.replicate items.length ((0 : Int), (0 : Int)) ++ acc).set k (firstF items).1 = List.replicate k ((0 : Int), (0 : Int)) ++ (firstF items).1 :: acc := by
        rw [hk, List.replicate_succ', List.append_assoc, List.set_append_right _ _ (by simp)]
        simp
      rw [e] at h9
      exact h9
    refine G.region [.loc, .loc, .loc, .gen, .loc, .gen] (.take 0 (.take 1 (.take 2 (.take 3 (.take 4 (.take 5 .done)))))) rfl ?_
    refine GP.take rfl rfl (Does.move rfl ?_)
    refine GP.take rfl rfl (Does.move rfl ?_)
    refine GP.take rfl rfl (Does.fieldAddr rfl fo73_0 ?_)
    refine GP.take rfl rfl (Does.loadA (vs := enc1 (firstF items).1) rfl ag31 (RowIn.own (by first | exact .head _ | exact .tail _ (.head _) | exact .tail _ (.tail _ (.head _)) | exact .tail _ (.tail _ (.tail _ (.head _))) | exact .tail _ (.tail _ (.tail _ (.tail _ (.head _)))) | exact .tail _ (.tail _ (.tail _ (.tail _ (.tail _ (.head _)))))) rfl) ?_)
    refine GP.take rfl rfl (Does.indexAddr k rfl rfl sl34 (by omega) (by omega) ?_)
    refine GP.take0 rfl (Does.storeA rfl rfl sz31 (.tail .head) hset ?_)
    refine GP.keep [(7, _), (10, _), (11, _)] (.cons rfl (.cons rfl (.cons rfl .nil))) ?_
    refine G.inBlock ?_
    repeat refine G.seq ?_
    refine G.region [.loc, .loc, .loc] (.take 0 (.take 1 (.take 2 .done))) rfl ?_
    refine GP.take rfl rfl (Does.move rfl ?_)
    refine GP.take rfl rfl (Does.sub rfl rfl (r := ((k : Int) - 1)) (by rw [hk]; exact wrc_i64 (by omega) (by omega) (by omega)) ?_)
    refine GP.take rfl rfl (Does.assign rfl ?_)
    refine GP.keep [(7, _), (10, _), (11, _)] (.cons rfl (.cons rfl (.cons rfl .nil))) ?_
    rw [hk] at h3 h4
    simp only [popsF] at h3 h4
    have hIH := IH ⟨(popF (cmpL cmp) items).1, C2, cn + (popF (cmpL cmp) items).2, (firstF items).1 :: acc⟩ ⟨hrep2, by simp only [List.length_cons]; omega, by simp only [hpl]; rw [← h3]; simp, by simp only [hpl]; omega⟩ (by simp only; omega)
    simp only [hpl] at hIH
    unfold boxE at hIH
    exact G.sub hIH .split1
end Go.Proofs.Ytcgenmfnlocbbaa.T
