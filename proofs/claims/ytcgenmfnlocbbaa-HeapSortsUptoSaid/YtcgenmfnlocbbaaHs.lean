/- 'HeapSorts': whatever is pushed and swapped leaves the heap in order, equal things in the order of coming, none lost and none twice; Sort and Least of the same list answer likewise. For every two lists of keys of at most 1048576 values together. -/
import Derived.Test.YtcgenmfnlocbbaaRows
import Derived.Test.YtcgenmfnlocbbaaHq
namespace Go.Proofs.Ytcgenmfnlocbbaa.T
open Go.Lg Go.Hp Go.RowKit
theorem fo31_1 : fieldOff Try.prog 31 1 = some 1 := by kernel_rfl
theorem gd28 : Try.prog.eqGuardType Try.prog.depth 28 = false := by kernel_rfl
theorem is48 : isSlice Try.prog 48 = true := by kernel_rfl
theorem sl48 : sliceElem Try.prog 48 = some (3, 1) := by kernel_rfl
theorem zl3 : zeroL Try.prog 3 = some [.int .i64 0] := by kernel_rfl
theorem own : ownKnob Try.prog.godebug = none := by kernel_rfl
theorem laid : laidOutB Try.prog = true := by kernel_rfl
theorem maps : mapsRowed Try.prog = true := by kernel_rfl
theorem full : ∀ t e, t < Try.prog.types.size → Try.prog.underlying t = some (.slice e) → 0 < Try.prog.cellsOf e := slices_full_of Try.prog (by kernel_rfl)

structure SS where
  inn : List (Int × Int)
  g : List Bool
  items : List ((Int × Int) × Nat)
  C0 : Chunks
  s6 : Value
  C6 : Chunks
  s7 : Value
  C7 : Chunks
  i : Nat
structure SP where
  g : List Bool
  items : List ((Int × Int) × Nat)
  C0 : Chunks
  s7 : Value
  C7 : Chunks
  out : List (Int × Int)
  s16 : Value
  C16 : Chunks
  i : Nat
theorem sorts_walk (ks : List Int) (ad : Option Addr) (cap b o : Nat) (had : ks ≠ [] → ad = some ⟨b, o, none⟩) (ws : List Int) (ad1 : Option Addr) (cap1 b1 o1 : Nat) (had1 : ws ≠ [] → ad1 = some ⟨b1, o1, none⟩) (hbulk : ks.length + ws.length ≤ 1048576) :
    Ct Try.prog 10 [.slice ad ks.length cap, .slice ad1 ws.length cap1].toArray (fun w => At w b o (ks.flatMap (fun x => [Value.int .i64 x])) ∧ At w b1 o1 (ws.flatMap (fun x => [Value.int .i64 x]))) [] (fun v C' => v = .bool true ∧ C' = []) := by
  refine ct_of_walk (fn := Try.f10) Try.func10 rfl rfl fun w0 hpre hst => ?_
  clear hst
  repeat refine G.seq ?_
  obtain ⟨hks, hws⟩ := hpre
  refine G.region [.loc] (.take 0 .done) rfl ?_
  refine GP.take rfl rfl (Does.assign rfl ?_)
  refine GP.keep [(0, _), (1, _), (4, _)] (.cons rfl (.cons rfl (.cons rfl .nil))) ?_
  repeat refine G.seq ?_
  refine G.region [.gen, .loc] (.take 0 (.take 1 .done)) rfl ?_
  refine GP.take rfl rfl (Does.callN (.cons rfl .nil) cb13 (new_ct 14 #[] #[]) (fun _ _ => trivial) ?_)
  rintro _ C0 ⟨hb, rfl, hrep⟩
  refine GP.take rfl rfl (Does.assign rfl ?_)
  refine GP.keep [(0, _), (1, _), (5, _)] (.cons rfl (.cons rfl (.cons rfl .nil))) ?_
  repeat refine G.seq ?_
  refine G.region [.loc, .loc] (.take 0 (.take 1 .done)) rfl ?_
  refine GP.take rfl rfl (Does.move rfl ?_)
  refine GP.take rfl rfl (Does.eqlNil rfl rfl Try.underlying28 gd28 rfl ?_)
  refine GP.keep [(0, _), (1, _), (5, _), (22, _)] (.cons rfl (.cons rfl (.cons rfl (.cons rfl .nil)))) ?_
  repeat refine G.seq ?_
  refine G.condF rfl ?_
  refine G.skip ?_
  repeat refine G.seq ?_
  refine G.region [.loc] (.take 0 .done) rfl ?_
  refine GP.take rfl rfl (Does.assign rfl ?_)
  refine GP.keep [(0, _), (1, _), (5, _), (6, _)] (.cons rfl (.cons rfl (.cons rfl (.cons rfl .nil)))) ?_
  repeat refine G.seq ?_
  refine G.region [.loc] (.take 0 .done) rfl ?_
  refine GP.take rfl rfl (Does.assign rfl ?_)
  refine GP.keep [(0, _), (1, _), (5, _), (6, _), (7, _)] (.cons rfl (.cons rfl (.cons rfl (.cons rfl (.cons rfl .nil))))) ?_
  repeat refine G.seq ?_
  refine G.region [.loc] (.take 0 .done) rfl ?_
  refine GP.take rfl rfl (Does.assign rfl ?_)
  refine GP.keep [(0, _), (1, _), (5, _), (6, _), (7, _), (8, _)] (.cons rfl (.cons rfl (.cons rfl (.cons rfl (.cons rfl (.cons rfl .nil)))))) ?_
  repeat refine G.seq ?_
  refine G.block ?_
  refine G.dropP [] (A := [] ++ ([] ++ C0)) (by classical exact List.perm_iff_count.2 fun q => by simp only [List.count_append, List.count_nil, List.nil_append] <;> omega) ?_
  refine G.loop (S := SS) (fun s => [(0, .slice ad ks.length cap), (1, .slice ad1 ws.length cap1), (5, .pointer (some ⟨hb, 0, none⟩)), (6, s.s6), (7, s.s7), (8, .int .i64 (s.i : Int))]) (fun s => s.C6 ++ (s.C7 ++ s.C0))
    (fun s => SInv s.inn s.g s.items ∧ HRep 71 73 row1 3 hb (.func (.func 14) #[] #[]) s.items s.inn.length s.C0 ∧ LRep s.inn s.s6 s.C6 ∧ BRep s.g s.s7 s.C7 ∧ s.inn.length = s.i ∧ s.i ≤ ks.length ∧ s.items = (pushF cmpK [] 0 s.inn).1) (fun s => ks.length - s.i)
    ⟨[], [], [], C0, _, [], _, [], 0⟩ ⟨SInv.nil, hrep, LRep.nil, BRep.nil, rfl, Nat.zero_le _, rfl⟩ (.cons rfl (.cons rfl (.cons rfl (.cons rfl (.cons rfl (.cons rfl .nil)))))) .all ?_
  clear hrep C0
  rintro ⟨inn, g, items, C0, s6, C6, s7, C7, i⟩ ⟨hS, hrep, h6, h7, hil, hi, hit⟩ IH
  simp only at hS hrep h6 h7 hil hi hit IH ⊢
  rw [hil] at hrep
  repeat refine G.seq ?_
  refine G.region [.loc, .loc, .loc, .loc] (.take 0 (.take 1 (.take 2 (.take 3 .done)))) rfl ?_
  refine GP.take rfl rfl (Does.move rfl ?_)
  refine GP.take rfl rfl (Does.move rfl ?_)
  refine GP.take rfl rfl (Does.len rfl is48 ?_)
  refine GP.take rfl rfl (Does.lss rfl rfl rfl ?_)
  refine GP.keep [(0, _), (1, _), (5, _), (6, _), (7, _), (8, _), (26, _)] (.cons rfl (.cons rfl (.cons rfl (.cons rfl (.cons rfl (.cons rfl (.cons rfl .nil))))))) ?_
  repeat refine G.seq ?_
  refine G.cond rfl ?_ ?_
  case refine_1 =>
    intro hz
    have hik : i < ks.length := by omega
    have hne : ks ≠ [] := by rintro rfl; simp at hik
    obtain rfl := had hne
    refine G.skip ?_
    repeat refine G.seq ?_
    refine G.block ?_
    repeat refine G.seq ?_
    refine G.region [.loc, .loc, .loc, .gen, .loc, .loc, .alloc, .gen] (.take 0 (.take 1 (.take 2 (.take 3 (.take 4 (.take 5 (.take 6 (.take 7 .done)))))))) rfl ?_
    refine GP.take rfl rfl (Does.move rfl ?_)
    refine GP.take rfl rfl (Does.move rfl ?_)
    refine GP.take rfl rfl (Does.indexAddr i rfl rfl sl48 rfl hik ?_)
    refine GP.take rfl rfl (Does.load1 rfl ft3 (CellIn.old (by simp) (hks (i * 1 + 0) _ (flat_get (fun x => [Value.int .i64 x]) 1 (fun _ => rfl) ks i hik 0 _ rfl))) ?_)
    refine GP.take rfl rfl (Does.move rfl ?_)
    refine GP.take rfl rfl (Does.build (r := [_, _]) (.cons rfl (.cons rfl .nil)) sp31 zl31 rfl ?_)
    refine GP.take rfl rfl (Does.alloc zl31 fun b9 Nb9 hb9 nb9 => ?_)
    refine GP.take0 rfl (Does.storeA rfl rfl sz31 (by first | exact .head | exact .tail .head | exact .tail (.tail .head) | exact .tail (.tail (.tail .head)) | exact .tail (.tail (.tail (.tail .head))) | exact .tail (.tail (.tail (.tail (.tail .head))))) (.cons rfl .head (.cons rfl (.tail .head) .nil)) ?_)
    refine GP.keep [(0, _), (1, _), (5, _), (6, _), (7, _), (8, _), (9, _)] (.cons rfl (.cons rfl (.cons rfl (.cons rfl (.cons rfl (.cons rfl (.cons rfl .nil))))))) ?_
    repeat refine G.seq ?_
    refine G.region [.loc, .gen, .alloc, .gen, .loc] (.take 0 (.take 1 (.take 2 (.take 3 (.take 4 .done))))) rfl ?_
    refine GP.take rfl rfl (Does.move rfl ?_)
    refine GP.take rfl rfl (Does.loadA (vs := [.int .i64 ks[i], .int .i64 (i : Int)]) rfl ag31 (RowIn.own (.head _) rfl) ?_)
    refine GP.take rfl rfl (Does.buildSlice (r := [_, _]) (.cons rfl .nil) sl34 zl31 (by decide) rfl fun b37 N37 h37 n37 => ?_)
    refine GP.take rfl rfl (Does.appendT rfl (l := inn) (xs := [((ks[i], (i : Int)))]) (mc := 1) [(b37, cel 31 [.int .i64 ks[i], .int .i64 (i : Int)]), (b9, cel 31 [.int .i64 ks[i], .int .i64 (i : Int)])] C6 (C7 ++ C0) rfl rfl rfl h6 (fun _ => ⟨b37, 0, rfl, RowIn.own (.head _) rfl⟩) (by simp only [List.length_cons, List.length_nil]; omega) ?_)
    intro s6n C6n h6n
    refine GP.take rfl rfl (Does.assign rfl ?_)
    refine GP.keep [(0, _), (1, _), (5, _), (6, _), (7, _), (8, _), (9, _)] (.cons rfl (.cons rfl (.cons rfl (.cons rfl (.cons rfl (.cons rfl (.cons rfl .nil))))))) ?_
    repeat refine G.seq ?_
    refine G.region [.loc, .alloc, .gen, .loc] (.take 0 (.take 1 (.take 2 (.take 3 .done)))) rfl ?_
    refine GP.take rfl rfl (Does.move rfl ?_)
    refine GP.take rfl rfl (Does.buildSlice (r := [_]) (.cons rfl .nil) sl67 bz4 (by decide) rfl fun b40 N40 h40 n40 => ?_)
    refine GP.take rfl rfl (Does.appendB rfl (l := g) (xs := [false]) (mc := 1) ((b40, cel 4 [.bool false]) :: (b37, cel 31 [.int .i64 ks[i], .int .i64 (i : Int)]) :: (b9, cel 31 [.int .i64 ks[i], .int .i64 (i : Int)]) :: C6n) C7 (C0) rfl rfl rfl h7 (fun _ => ⟨b40, 0, rfl, RowIn.own (.head _) rfl⟩) (by have := hS.gl; simp only [List.length_cons, List.length_nil]; omega) ?_)
    intro s7n C7n h7n
    refine GP.take rfl rfl (Does.assign rfl ?_)
    refine GP.keep [(0, _), (1, _), (5, _), (6, _), (7, _), (8, _), (9, _)] (.cons rfl (.cons rfl (.cons rfl (.cons rfl (.cons rfl (.cons rfl (.cons rfl .nil))))))) ?_
    repeat refine G.seq ?_
    have hcm : (pushF cmpK items i [((ks[i], (i : Int)))]).2.1 = (inn ++ [((ks[i], (i : Int)))]).length := by rw [(pushF_length cmpK _ items i).2]; simp [hil]
    refine G.region [.loc, .gen, .alloc, .gen] (.take 0 (.take 1 (.take 2 (.take 3 .done)))) rfl ?_
    refine GP.take rfl rfl (Does.move rfl ?_)
    refine GP.take rfl rfl (Does.loadA (vs := [.int .i64 ks[i], .int .i64 (i : Int)]) rfl ag31 (RowIn.own (.tail _ (.tail _ (.head _))) rfl) ?_)
    refine GP.take rfl rfl (Does.buildSlice (r := [_, _]) (.cons rfl .nil) sl34 zl31 (by decide) rfl fun b44 N44 h44 n44 => ?_)
    have hnot : b44 ∉ (C0 ++ []).map Prod.fst := fun hm => n44 (by simp only [List.map_append, List.map_cons, List.append_nil, List.cons_append, List.mem_cons, List.mem_append] at hm ⊢; simp only [hm, or_true])
    refine GP.take rfl rfl (Does.callP ((b44, cel 31 [.int .i64 ks[i], .int .i64 (i : Int)]) :: (b40, cel 4 [.bool false]) :: (b37, cel 31 [.int .i64 ks[i], .int .i64 (i : Int)]) :: (b9, cel 31 [.int .i64 ks[i], .int .i64 (i : Int)]) :: (C6n ++ C7n)) (C0 ++ []) (.cons rfl (.cons rfl .nil)) cb20 (by classical exact List.perm_iff_count.2 fun q => by simp only [List.count_append, List.count_cons, List.count_nil, List.cons_append] <;> omega) (push1 byK_ok hb items i C0 hrep 0 [((ks[i], (i : Int)))] (some ⟨b44, 0, none⟩) 1 b44 0 (fun _ => rfl) (fun _ => hnot) (by simp only [List.length_cons, List.length_nil]; have := hS.le; omega) (by simp only [List.length_cons, List.length_nil]; omega)) (fun w hs j u hj => RowIn.own (l := [.int .i64 ks[i], .int .i64 (i : Int)]) (vs := [((ks[i], (i : Int)))].flatMap enc1) (.head _) rfl w hs j u hj) ?_)
    rintro _ _ ⟨rfl, C1, hrep1, rfl⟩
    refine ⟨(b44, cel 31 [.int .i64 ks[i], .int .i64 (i : Int)]) :: (b40, cel 4 [.bool false]) :: (b37, cel 31 [.int .i64 ks[i], .int .i64 (i : Int)]) :: (b9, cel 31 [.int .i64 ks[i], .int .i64 (i : Int)]) :: (C6n ++ (C7n ++ C1)), (by classical exact List.perm_iff_count.2 fun q => by simp only [List.count_append, List.count_cons, List.count_nil, List.cons_append] <;> omega), ?_⟩
    refine GP.keep [(0, _), (1, _), (5, _), (6, _), (7, _), (8, _)] (.cons rfl (.cons rfl (.cons rfl (.cons rfl (.cons rfl (.cons rfl .nil)))))) ?_
    rw [hcm] at hrep1
    refine G.dropP [(b44, cel 31 [.int .i64 ks[i], .int .i64 (i : Int)]), (b40, cel 4 [.bool false]), (b37, cel 31 [.int .i64 ks[i], .int .i64 (i : Int)]), (b9, cel 31 [.int .i64 ks[i], .int .i64 (i : Int)])] (A := C6n ++ (C7n ++ C1)) (by classical exact List.perm_iff_count.2 fun q => by simp only [List.count_append, List.count_cons, List.count_nil] <;> omega) ?_
    refine G.inBlock ?_
    repeat refine G.seq ?_
    refine G.region [.loc, .loc, .loc] (.take 0 (.take 1 (.take 2 .done))) rfl ?_
    refine GP.take rfl rfl (Does.move rfl ?_)
    refine GP.take rfl rfl (Does.add rfl rfl (r := ((i + 1 : Nat) : Int)) (wrc_i64 (by omega) (by omega) (by omega)) ?_)
    refine GP.take rfl rfl (Does.assign rfl ?_)
    refine GP.keep [(0, _), (1, _), (5, _), (6, _), (7, _), (8, _)] (.cons rfl (.cons rfl (.cons rfl (.cons rfl (.cons rfl (.cons rfl .nil)))))) ?_
    exact IH ⟨inn ++ [((ks[i], (i : Int)))], g ++ [false], _, C1, s6n, C6n, s7n, C7n, i + 1⟩ ⟨hS.pushN hil _ (by simpa using pushF_perm cmpK [_] items i), hrep1, h6n, h7n, by simp [hil], by simp only; omega, by rw [pushF_snoc, ← hit, (pushF_length cmpK inn [] 0).2, hil]; simp⟩ (by simp only; omega)
  intro hz
  clear IH
  refine G.exit rfl ?_
  repeat refine G.seq ?_
  have hik : i = ks.length := by omega
  refine G.region [.loc] (.take 0 .done) rfl ?_
  refine GP.take rfl rfl (Does.assign rfl ?_)
  refine GP.keep [(0, _), (1, _), (5, _), (6, _), (7, _), (10, _)] (.cons rfl (.cons rfl (.cons rfl (.cons rfl (.cons rfl (.cons rfl .nil)))))) ?_
  repeat refine G.seq ?_
  refine G.block ?_
  refine G.loop (S := SS) (fun s => [(0, .slice ad ks.length cap), (1, .slice ad1 ws.length cap1), (5, .pointer (some ⟨hb, 0, none⟩)), (6, s.s6), (7, s.s7), (10, .int .i64 (s.i : Int))]) (fun s => s.C6 ++ (s.C7 ++ s.C0))
    (fun s => SInv s.inn s.g s.items ∧ HRep 71 73 row1 3 hb (.func (.func 14) #[] #[]) s.items s.inn.length s.C0 ∧ LRep s.inn s.s6 s.C6 ∧ BRep s.g s.s7 s.C7 ∧ s.inn.length = ks.length + s.i ∧ s.i ≤ ws.length ∧ Hd cmpK s.items ∧ (s.i = 0 → s.items = (pushF cmpK [] 0 s.inn).1) ∧ (s.items = [] ↔ (s.i = 0 ∧ ks.length = 0))) (fun s => ws.length - s.i)
    ⟨inn, g, items, C0, s6, C6, s7, C7, 0⟩ ⟨hS, by simp only [hil]; exact hrep, h6, h7, by simp only; omega, Nat.zero_le _, by simp only [hit]; exact pushF_hd lawK _ hd_nil _, fun _ => hit, by
      have h9 := (pushF_length cmpK inn [] 0).1
      rw [← hit] at h9
      simp only [List.length_nil] at h9
      constructor
      · intro h; simp only at h; rw [h] at h9; simp only [List.length_nil] at h9; exact ⟨rfl, by omega⟩
      · intro h; have h8 : ks.length = 0 := h.2; show items = []; exact List.eq_nil_of_length_eq_zero (by omega)⟩ (.cons rfl (.cons rfl (.cons rfl (.cons rfl (.cons rfl (.cons rfl .nil)))))) .all ?_
  clear hS hrep h6 h7 hil hi hit hz hik s6 C6 s7 C7 C0 items g inn i
  rintro ⟨inn, g, items, C0, s6, C6, s7, C7, i⟩ ⟨hS, hrep, h6, h7, hil, hi, hhd, hit, hemp⟩ IH
  simp only at hS hrep h6 h7 hil hi hhd hit hemp IH ⊢
  repeat refine G.seq ?_
  refine G.region [.loc, .loc, .loc, .loc] (.take 0 (.take 1 (.take 2 (.take 3 .done)))) rfl ?_
  refine GP.take rfl rfl (Does.move rfl ?_)
  refine GP.take rfl rfl (Does.move rfl ?_)
  refine GP.take rfl rfl (Does.len rfl is48 ?_)
  refine GP.take rfl rfl (Does.lss rfl rfl rfl ?_)
  refine GP.keep [(0, _), (1, _), (5, _), (6, _), (7, _), (10, _), (49, _)] (.cons rfl (.cons rfl (.cons rfl (.cons rfl (.cons rfl (.cons rfl (.cons rfl .nil))))))) ?_
  repeat refine G.seq ?_
  refine G.cond rfl ?_ ?_
  case refine_1 =>
    intro hz
    have hik : i < ws.length := by omega
    have hne : ws ≠ [] := by rintro rfl; simp at hik
    obtain rfl := had1 hne
    obtain ⟨m, hm⟩ : ∃ m, inn.length = m := ⟨_, rfl⟩
    have hle := hS.le
    obtain ⟨ad6, cap6, lb6, hs6, -, hcap6, -, -⟩ := h6.form
    subst hs6
    rw [hm] at h6 hcap6 hrep hle ⊢
    refine G.skip ?_
    repeat refine G.seq ?_
    refine G.block ?_
    repeat refine G.seq ?_
    refine G.region [.loc, .loc, .loc, .gen, .loc, .loc, .loc, .alloc, .gen] (.take 0 (.take 1 (.take 2 (.take 3 (.take 4 (.take 5 (.take 6 (.take 7 (.take 8 .done))))))))) rfl ?_
    refine GP.take rfl rfl (Does.move rfl ?_)
    refine GP.take rfl rfl (Does.move rfl ?_)
    refine GP.take rfl rfl (Does.indexAddr i rfl rfl sl48 rfl hik ?_)
    refine GP.take rfl rfl (Does.load1 rfl ft3 (CellIn.old (by simp) (hws (i * 1 + 0) _ (flat_get (fun x => [Value.int .i64 x]) 1 (fun _ => rfl) ws i hik 0 _ rfl))) ?_)
    refine GP.take rfl rfl (Does.move rfl ?_)
    refine GP.take rfl rfl (Does.len rfl is34 ?_)
    refine GP.take rfl rfl (Does.build (r := [_, _]) (.cons rfl (.cons rfl .nil)) sp31 zl31 rfl ?_)
    refine GP.take rfl rfl (Does.alloc zl31 fun b11 Nb11 hb11 nb11 => ?_)
    refine GP.take0 rfl (Does.storeA rfl rfl sz31 (by first | exact .head | exact .tail .head | exact .tail (.tail .head) | exact .tail (.tail (.tail .head)) | exact .tail (.tail (.tail (.tail .head))) | exact .tail (.tail (.tail (.tail (.tail .head))))) (.cons rfl .head (.cons rfl (.tail .head) .nil)) ?_)
    refine GP.keep [(0, _), (1, _), (5, _), (6, _), (7, _), (10, _), (11, _)] (.cons rfl (.cons rfl (.cons rfl (.cons rfl (.cons rfl (.cons rfl (.cons rfl .nil))))))) ?_
    repeat refine G.seq ?_
    refine G.region [.loc, .gen, .gen, .loc, .loc, .loc, .alloc, .gen, .loc] (.take 0 (.take 1 (.take 2 (.take 3 (.take 4 (.take 5 (.take 6 (.take 7 (.take 8 .done))))))))) rfl ?_
    refine GP.take rfl rfl (Does.move rfl ?_)
    refine GP.take rfl rfl (Does.loadA (vs := [.int .i64 ws[i], .int .i64 (m : Int)]) rfl ag31 (RowIn.own (.head _) rfl) ?_)
    refine GP.take rfl rfl (Does.callP ((b11, cel 31 [.int .i64 ws[i], .int .i64 (m : Int)]) :: (C6 ++ C7)) (C0 ++ []) (.cons rfl (.cons rfl .nil)) cb22 (by classical exact List.perm_iff_count.2 fun q => by simp only [List.count_append, List.count_cons, List.count_nil, List.cons_append] <;> omega) (swap1 byK_ok hb items m C0 hrep 0 ((ws[i], (m : Int))) (by omega) (by omega)) (fun _ _ => trivial) ?_)
    rintro _ _ ⟨rfl, C1, hrep1, rfl⟩
    refine ⟨(b11, cel 31 [.int .i64 ws[i], .int .i64 (m : Int)]) :: (C6 ++ (C7 ++ C1)), (by classical exact List.perm_iff_count.2 fun q => by simp only [List.count_append, List.count_cons, List.count_nil, List.cons_append] <;> omega), ?_⟩
    refine GP.take rfl rfl (Does.move rfl ?_)
    refine GP.take rfl rfl (Does.extract rfl rfl ?_)
    refine GP.take rfl rfl (Does.extract rfl rfl ?_)
    refine GP.take rfl rfl (Does.alloc zl31 fun b12 Nb12 hb12 nb12 => ?_)
    refine GP.take0 rfl (Does.storeA rfl rfl sz31 (by first | exact .head | exact .tail .head | exact .tail (.tail .head) | exact .tail (.tail (.tail .head)) | exact .tail (.tail (.tail (.tail .head))) | exact .tail (.tail (.tail (.tail (.tail .head))))) (.cons rfl .head (.cons rfl (.tail .head) .nil)) ?_)
    refine GP.take rfl rfl (Does.assign rfl ?_)
    refine GP.keep [(0, _), (1, _), (5, _), (6, _), (7, _), (10, _), (11, _), (12, _), (13, _)] (.cons rfl (.cons rfl (.cons rfl (.cons rfl (.cons rfl (.cons rfl (.cons rfl (.cons rfl (.cons rfl .nil))))))))) ?_
    repeat refine G.seq ?_
    refine G.join (S := Unit) (fun _ => [(0, .slice ad ks.length cap), (1, .slice (some ⟨b1, o1, none⟩) ws.length cap1), (5, .pointer (some ⟨hb, 0, none⟩)), (6, .slice ad6 m cap6), (7, s7), (10, .int .i64 (i : Int)), (11, .pointer (some ⟨b11, 0, none⟩)), (12, .pointer (some ⟨b12, 0, none⟩)), (13, .bool (!items.isEmpty)), (73, .bool false)]) (fun _ => (b12, cel 31 (enc1 (firstF items))) :: (b11, cel 31 [.int .i64 ws[i], .int .i64 (m : Int)]) :: (C6 ++ (C7 ++ C1))) (fun _ => True) ?_ fun key => ?_
    case refine_2 =>
      by_cases hi0 : 0 < i
      · have hie : (!items.isEmpty) = true := by
          have : items ≠ [] := fun e => by have := (hemp.1 e).1; omega
          simpa using this
        rw [hie] at key ⊢
        refine G.region [.loc, .loc, .loc, .loc, .loc, .loc, .loc, .loc, .loc] (.take 0 (.take 1 (.take 2 (.take 3 (.take 4 (.take 5 (.take 6 (.take 7 (.take 8 .done))))))))) rfl ?_
        refine GP.take rfl rfl (Does.move rfl ?_)
        refine GP.take rfl rfl (Does.move rfl ?_)
        refine GP.take rfl rfl (Does.gtr rfl rfl (show decide ((i : Int) > 0) = true from decide_eq_true (by omega)) ?_)
        refine GP.take rfl rfl (Does.move rfl ?_)
        refine GP.pass rfl rfl rfl rfl rfl ?_
        refine GP.pass rfl rfl rfl rfl rfl ?_
        refine GP.pass rfl rfl rfl rfl rfl ?_
        refine GP.take rfl rfl (Does.pickT rfl rfl ?_)
        refine GP.take rfl rfl (Does.neqB rfl rfl Try.underlying4 rfl ?_)
        refine GP.keep [(0, _), (1, _), (5, _), (6, _), (7, _), (10, _), (11, _), (12, _), (13, _), (73, _)] (.cons rfl (.cons rfl (.cons rfl (.cons rfl (.cons rfl (.cons rfl (.cons rfl (.cons rfl (.cons rfl (.cons rfl .nil)))))))))) ?_
        exact key () trivial
      · have hie : (!items.isEmpty) = decide ((ks.length : Int) > 0) := by
          have e0 : i = 0 := by omega
          by_cases hk0 : ks.length = 0
          · rw [hemp.2 ⟨e0, hk0⟩, hk0]; rfl
          · have : items ≠ [] := fun e => hk0 (hemp.1 e).2
            rw [decide_eq_true (show (ks.length : Int) > 0 by omega)]
            simpa using this
        rw [hie] at key ⊢
        refine G.region [.loc, .loc, .loc, .loc, .loc, .loc, .loc, .loc, .loc] (.take 0 (.take 1 (.take 2 (.take 3 (.take 4 (.take 5 (.take 6 (.take 7 (.take 8 .done))))))))) rfl ?_
        refine GP.take rfl rfl (Does.move rfl ?_)
        refine GP.take rfl rfl (Does.move rfl ?_)
        refine GP.take rfl rfl (Does.gtr rfl rfl (show decide ((i : Int) > 0) = false from decide_eq_false (by omega)) ?_)
        refine GP.take rfl rfl (Does.move rfl ?_)
        refine GP.takeG rfl rfl rfl rfl (Does.move rfl ?_)
        refine GP.takeG rfl rfl rfl rfl (Does.len rfl is48 ?_)
        refine GP.takeG rfl rfl rfl rfl (Does.gtr rfl rfl rfl ?_)
        refine GP.take rfl rfl (Does.pickF rfl rfl ?_)
        refine GP.take rfl rfl (Does.neqB rfl rfl Try.underlying4 (show (!(decide ((ks.length : Int) > 0) == decide ((ks.length : Int) > 0))) = false by simp) ?_)
        refine GP.keep [(0, _), (1, _), (5, _), (6, _), (7, _), (10, _), (11, _), (12, _), (13, _), (73, _)] (.cons rfl (.cons rfl (.cons rfl (.cons rfl (.cons rfl (.cons rfl (.cons rfl (.cons rfl (.cons rfl (.cons rfl .nil)))))))))) ?_
        exact key () trivial
    rintro - -
    refine G.condF rfl ?_
    refine G.skip ?_
    repeat refine G.seq ?_
    refine G.region [.loc] (.take 0 .done) rfl ?_
    refine GP.take rfl rfl (Does.move rfl ?_)
    refine GP.keep [(0, _), (1, _), (5, _), (6, _), (7, _), (10, _), (11, _), (12, _), (74, _)] (.cons rfl (.cons rfl (.cons rfl (.cons rfl (.cons rfl (.cons rfl (.cons rfl (.cons rfl (.cons rfl .nil))))))))) ?_
    repeat refine G.seq ?_
    refine G.join (S := List Bool × Value × Chunks) (fun s => [(0, .slice ad ks.length cap), (1, .slice (some ⟨b1, o1, none⟩) ws.length cap1), (5, .pointer (some ⟨hb, 0, none⟩)), (6, .slice ad6 m cap6), (7, s.2.1), (10, .int .i64 (i : Int)), (11, .pointer (some ⟨b11, 0, none⟩))]) (fun s => (b12, cel 31 (enc1 (firstF items))) :: (b11, cel 31 [.int .i64 ws[i], .int .i64 (m : Int)]) :: (C6 ++ (s.2.2 ++ C1))) (fun s => SInv (inn ++ [((ws[i], (m : Int)))]) (s.1 ++ [false]) (swapF cmpK items m ((ws[i], (m : Int)))).1 ∧ BRep s.1 s.2.1 s.2.2) ?_ fun key => ?_
    · clear h7
      rintro ⟨g2, s7, C7⟩ ⟨hS2, h7⟩
      simp only at hS2 h7 ⊢
      have hgl2 := hS2.gl
      simp only [List.length_append, List.length_cons, List.length_nil] at hgl2
      repeat refine G.seq ?_
      refine G.region [.loc, .gen, .alloc, .gen, .loc] (.take 0 (.take 1 (.take 2 (.take 3 (.take 4 .done))))) rfl ?_
      refine GP.take rfl rfl (Does.move rfl ?_)
      refine GP.take rfl rfl (Does.loadA (vs := [.int .i64 ws[i], .int .i64 (m : Int)]) rfl ag31 (RowIn.own (.tail _ (.head _)) rfl) ?_)
      refine GP.take rfl rfl (Does.buildSlice (r := [_, _]) (.cons rfl .nil) sl34 zl31 (by decide) rfl fun b107 N107 h107 n107 => ?_)
      refine GP.take rfl rfl (Does.appendT rfl (l := inn) (xs := [((ws[i], (m : Int)))]) (mc := 1) [(b107, cel 31 [.int .i64 ws[i], .int .i64 (m : Int)]), (b12, cel 31 (enc1 (firstF items))), (b11, cel 31 [.int .i64 ws[i], .int .i64 (m : Int)])] C6 (C7 ++ C1) rfl rfl rfl h6 (fun _ => ⟨b107, 0, rfl, RowIn.own (.head _) rfl⟩) (by simp only [List.length_cons, List.length_nil]; omega) ?_)
      intro s6n C6n h6n
      refine GP.take rfl rfl (Does.assign rfl ?_)
      refine GP.keep [(0, _), (1, _), (5, _), (6, _), (7, _), (10, _), (11, _)] (.cons rfl (.cons rfl (.cons rfl (.cons rfl (.cons rfl (.cons rfl (.cons rfl .nil))))))) ?_
      repeat refine G.seq ?_
      refine G.region [.loc, .alloc, .gen, .loc] (.take 0 (.take 1 (.take 2 (.take 3 .done)))) rfl ?_
      refine GP.take rfl rfl (Does.move rfl ?_)
      refine GP.take rfl rfl (Does.buildSlice (r := [_]) (.cons rfl .nil) sl67 bz4 (by decide) rfl fun b110 N110 h110 n110 => ?_)
      refine GP.take rfl rfl (Does.appendB rfl (l := g2) (xs := [false]) (mc := 1) ((b110, cel 4 [.bool false]) :: (b107, cel 31 [.int .i64 ws[i], .int .i64 (m : Int)]) :: (b12, cel 31 (enc1 (firstF items))) :: (b11, cel 31 [.int .i64 ws[i], .int .i64 (m : Int)]) :: C6n) C7 C1 rfl rfl rfl h7 (fun _ => ⟨b110, 0, rfl, RowIn.own (.head _) rfl⟩) (by simp only [List.length_cons, List.length_nil]; omega) ?_)
      intro s7n C7n h7n
      refine GP.take rfl rfl (Does.assign rfl ?_)
      refine GP.keep [(0, _), (1, _), (5, _), (6, _), (7, _), (10, _)] (.cons rfl (.cons rfl (.cons rfl (.cons rfl (.cons rfl (.cons rfl .nil)))))) ?_
      refine G.dropP [(b110, cel 4 [.bool false]), (b107, cel 31 [.int .i64 ws[i], .int .i64 (m : Int)]), (b12, cel 31 (enc1 (firstF items))), (b11, cel 31 [.int .i64 ws[i], .int .i64 (m : Int)])] (A := C6n ++ (C7n ++ C1)) (by classical exact List.perm_iff_count.2 fun q => by simp only [List.count_append, List.count_cons, List.count_nil, enc1, List.cons_append] <;> omega) ?_
      refine G.inBlock ?_
      repeat refine G.seq ?_
      refine G.region [.loc, .loc, .loc] (.take 0 (.take 1 (.take 2 .done))) rfl ?_
      refine GP.take rfl rfl (Does.move rfl ?_)
      refine GP.take rfl rfl (Does.add rfl rfl (r := ((i + 1 : Nat) : Int)) (wrc_i64 (by omega) (by omega) (by omega)) ?_)
      refine GP.take rfl rfl (Does.assign rfl ?_)
      refine GP.keep [(0, _), (1, _), (5, _), (6, _), (7, _), (10, _)] (.cons rfl (.cons rfl (.cons rfl (.cons rfl (.cons rfl (.cons rfl .nil)))))) ?_
      have hsl := swapF_length cmpK items m ((ws[i], (m : Int)))
      exact IH ⟨inn ++ [((ws[i], (m : Int)))], g2 ++ [false], _, C1, s6n, C6n, s7n, C7n, i + 1⟩ ⟨hS2, by rw [hsl.2] at hrep1; simp only [List.length_append, List.length_cons, List.length_nil, hm]; exact hrep1, h6n, h7n, by simp only [List.length_append, List.length_cons, List.length_nil]; omega, by simp only; omega, swapF_hd lawK hhd _ _, fun h => absurd h (Nat.succ_ne_zero i), fun h => absurd (congrArg List.length h) (by simp only [hsl.1, List.length_nil]; omega), fun h => absurd h.1 (Nat.succ_ne_zero i)⟩ (by simp only; omega)
    clear IH
    by_cases hne : items = []
    · rw [hne]
      refine G.condF rfl ?_
      refine G.skip ?_
      rw [← hne]
      exact (key (g, s7, C7) ⟨hS.pushN hm _ (by rw [swapF, if_pos hne]; simpa using pushF_perm cmpK [_] items m), h7⟩).weak (.cons rfl (.cons rfl (.cons rfl (.cons rfl (.cons rfl (.cons rfl (.cons rfl .nil)))))))
    rw [show (!items.isEmpty) = true by simpa using hne]
    refine G.condT rfl ?_
    repeat refine G.seq ?_
    have hpm := swapF_perm cmpK items m ((ws[i], (m : Int))) hne
    obtain ⟨k, n, hat, hfe, hn, hin, hgn⟩ := hS.first hne
    have hgl := hS.gl
    have hinne : inn ≠ [] := by rintro rfl; simp at hn
    have hgne : g ≠ [] := by rintro rfl; simp at hgl; omega
    obtain ⟨lb, cap6a, sp6, e6, rfl, -, hsp6⟩ := h6.full hinne
    simp only [Value.slice.injEq] at e6
    obtain ⟨rfl, -, rfl⟩ := e6
    obtain ⟨gb, capg, spg, rfl, rfl, hcg, hspg⟩ := h7.full hgne
    rw [hfe] at key ⊢
    rw [hgl, hm]
    refine G.draw [.loc, .load, .loc, .loc, .loc, .load, .loc, .loc, .loc, .loc, .loc, .loc, .loc, .load, .loc, .load, .loc, .loc, .load, .loc, .loc, .load, .loc, .load, .loc, .loc] (.take 0 (.take 1 (.take 2 (.take 3 (.take 4 (.take 6 (.take 7 (.take 5 (.take 8 (.take 9 (.take 10 (.take 11 (.take 12 (.take 13 (.take 14 (.take 15 (.take 16 (.take 17 (.take 19 (.take 20 (.take 18 (.take 21 (.take 22 (.take 23 (.take 24 (.take 25 .done)))))))))))))))))))))))))) (by exact mixed) (by kernel_rfl) ?_
    intro N hN0 hN
    refine GP.take rfl rfl (Does.fieldAddr rfl fo31_1 ?_)
    refine GP.take rfl rfl (Does.load1N rfl ft3 (hN _ (.head _)) (CellIn.own (.head _) rfl) ?_)
    refine GP.take rfl rfl (Does.lss rfl rfl (show decide ((n : Int) < 0) = false from decide_eq_false (by omega)) ?_)
    refine GP.take rfl rfl (Does.move rfl ?_)
    refine GP.takeG rfl rfl rfl rfl (Does.fieldAddr rfl fo31_1 ?_)
    refine GP.takeG rfl rfl rfl rfl (Does.move rfl ?_)
    refine GP.takeG rfl rfl rfl rfl (Does.len rfl is34 ?_)
    refine GP.takeG rfl rfl rfl rfl (Does.load1N rfl ft3 (hN _ (.head _)) (CellIn.own (.head _) rfl) ?_)
    refine GP.takeG rfl rfl rfl rfl (Does.geq rfl rfl (show decide ((n : Int) ≥ (m : Int)) = false from decide_eq_false (by omega)) ?_)
    refine GP.take rfl rfl (Does.pickF rfl rfl ?_)
    refine GP.take rfl rfl (Does.move rfl ?_)
    refine GP.takeG rfl rfl rfl rfl (Does.move rfl ?_)
    refine GP.takeG rfl rfl rfl rfl (Does.fieldAddr rfl fo31_1 ?_)
    refine GP.takeG rfl rfl rfl rfl (Does.load1N rfl ft3 (hN _ (.head _)) (CellIn.own (.head _) rfl) ?_)
    refine GP.takeG rfl rfl rfl rfl (Does.indexAddr n rfl rfl sl67 rfl (by omega) ?_)
    refine GP.takeG rfl rfl rfl rfl (Does.load1N rfl ft4 (hN _ (.tail _ (.tail _ (.tail _ (.head _))))) (CellIn.own (l := g.flatMap rowB ++ spg) (.tail _ (.tail _ (.tail _ (.head _)))) (by have := rowB_at g spg n false hgn; simpa using this)) ?_)
    refine GP.take rfl rfl (Does.pickF rfl rfl ?_)
    refine GP.take rfl rfl (Does.move rfl ?_)
    refine GP.takeG rfl rfl rfl rfl (Does.move rfl ?_)
    refine GP.takeG rfl rfl rfl rfl (Does.fieldAddr rfl fo31_1 ?_)
    refine GP.takeG rfl rfl rfl rfl (Does.loadAN (vs := [.int .i64 k, .int .i64 (n : Int)]) rfl ag31 (hN _ (.head _)) (RowIn.own (.head _) rfl) ?_)
    refine GP.takeG rfl rfl rfl rfl (Does.load1N rfl ft3 (hN _ (.head _)) (CellIn.own (.head _) rfl) ?_)
    refine GP.takeG rfl rfl rfl rfl (Does.indexAddr n rfl rfl sl34 rfl (by omega) ?_)
    refine GP.takeG rfl rfl rfl rfl (Does.loadAN (vs := enc1 (k, (n : Int))) rfl ag31 (hN _ (.tail _ (.tail _ (.head _)))) (RowIn.own (l := inn.flatMap enc1 ++ sp6) (.tail _ (.tail _ (.head _))) (by have := flat_row enc1 2 enc1_length inn sp6 n hn; rw [(List.getElem?_eq_some_iff.1 hin).2] at this; exact this)) ?_)
    refine GP.takeG rfl rfl rfl rfl (Does.neqA (b := true) rfl rfl gd31 (fun w => by have := eq31 (k, (n : Int)) (k, (n : Int)) w; simpa using this) rfl ?_)
    refine GP.take rfl rfl (Does.pickF rfl rfl ?_)
    refine GP.keep [(0, _), (1, _), (5, _), (6, _), (7, _), (10, _), (11, _), (12, _), (100, _)] (.cons rfl (.cons rfl (.cons rfl (.cons rfl (.cons rfl (.cons rfl (.cons rfl (.cons rfl (.cons rfl .nil))))))))) ?_
    refine G.condF rfl ?_
    refine G.skip ?_
    repeat refine G.seq ?_
    refine G.region [.loc, .loc, .gen, .loc, .gen] (.take 0 (.take 1 (.take 2 (.take 3 (.take 4 .done))))) rfl ?_
    refine GP.take rfl rfl (Does.move rfl ?_)
    refine GP.take rfl rfl (Does.fieldAddr rfl fo31_1 ?_)
    refine GP.take rfl rfl (Does.load1 rfl ft3 (CellIn.own (.head _) rfl) ?_)
    refine GP.take rfl rfl (Does.indexAddr n rfl rfl sl67 rfl (by omega) ?_)
    refine GP.take0 rfl (Does.store1 rfl rfl sz4 rfl (.tail (.tail (.tail .head))) (rowB_set g spg n (by omega) true) ?_)
    refine GP.keep [(0, _), (1, _), (5, _), (6, _), (7, _), (10, _), (11, _)] (.cons rfl (.cons rfl (.cons rfl (.cons rfl (.cons rfl (.cons rfl (.cons rfl .nil))))))) ?_
    refine key (g.set n true, .slice (some ⟨gb, 0, none⟩) m capg, [(gb, cel 4 ((g.set n true).flatMap rowB ++ spg))]) ⟨?_, by have := BRep.set (b := gb) hcg hspg n true; rw [hgl, hm] at this; exact this⟩
    have h9 := (hS.pushN hm ws[i] (List.Perm.refl _)).take hpm
    rw [hat] at h9
    rw [← List.set_append_left _ _ (by omega)]
    exact h9
  intro hz
  clear IH
  refine G.exit rfl ?_
  repeat refine G.seq ?_
  obtain ⟨m, hm⟩ : ∃ m, inn.length = m := ⟨_, rfl⟩
  have hle := hS.le
  obtain ⟨ad6, cap6, lb6, hs6, had6, hcap6, -, hrow6⟩ := h6.form
  subst hs6
  obtain ⟨ad7, cap7, hs7⟩ := h7.form
  subst hs7
  rw [hm] at h6 hcap6 hrep hle hil ⊢
  have hlast : ws.length = 0 → items = (pushF cmpK [] 0 inn).1 := fun h => hit (by omega)
  have hzi : (ws.length = 0 ↔ i = 0) := by omega
  clear hit hemp
  refine G.region [.loc] (.take 0 .done) rfl ?_
  refine GP.take rfl rfl (Does.assign rfl ?_)
  refine GP.keep [(0, _), (1, _), (5, _), (6, _), (7, _), (14, _)] (.cons rfl (.cons rfl (.cons rfl (.cons rfl (.cons rfl (.cons rfl .nil)))))) ?_
  repeat refine G.seq ?_
  refine G.region [.loc, .loc, .loc] (.take 0 (.take 1 (.take 2 .done))) rfl ?_
  refine GP.take rfl rfl (Does.move rfl ?_)
  refine GP.take rfl rfl (Does.len rfl is67 ?_)
  refine GP.take rfl rfl (Does.move rfl ?_)
  refine GP.keep [(0, _), (1, _), (5, _), (6, _), (7, _), (14, _), (113, _), (114, _)] (.cons rfl (.cons rfl (.cons rfl (.cons rfl (.cons rfl (.cons rfl (.cons rfl (.cons rfl .nil)))))))) ?_
  repeat refine G.seq ?_
  refine G.block ?_
  refine G.loop (S := Nat) (fun j => [(0, .slice ad ks.length cap), (1, .slice ad1 ws.length cap1), (5, .pointer (some ⟨hb, 0, none⟩)), (6, .slice ad6 m cap6), (7, .slice ad7 g.length cap7), (14, .int .i64 (((g.take j).count false : Nat) : Int)), (113, .int .i64 (g.length : Int)), (114, .int .i64 (j : Int))]) (fun _ => C6 ++ (C7 ++ C0)) (fun j => j ≤ g.length) (fun j => g.length - j)
    0 (Nat.zero_le _) (.cons rfl (.cons rfl (.cons rfl (.cons rfl (.cons rfl (.cons rfl (.cons rfl (.cons rfl .nil)))))))) .all ?_
  intro j hj IH
  have hct0 : (g.take j).count false ≤ j := Nat.le_trans List.count_le_length (by rw [List.length_take]; omega)
  have hgl := hS.gl
  repeat refine G.seq ?_
  refine G.region [.loc] (.take 0 .done) rfl ?_
  refine GP.take rfl rfl (Does.lss rfl rfl rfl ?_)
  refine GP.keep [(0, _), (1, _), (5, _), (6, _), (7, _), (14, _), (113, _), (114, _), (115, _)] (.cons rfl (.cons rfl (.cons rfl (.cons rfl (.cons rfl (.cons rfl (.cons rfl (.cons rfl (.cons rfl .nil))))))))) ?_
  repeat refine G.seq ?_
  refine G.cond rfl ?_ ?_
  case refine_1 =>
    intro hz2
    have hjl : j < g.length := by omega
    have hgne : g ≠ [] := by rintro rfl; simp at hjl
    obtain ⟨gb, capg, spg, e7, rfl, hcg, hspg⟩ := h7.full hgne
    simp only [Value.slice.injEq, true_and] at e7
    obtain ⟨rfl, rfl⟩ := e7
    obtain ⟨bv, hbv⟩ : ∃ bv, g[j]? = some bv := ⟨g[j], by simp [hjl]⟩
    have hct := count_take g j hjl
    rw [(List.getElem?_eq_some_iff.1 hbv).2] at hct
    have IH' := IH (j + 1) (by omega) (by omega)
    simp only [hct] at IH'
    refine G.skip ?_
    repeat refine G.seq ?_
    refine G.block ?_
    repeat refine G.seq ?_
    refine G.region [.loc, .loc] (.take 0 (.take 1 .done)) rfl ?_
    refine GP.take rfl rfl (Does.move rfl ?_)
    refine GP.take rfl rfl (Does.assign rfl ?_)
    refine GP.keep [(0, _), (1, _), (5, _), (6, _), (7, _), (14, _), (15, _), (113, _), (114, _)] (.cons rfl (.cons rfl (.cons rfl (.cons rfl (.cons rfl (.cons rfl (.cons rfl (.cons rfl (.cons rfl .nil))))))))) ?_
    repeat refine G.seq ?_
    refine G.region [.loc, .loc, .loc, .gen, .loc] (.take 0 (.take 1 (.take 2 (.take 3 (.take 4 .done))))) rfl ?_
    refine GP.take rfl rfl (Does.move rfl ?_)
    refine GP.take rfl rfl (Does.move rfl ?_)
    refine GP.take rfl rfl (Does.indexAddr j rfl rfl sl67 rfl hjl ?_)
    refine GP.take rfl rfl (Does.load1 rfl ft4 (CellIn.own (l := g.flatMap rowB ++ spg) (List.mem_append_right _ (.head _)) (by have := rowB_at g spg j bv hbv; simpa using this)) ?_)
    refine GP.take rfl rfl (Does.not rfl rfl ?_)
    refine GP.keep [(0, _), (1, _), (5, _), (6, _), (7, _), (14, _), (113, _), (114, _), (121, _)] (.cons rfl (.cons rfl (.cons rfl (.cons rfl (.cons rfl (.cons rfl (.cons rfl (.cons rfl (.cons rfl .nil))))))))) ?_
    cases bv with
    | false =>
      repeat refine G.seq ?_
      refine G.condT rfl ?_
      repeat refine G.seq ?_
      refine G.region [.loc, .loc, .loc] (.take 0 (.take 1 (.take 2 .done))) rfl ?_
      refine GP.take rfl rfl (Does.move rfl ?_)
      refine GP.take rfl rfl (Does.add rfl rfl (r := (((g.take j).count false + 1 : Nat) : Int)) (wrc_i64 (by omega) (by omega) (by omega)) ?_)
      refine GP.take rfl rfl (Does.assign rfl ?_)
      refine GP.keep [(0, _), (1, _), (5, _), (6, _), (7, _), (14, _), (113, _), (114, _)] (.cons rfl (.cons rfl (.cons rfl (.cons rfl (.cons rfl (.cons rfl (.cons rfl (.cons rfl .nil)))))))) ?_
      refine G.inBlock ?_
      repeat refine G.seq ?_
      refine G.region [.loc, .loc] (.take 0 (.take 1 .done)) rfl ?_
      refine GP.take rfl rfl (Does.add rfl rfl (r := ((j + 1 : Nat) : Int)) (wrc_i64 (by omega) (by omega) (by omega)) ?_)
      refine GP.take rfl rfl (Does.move rfl ?_)
      refine GP.keep [(0, _), (1, _), (5, _), (6, _), (7, _), (14, _), (113, _), (114, _)] (.cons rfl (.cons rfl (.cons rfl (.cons rfl (.cons rfl (.cons rfl (.cons rfl (.cons rfl .nil)))))))) ?_
      exact IH'
    | true =>
      repeat refine G.seq ?_
      refine G.condF rfl ?_
      refine G.skip ?_
      refine G.inBlock ?_
      repeat refine G.seq ?_
      refine G.region [.loc, .loc] (.take 0 (.take 1 .done)) rfl ?_
      refine GP.take rfl rfl (Does.add rfl rfl (r := ((j + 1 : Nat) : Int)) (wrc_i64 (by omega) (by omega) (by omega)) ?_)
      refine GP.take rfl rfl (Does.move rfl ?_)
      refine GP.keep [(0, _), (1, _), (5, _), (6, _), (7, _), (14, _), (113, _), (114, _)] (.cons rfl (.cons rfl (.cons rfl (.cons rfl (.cons rfl (.cons rfl (.cons rfl (.cons rfl .nil)))))))) ?_
      exact IH'
  intro hz2
  clear IH
  have hct : (g.take j).count false = items.length := by rw [List.take_of_length_le (by omega), hS.cnt]
  rw [hct]
  refine G.exit rfl ?_
  repeat refine G.seq ?_
  refine G.region [.loc, .gen, .loc, .loc] (.take 0 (.take 1 (.take 2 (.take 3 .done)))) rfl ?_
  refine GP.take rfl rfl (Does.move rfl ?_)
  refine GP.take rfl rfl (Does.callP (C6 ++ C7) C0 (.cons rfl .nil) cb15 (by classical exact List.perm_iff_count.2 fun q => by simp only [List.count_append] <;> omega) (len1 hb items m C0 hrep) (fun _ _ => trivial) ?_)
  rintro _ C9 ⟨rfl, hC9⟩
  obtain rfl := hC9.symm
  refine ⟨C6 ++ (C7 ++ C0), (by classical exact List.perm_iff_count.2 fun q => by simp only [List.count_append] <;> omega), ?_⟩
  refine GP.take rfl rfl (Does.move rfl ?_)
  refine GP.take rfl rfl (Does.neq rfl rfl (show (!decide ((items.length : Int) = (items.length : Int))) = false by simp) ?_)
  refine GP.keep [(0, _), (1, _), (5, _), (6, _), (7, _), (14, _), (128, _)] (.cons rfl (.cons rfl (.cons rfl (.cons rfl (.cons rfl (.cons rfl (.cons rfl .nil))))))) ?_
  repeat refine G.seq ?_
  refine G.condF rfl ?_
  refine G.skip ?_
  repeat refine G.seq ?_
  refine G.region [.loc] (.take 0 .done) rfl ?_
  refine GP.take rfl rfl (Does.assign rfl ?_)
  refine GP.keep [(0, _), (1, _), (5, _), (6, _), (7, _), (14, _), (16, _)] (.cons rfl (.cons rfl (.cons rfl (.cons rfl (.cons rfl (.cons rfl (.cons rfl .nil))))))) ?_
  repeat refine G.seq ?_
  refine G.region [.loc] (.take 0 .done) rfl ?_
  refine GP.take rfl rfl (Does.assign rfl ?_)
  refine GP.keep [(0, _), (1, _), (5, _), (6, _), (7, _), (14, _), (16, _), (17, _)] (.cons rfl (.cons rfl (.cons rfl (.cons rfl (.cons rfl (.cons rfl (.cons rfl (.cons rfl .nil)))))))) ?_
  repeat refine G.seq ?_
  obtain ⟨lf, hlf⟩ : ∃ lf, items.length = lf := ⟨_, rfl⟩
  obtain ⟨want, hwant⟩ : ∃ want, (popsF cmpK items.length items).1 = want := ⟨_, rfl⟩
  have hfin : ws.length = 0 → want = sortF cmpK inn := fun h => by
    rw [← hwant, hlast h, (pushF_length cmpK inn [] 0).1, List.length_nil, Nat.zero_add]; rfl
  have hlf2 : ws.length = 0 → lf = inn.length := fun h => by
    rw [← hlf, hlast h, (pushF_length cmpK inn [] 0).1, List.length_nil, Nat.zero_add]
  rw [hlf]
  refine G.block ?_
  refine G.dropP [] (A := C6 ++ (C7 ++ ([] ++ C0))) (by classical exact List.perm_iff_count.2 fun q => by simp only [List.count_append, List.count_nil, List.nil_append] <;> omega) ?_
  refine G.loop (S := SP) (fun s => [(0, .slice ad ks.length cap), (1, .slice ad1 ws.length cap1), (5, .pointer (some ⟨hb, 0, none⟩)), (6, .slice ad6 m cap6), (7, s.s7), (14, .int .i64 (lf : Int)), (16, s.s16), (17, .int .i64 (s.i : Int))]) (fun s => C6 ++ (s.C7 ++ (s.C16 ++ s.C0)))
    (fun s => SInv inn s.g s.items ∧ HRep 71 73 row1 3 hb (.func (.func 14) #[] #[]) s.items m s.C0 ∧ Hd cmpK s.items ∧ BRep s.g s.s7 s.C7 ∧ LRep s.out s.s16 s.C16 ∧ s.out.length = s.i ∧ s.i + s.items.length = lf ∧ s.out ++ (popsF cmpK s.items.length s.items).1 = want ∧ (0 < s.i → ∃ p : (Int × Int) × Nat, s.out[s.i - 1]? = some p.1 ∧ p.1.2 = (p.2 : Int) ∧ ∀ x ∈ s.items, Le cmpK p x)) (fun s => lf - s.i)
    ⟨g, items, C0, _, C7, [], .slice none 0 0, [], 0⟩ ⟨hS, hrep, hhd, h7, LRep.nil, rfl, by simp only; omega, hwant, fun h => absurd h (Nat.lt_irrefl 0)⟩ (.cons rfl (.cons rfl (.cons rfl (.cons rfl (.cons rfl (.cons rfl (.cons rfl (.cons rfl .nil)))))))) .all ?_
  have hlfm : lf ≤ m := by omega
  have hm2 : m ≤ 1048576 := by omega
  clear hS hrep hhd h7 hlast hlf hwant hct hct0 hgl hj hz2
  rintro ⟨g, items, C0, s7, C7, out, s16, C16, i2⟩ ⟨hS, hrep, hhd, h7, h16, hol, hlf, hwant, hlst⟩ IH
  simp only at hS hrep hhd h7 h16 hol hlf hwant hlst IH ⊢
  have hle := hS.le
  repeat refine G.seq ?_
  refine G.region [.loc, .loc, .loc] (.take 0 (.take 1 (.take 2 .done))) rfl ?_
  refine GP.take rfl rfl (Does.move rfl ?_)
  refine GP.take rfl rfl (Does.move rfl ?_)
  refine GP.take rfl rfl (Does.lss rfl rfl rfl ?_)
  refine GP.keep [(0, _), (1, _), (5, _), (6, _), (7, _), (14, _), (16, _), (17, _), (131, _)] (.cons rfl (.cons rfl (.cons rfl (.cons rfl (.cons rfl (.cons rfl (.cons rfl (.cons rfl (.cons rfl .nil))))))))) ?_
  repeat refine G.seq ?_
  refine G.cond rfl ?_ ?_
  case refine_1 =>
    intro hz2
    have hpos : 0 < items.length := by omega
    have hne : items ≠ [] := List.length_pos_iff.1 hpos
    have hie : (!items.isEmpty) = true := by simpa using hne
    have hpm := popF_perm cmpK items hne
    obtain ⟨k, n, hat, hfe, hn, hin, hgn⟩ := hS.first hne
    have hgl := hS.gl
    have hinne : inn ≠ [] := by rintro rfl; simp at hn
    have hgne : g ≠ [] := by rintro rfl; simp at hgl; omega
    obtain ⟨lb, cap6a, sp6, e6, rfl, -, hsp6⟩ := h6.full hinne
    simp only [Value.slice.injEq] at e6
    obtain ⟨rfl, -, rfl⟩ := e6
    obtain ⟨gb, capg, spg, rfl, rfl, hcg, hspg⟩ := h7.full hgne
    have hpops : (popsF cmpK items.length items).1 = (k, (n : Int)) :: (popsF cmpK (items.length - 1) (popF cmpK items).1).1 := by
      obtain ⟨q, hq⟩ : ∃ q, items.length = q + 1 := ⟨items.length - 1, by omega⟩
      rw [hq, Nat.add_sub_cancel]; simp only [popsF, hfe]
    have hpl := popF_length cmpK items
    rw [hgl, hm]
    refine G.skip ?_
    repeat refine G.seq ?_
    refine G.block ?_
    repeat refine G.seq ?_
    refine G.region [.loc, .gen, .loc, .loc, .loc, .alloc, .gen, .loc] (.take 0 (.take 1 (.take 2 (.take 3 (.take 4 (.take 5 (.take 6 (.take 7 .done)))))))) rfl ?_
    refine GP.take rfl rfl (Does.move rfl ?_)
    refine GP.take rfl rfl (Does.callP ((lb, cel 31 (inn.flatMap enc1 ++ sp6)) :: (gb, cel 4 (g.flatMap rowB ++ spg)) :: C16) (C0 ++ []) (.cons rfl .nil) cb17 (by classical exact List.perm_iff_count.2 fun q => by simp only [List.count_append, List.count_cons, List.count_nil, List.nil_append, List.cons_append] <;> omega) (pop1 byK_ok hb items m C0 hrep 0 (by omega)) (fun _ _ => trivial) ?_)
    rintro _ _ ⟨rfl, C1, hrep1, rfl⟩
    refine ⟨(lb, cel 31 (inn.flatMap enc1 ++ sp6)) :: (gb, cel 4 (g.flatMap rowB ++ spg)) :: (C16 ++ C1), (by classical exact List.perm_iff_count.2 fun q => by simp only [List.count_append, List.count_cons, List.count_nil, List.cons_append] <;> omega), ?_⟩
    rw [hie, hfe]
    refine GP.take rfl rfl (Does.move rfl ?_)
    refine GP.take rfl rfl (Does.extract rfl rfl ?_)
    refine GP.take rfl rfl (Does.extract rfl rfl ?_)
    refine GP.take rfl rfl (Does.alloc zl31 fun b18 Nb18 hb18 nb18 => ?_)
    refine GP.take0 rfl (Does.storeA rfl rfl sz31 (by first | exact .head | exact .tail .head | exact .tail (.tail .head) | exact .tail (.tail (.tail .head)) | exact .tail (.tail (.tail (.tail .head))) | exact .tail (.tail (.tail (.tail (.tail .head))))) (.cons rfl .head (.cons rfl (.tail .head) .nil)) ?_)
    refine GP.take rfl rfl (Does.assign rfl ?_)
    refine GP.keep [(0, _), (1, _), (5, _), (6, _), (7, _), (14, _), (16, _), (17, _), (18, _), (19, _)] (.cons rfl (.cons rfl (.cons rfl (.cons rfl (.cons rfl (.cons rfl (.cons rfl (.cons rfl (.cons rfl (.cons rfl .nil)))))))))) ?_
    repeat refine G.seq ?_
    refine G.draw [.loc, .loc, .loc, .loc, .load, .loc, .loc, .loc, .loc, .load, .loc, .loc, .loc, .loc, .loc, .loc, .loc, .load, .loc, .load, .loc, .loc, .load, .loc, .loc, .load, .loc, .load, .loc, .loc] (.take 0 (.take 1 (.take 2 (.take 3 (.take 4 (.take 5 (.take 6 (.take 7 (.take 8 (.take 10 (.take 11 (.take 9 (.take 12 (.take 13 (.take 14 (.take 15 (.take 16 (.take 17 (.take 18 (.take 19 (.take 20 (.take 21 (.take 23 (.take 24 (.take 22 (.take 25 (.take 26 (.take 27 (.take 28 (.take 29 .done)))))))))))))))))))))))))))))) (by exact mixed) (by kernel_rfl) ?_
    intro N hN0 hN
    refine GP.take rfl rfl (Does.move rfl ?_)
    refine GP.take rfl rfl (Does.not rfl rfl ?_)
    refine GP.take rfl rfl (Does.move rfl ?_)
    refine GP.takeG rfl rfl rfl rfl (Does.fieldAddr rfl fo31_1 ?_)
    refine GP.takeG rfl rfl rfl rfl (Does.load1N rfl ft3 (hN _ (.head _)) (CellIn.own (.head _) rfl) ?_)
    refine GP.takeG rfl rfl rfl rfl (Does.lss rfl rfl (show decide ((n : Int) < 0) = false from decide_eq_false (by omega)) ?_)
    refine GP.take rfl rfl (Does.pickF rfl rfl ?_)
    refine GP.take rfl rfl (Does.move rfl ?_)
    refine GP.takeG rfl rfl rfl rfl (Does.fieldAddr rfl fo31_1 ?_)
    refine GP.takeG rfl rfl rfl rfl (Does.move rfl ?_)
    refine GP.takeG rfl rfl rfl rfl (Does.len rfl is34 ?_)
    refine GP.takeG rfl rfl rfl rfl (Does.load1N rfl ft3 (hN _ (.head _)) (CellIn.own (.head _) rfl) ?_)
    refine GP.takeG rfl rfl rfl rfl (Does.geq rfl rfl (show decide ((n : Int) ≥ (m : Int)) = false from decide_eq_false (by omega)) ?_)
    refine GP.take rfl rfl (Does.pickF rfl rfl ?_)
    refine GP.take rfl rfl (Does.move rfl ?_)
    refine GP.takeG rfl rfl rfl rfl (Does.move rfl ?_)
    refine GP.takeG rfl rfl rfl rfl (Does.fieldAddr rfl fo31_1 ?_)
    refine GP.takeG rfl rfl rfl rfl (Does.load1N rfl ft3 (hN _ (.head _)) (CellIn.own (.head _) rfl) ?_)
    refine GP.takeG rfl rfl rfl rfl (Does.indexAddr n rfl rfl sl67 rfl (by omega) ?_)
    refine GP.takeG rfl rfl rfl rfl (Does.load1N rfl ft4 (hN _ (.tail _ (.tail _ (.head _)))) (CellIn.own (l := g.flatMap rowB ++ spg) (.tail _ (.tail _ (.head _))) (by have := rowB_at g spg n false hgn; simpa using this)) ?_)
    refine GP.take rfl rfl (Does.pickF rfl rfl ?_)
    refine GP.take rfl rfl (Does.move rfl ?_)
    refine GP.takeG rfl rfl rfl rfl (Does.move rfl ?_)
    refine GP.takeG rfl rfl rfl rfl (Does.fieldAddr rfl fo31_1 ?_)
    refine GP.takeG rfl rfl rfl rfl (Does.loadAN (vs := [.int .i64 k, .int .i64 (n : Int)]) rfl ag31 (hN _ (.head _)) (RowIn.own (.head _) rfl) ?_)
    refine GP.takeG rfl rfl rfl rfl (Does.load1N rfl ft3 (hN _ (.head _)) (CellIn.own (.head _) rfl) ?_)
    refine GP.takeG rfl rfl rfl rfl (Does.indexAddr n rfl rfl sl34 rfl (by omega) ?_)
    refine GP.takeG rfl rfl rfl rfl (Does.loadAN (vs := enc1 (k, (n : Int))) rfl ag31 (hN _ (.tail _ (.head _))) (RowIn.own (l := inn.flatMap enc1 ++ sp6) (.tail _ (.head _)) (by have := flat_row enc1 2 enc1_length inn sp6 n hn; rw [(List.getElem?_eq_some_iff.1 hin).2] at this; exact this)) ?_)
    refine GP.takeG rfl rfl rfl rfl (Does.neqA (b := true) rfl rfl gd31 (fun w => by have := eq31 (k, (n : Int)) (k, (n : Int)) w; simpa using this) rfl ?_)
    refine GP.take rfl rfl (Does.pickF rfl rfl ?_)
    refine GP.keep [(0, _), (1, _), (5, _), (6, _), (7, _), (14, _), (16, _), (17, _), (18, _), (168, _)] (.cons rfl (.cons rfl (.cons rfl (.cons rfl (.cons rfl (.cons rfl (.cons rfl (.cons rfl (.cons rfl (.cons rfl .nil)))))))))) ?_
    refine G.condF rfl ?_
    refine G.skip ?_
    repeat refine G.seq ?_
    refine G.region [.loc, .loc, .gen, .loc, .gen] (.take 0 (.take 1 (.take 2 (.take 3 (.take 4 .done))))) rfl ?_
    refine GP.take rfl rfl (Does.move rfl ?_)
    refine GP.take rfl rfl (Does.fieldAddr rfl fo31_1 ?_)
    refine GP.take rfl rfl (Does.load1 rfl ft3 (CellIn.own (.head _) rfl) ?_)
    refine GP.take rfl rfl (Does.indexAddr n rfl rfl sl67 rfl (by omega) ?_)
    refine GP.take0 rfl (Does.store1 rfl rfl sz4 rfl (.tail (.tail .head)) (rowB_set g spg n (by omega) true) ?_)
    refine GP.keep [(0, _), (1, _), (5, _), (6, _), (7, _), (14, _), (16, _), (17, _), (18, _)] (.cons rfl (.cons rfl (.cons rfl (.cons rfl (.cons rfl (.cons rfl (.cons rfl (.cons rfl (.cons rfl .nil))))))))) ?_
    repeat refine G.seq ?_
    refine G.join (S := Unit) (fun _ => [(0, .slice ad ks.length cap), (1, .slice ad1 ws.length cap1), (5, .pointer (some ⟨hb, 0, none⟩)), (6, .slice (some ⟨lb, 0, none⟩) m cap6), (7, .slice (some ⟨gb, 0, none⟩) m capg), (14, .int .i64 (lf : Int)), (16, s16), (17, .int .i64 (i2 : Int)), (18, .pointer (some ⟨b18, 0, none⟩)), (207, .bool false)]) (fun _ => (b18, cel 31 [.int .i64 k, .int .i64 (n : Int)]) :: (lb, cel 31 (inn.flatMap enc1 ++ sp6)) :: (gb, cel 4 ((g.set n true).flatMap rowB ++ spg)) :: (C16 ++ C1)) (fun _ => True) ?_ fun key => ?_
    case refine_1 =>
      rintro - -
      refine G.condF rfl ?_
      refine G.skip ?_
      repeat refine G.seq ?_
      refine G.region [.loc, .gen, .alloc, .gen, .loc] (.take 0 (.take 1 (.take 2 (.take 3 (.take 4 .done))))) rfl ?_
      refine GP.take rfl rfl (Does.move rfl ?_)
      refine GP.take rfl rfl (Does.loadA (vs := [.int .i64 k, .int .i64 (n : Int)]) rfl ag31 (RowIn.own (.head _) rfl) ?_)
      refine GP.take rfl rfl (Does.buildSlice (r := [_, _]) (.cons rfl .nil) sl34 zl31 (by decide) rfl fun b210 N210 h210 n210 => ?_)
      refine GP.take rfl rfl (Does.appendT rfl (l := out) (xs := [(k, (n : Int))]) (mc := 1) [(b210, cel 31 [.int .i64 k, .int .i64 (n : Int)]), (b18, cel 31 [.int .i64 k, .int .i64 (n : Int)]), (lb, cel 31 (inn.flatMap enc1 ++ sp6)), (gb, cel 4 ((g.set n true).flatMap rowB ++ spg))] C16 C1 rfl rfl rfl h16 (fun _ => ⟨b210, 0, rfl, RowIn.own (.head _) rfl⟩) (by simp only [List.length_cons, List.length_nil]; omega) ?_)
      intro s16n C16n h16n
      refine GP.take rfl rfl (Does.assign rfl ?_)
      refine GP.keep [(0, _), (1, _), (5, _), (6, _), (7, _), (14, _), (16, _), (17, _)] (.cons rfl (.cons rfl (.cons rfl (.cons rfl (.cons rfl (.cons rfl (.cons rfl (.cons rfl .nil)))))))) ?_
      refine G.dropP [(b210, cel 31 [.int .i64 k, .int .i64 (n : Int)]), (b18, cel 31 [.int .i64 k, .int .i64 (n : Int)])] (A := [(lb, cel 31 (inn.flatMap enc1 ++ sp6))] ++ ([(gb, cel 4 ((g.set n true).flatMap rowB ++ spg))] ++ (C16n ++ C1))) (by classical exact List.perm_iff_count.2 fun q => by simp only [List.count_append, List.count_cons, List.count_nil, List.nil_append, List.cons_append] <;> omega) ?_
      refine G.inBlock ?_
      repeat refine G.seq ?_
      refine G.region [.loc, .loc, .loc] (.take 0 (.take 1 (.take 2 .done))) rfl ?_
      refine GP.take rfl rfl (Does.move rfl ?_)
      refine GP.take rfl rfl (Does.add rfl rfl (r := ((i2 + 1 : Nat) : Int)) (wrc_i64 (by omega) (by omega) (by omega)) ?_)
      refine GP.take rfl rfl (Does.assign rfl ?_)
      refine GP.keep [(0, _), (1, _), (5, _), (6, _), (7, _), (14, _), (16, _), (17, _)] (.cons rfl (.cons rfl (.cons rfl (.cons rfl (.cons rfl (.cons rfl (.cons rfl (.cons rfl .nil)))))))) ?_
      have hS2 := hS.take hpm
      rw [hat] at hS2
      refine IH ⟨g.set n true, _, C1, .slice (some ⟨gb, 0, none⟩) m capg, [(gb, cel 4 ((g.set n true).flatMap rowB ++ spg))], out ++ [(k, (n : Int))], s16n, C16n, i2 + 1⟩ ⟨hS2, hrep1, popF_hd lawK hhd, by have := BRep.set (b := gb) hcg hspg n true; rw [hgl, hm] at this; exact this, h16n, by simp only [List.length_append, List.length_cons, List.length_nil]; omega, by simp only [hpl]; omega, ?_, fun _ => ⟨((k, (n : Int)), n), ?_, rfl, fun x hx => ?_⟩⟩ (by simp only; omega)
      · simp only [hpl]; rw [List.append_assoc, List.singleton_append, ← hpops]; exact hwant
      · simp only [Nat.add_sub_cancel]; rw [← hol]; simp
      · have := hhd.root' lawK x (hpm.mem_iff.1 (.tail _ hx))
        rw [hat] at this
        exact this
    case refine_2 =>
      by_cases hi0 : 0 < i2
      · obtain ⟨p, hp1, hp2, hple⟩ := hlst hi0
        have hpk := hple ((k, (n : Int)), n) (by rw [← hat, at_eq items 0 hpos]; exact List.getElem_mem hpos)
        rw [leK] at hpk
        simp only at hpk
        have hone : out ≠ [] := by rintro rfl; simp at hol; omega
        obtain ⟨ob, capo, spo, rfl, rfl, hco, hspo⟩ := h16.full hone
        rcases Int.lt_or_le p.1.1 k with hlt | hge
        · skip
          refine G.draw [.loc, .loc, .loc, .loc, .loc, .loc, .loc, .loc, .load, .loc, .load, .loc, .loc, .loc, .loc, .loc, .loc, .loc, .load, .loc, .load, .loc, .loc, .loc, .loc, .loc, .loc, .loc, .load, .loc, .load, .loc, .loc, .loc, .loc] (.take 0 (.take 1 (.take 2 (.take 3 (.take 4 (.take 5 (.take 6 (.take 7 (.take 9 (.take 8 (.take 10 (.take 11 (.take 12 (.take 13 (.take 14 (.take 15 (.take 16 (.take 17 (.take 19 (.take 18 (.take 20 (.take 21 (.take 22 (.take 23 (.take 24 (.take 25 (.take 26 (.take 27 (.take 29 (.take 28 (.take 30 (.take 31 (.take 32 (.take 33 (.take 34 .done))))))))))))))))))))))))))))))))))) (by exact mixed) (by kernel_rfl) ?_
          intro N hN0 hN
          refine GP.take rfl rfl (Does.move rfl ?_)
          refine GP.take rfl rfl (Does.gtr rfl rfl (show decide ((i2 : Int) > 0) = true from decide_eq_true (by omega)) ?_)
          refine GP.take rfl rfl (Does.move rfl ?_)
          refine GP.takeG rfl rfl rfl rfl (Does.move rfl ?_)
          refine GP.takeG rfl rfl rfl rfl (Does.move rfl ?_)
          refine GP.takeG rfl rfl rfl rfl (Does.sub rfl rfl (r := ((i2 - 1 : Nat) : Int)) (wrc_i64 (by omega) (by omega) (by omega)) ?_)
          refine GP.takeG rfl rfl rfl rfl (Does.indexAddr (i2 - 1) rfl rfl sl34 rfl (by omega) ?_)
          refine GP.takeG rfl rfl rfl rfl (Does.fieldAddr rfl fo31_0 ?_)
          refine GP.takeG rfl rfl rfl rfl (Does.fieldAddr rfl fo31_0 ?_)
          refine GP.takeG rfl rfl rfl rfl (Does.load1N rfl ft3 (hN _ (.tail _ (.tail _ (.tail _ (.head _))))) (CellIn.own (l := out.flatMap enc1 ++ spo) (.tail _ (.tail _ (.tail _ (.head _)))) (by have := (enc_at out spo (i2 - 1) p.1 hp1).1; simpa using this)) ?_)
          refine GP.takeG rfl rfl rfl rfl (Does.load1N rfl ft3 (hN _ (.head _)) (CellIn.own (.head _) rfl) ?_)
          refine GP.takeG rfl rfl rfl rfl (Does.gtr rfl rfl (show decide (p.1.1 > k) = false from decide_eq_false (by omega)) ?_)
          refine GP.takeG rfl rfl rfl rfl (Does.move rfl ?_)
          refine GP.takeG rfl rfl rfl rfl (Does.move rfl ?_)
          refine GP.takeG rfl rfl rfl rfl (Does.move rfl ?_)
          refine GP.takeG rfl rfl rfl rfl (Does.sub rfl rfl (r := ((i2 - 1 : Nat) : Int)) (wrc_i64 (by omega) (by omega) (by omega)) ?_)
          refine GP.takeG rfl rfl rfl rfl (Does.indexAddr (i2 - 1) rfl rfl sl34 rfl (by omega) ?_)
          refine GP.takeG rfl rfl rfl rfl (Does.fieldAddr rfl fo31_0 ?_)
          refine GP.takeG rfl rfl rfl rfl (Does.fieldAddr rfl fo31_0 ?_)
          refine GP.takeG rfl rfl rfl rfl (Does.load1N rfl ft3 (hN _ (.tail _ (.tail _ (.tail _ (.head _))))) (CellIn.own (l := out.flatMap enc1 ++ spo) (.tail _ (.tail _ (.tail _ (.head _)))) (by have := (enc_at out spo (i2 - 1) p.1 hp1).1; simpa using this)) ?_)
          refine GP.takeG rfl rfl rfl rfl (Does.load1N rfl ft3 (hN _ (.head _)) (CellIn.own (.head _) rfl) ?_)
          refine GP.takeG rfl rfl rfl rfl (Does.eql rfl rfl (show decide (p.1.1 = k) = false from decide_eq_false (by omega)) ?_)
          refine GP.takeG rfl rfl rfl rfl (Does.move rfl ?_)
          refine GP.pass rfl rfl rfl rfl rfl ?_
          refine GP.pass rfl rfl rfl rfl rfl ?_
          refine GP.pass rfl rfl rfl rfl rfl ?_
          refine GP.pass rfl rfl rfl rfl rfl ?_
          refine GP.pass rfl rfl rfl rfl rfl ?_
          refine GP.pass rfl rfl rfl rfl rfl ?_
          refine GP.pass rfl rfl rfl rfl rfl ?_
          refine GP.pass rfl rfl rfl rfl rfl ?_
          refine GP.pass rfl rfl rfl rfl rfl ?_
          refine GP.takeG rfl rfl rfl rfl (Does.pickF rfl rfl ?_)
          refine GP.takeG rfl rfl rfl rfl (Does.pickF rfl rfl ?_)
          refine GP.take rfl rfl (Does.pickT rfl rfl ?_)
          refine GP.keep [(0, _), (1, _), (5, _), (6, _), (7, _), (14, _), (16, _), (17, _), (18, _), (207, _)] (.cons rfl (.cons rfl (.cons rfl (.cons rfl (.cons rfl (.cons rfl (.cons rfl (.cons rfl (.cons rfl (.cons rfl .nil)))))))))) ?_
          exact key () trivial
        · have hek : p.1.1 = k := by omega
          refine G.draw [.loc, .loc, .loc, .loc, .loc, .loc, .loc, .loc, .load, .loc, .load, .loc, .loc, .loc, .loc, .loc, .loc, .loc, .load, .loc, .load, .loc, .loc, .loc, .loc, .loc, .loc, .loc, .load, .loc, .load, .loc, .loc, .loc, .loc] (.take 0 (.take 1 (.take 2 (.take 3 (.take 4 (.take 5 (.take 6 (.take 7 (.take 9 (.take 8 (.take 10 (.take 11 (.take 12 (.take 13 (.take 14 (.take 15 (.take 16 (.take 17 (.take 19 (.take 18 (.take 20 (.take 21 (.take 22 (.take 23 (.take 24 (.take 25 (.take 26 (.take 27 (.take 29 (.take 28 (.take 30 (.take 31 (.take 32 (.take 33 (.take 34 .done))))))))))))))))))))))))))))))))))) (by exact mixed) (by kernel_rfl) ?_
          intro N hN0 hN
          refine GP.take rfl rfl (Does.move rfl ?_)
          refine GP.take rfl rfl (Does.gtr rfl rfl (show decide ((i2 : Int) > 0) = true from decide_eq_true (by omega)) ?_)
          refine GP.take rfl rfl (Does.move rfl ?_)
          refine GP.takeG rfl rfl rfl rfl (Does.move rfl ?_)
          refine GP.takeG rfl rfl rfl rfl (Does.move rfl ?_)
          refine GP.takeG rfl rfl rfl rfl (Does.sub rfl rfl (r := ((i2 - 1 : Nat) : Int)) (wrc_i64 (by omega) (by omega) (by omega)) ?_)
          refine GP.takeG rfl rfl rfl rfl (Does.indexAddr (i2 - 1) rfl rfl sl34 rfl (by omega) ?_)
          refine GP.takeG rfl rfl rfl rfl (Does.fieldAddr rfl fo31_0 ?_)
          refine GP.takeG rfl rfl rfl rfl (Does.fieldAddr rfl fo31_0 ?_)
          refine GP.takeG rfl rfl rfl rfl (Does.load1N rfl ft3 (hN _ (.tail _ (.tail _ (.tail _ (.head _))))) (CellIn.own (l := out.flatMap enc1 ++ spo) (.tail _ (.tail _ (.tail _ (.head _)))) (by have := (enc_at out spo (i2 - 1) p.1 hp1).1; simpa using this)) ?_)
          refine GP.takeG rfl rfl rfl rfl (Does.load1N rfl ft3 (hN _ (.head _)) (CellIn.own (.head _) rfl) ?_)
          refine GP.takeG rfl rfl rfl rfl (Does.gtr rfl rfl (show decide (p.1.1 > k) = false from decide_eq_false (by omega)) ?_)
          refine GP.takeG rfl rfl rfl rfl (Does.move rfl ?_)
          refine GP.takeG rfl rfl rfl rfl (Does.move rfl ?_)
          refine GP.takeG rfl rfl rfl rfl (Does.move rfl ?_)
          refine GP.takeG rfl rfl rfl rfl (Does.sub rfl rfl (r := ((i2 - 1 : Nat) : Int)) (wrc_i64 (by omega) (by omega) (by omega)) ?_)
          refine GP.takeG rfl rfl rfl rfl (Does.indexAddr (i2 - 1) rfl rfl sl34 rfl (by omega) ?_)
          refine GP.takeG rfl rfl rfl rfl (Does.fieldAddr rfl fo31_0 ?_)
          refine GP.takeG rfl rfl rfl rfl (Does.fieldAddr rfl fo31_0 ?_)
          refine GP.takeG rfl rfl rfl rfl (Does.load1N rfl ft3 (hN _ (.tail _ (.tail _ (.tail _ (.head _))))) (CellIn.own (l := out.flatMap enc1 ++ spo) (.tail _ (.tail _ (.tail _ (.head _)))) (by have := (enc_at out spo (i2 - 1) p.1 hp1).1; simpa using this)) ?_)
          refine GP.takeG rfl rfl rfl rfl (Does.load1N rfl ft3 (hN _ (.head _)) (CellIn.own (.head _) rfl) ?_)
          refine GP.takeG rfl rfl rfl rfl (Does.eql rfl rfl (show decide (p.1.1 = k) = true from decide_eq_true hek) ?_)
          refine GP.takeG rfl rfl rfl rfl (Does.move rfl ?_)
          refine GP.takeG rfl rfl rfl rfl (Does.move rfl ?_)
          refine GP.takeG rfl rfl rfl rfl (Does.move rfl ?_)
          refine GP.takeG rfl rfl rfl rfl (Does.sub rfl rfl (r := ((i2 - 1 : Nat) : Int)) (wrc_i64 (by omega) (by omega) (by omega)) ?_)
          refine GP.takeG rfl rfl rfl rfl (Does.indexAddr (i2 - 1) rfl rfl sl34 rfl (by omega) ?_)
          refine GP.takeG rfl rfl rfl rfl (Does.fieldAddr rfl fo31_1 ?_)
          refine GP.takeG rfl rfl rfl rfl (Does.fieldAddr rfl fo31_1 ?_)
          refine GP.takeG rfl rfl rfl rfl (Does.load1N rfl ft3 (hN _ (.tail _ (.tail _ (.tail _ (.head _))))) (CellIn.own (l := out.flatMap enc1 ++ spo) (.tail _ (.tail _ (.tail _ (.head _)))) (by have := (enc_at out spo (i2 - 1) p.1 hp1).2; simpa using this)) ?_)
          refine GP.takeG rfl rfl rfl rfl (Does.load1N rfl ft3 (hN _ (.head _)) (CellIn.own (.head _) rfl) ?_)
          refine GP.takeG rfl rfl rfl rfl (Does.gtr rfl rfl (show decide (p.1.2 > (n : Int)) = false from decide_eq_false (by omega)) ?_)
          refine GP.takeG rfl rfl rfl rfl (Does.pickT rfl rfl ?_)
          refine GP.takeG rfl rfl rfl rfl (Does.pickF rfl rfl ?_)
          refine GP.take rfl rfl (Does.pickT rfl rfl ?_)
          refine GP.keep [(0, _), (1, _), (5, _), (6, _), (7, _), (14, _), (16, _), (17, _), (18, _), (207, _)] (.cons rfl (.cons rfl (.cons rfl (.cons rfl (.cons rfl (.cons rfl (.cons rfl (.cons rfl (.cons rfl (.cons rfl .nil)))))))))) ?_
          exact key () trivial
      · skip
        refine G.draw [.loc, .loc, .loc, .loc, .loc, .loc, .loc, .loc, .load, .loc, .load, .loc, .loc, .loc, .loc, .loc, .loc, .loc, .load, .loc, .load, .loc, .loc, .loc, .loc, .loc, .loc, .loc, .load, .loc, .load, .loc, .loc, .loc, .loc] (.take 0 (.take 1 (.take 2 (.take 3 (.take 4 (.take 5 (.take 6 (.take 7 (.take 9 (.take 8 (.take 10 (.take 11 (.take 12 (.take 13 (.take 14 (.take 15 (.take 16 (.take 17 (.take 19 (.take 18 (.take 20 (.take 21 (.take 22 (.take 23 (.take 24 (.take 25 (.take 26 (.take 27 (.take 29 (.take 28 (.take 30 (.take 31 (.take 32 (.take 33 (.take 34 .done))))))))))))))))))))))))))))))))))) (by exact mixed) (by kernel_rfl) ?_
        intro N hN0 hN
        refine GP.take rfl rfl (Does.move rfl ?_)
        refine GP.take rfl rfl (Does.gtr rfl rfl (show decide ((i2 : Int) > 0) = false from decide_eq_false (by omega)) ?_)
        refine GP.take rfl rfl (Does.move rfl ?_)
        refine GP.pass rfl rfl rfl rfl rfl ?_
        refine GP.pass rfl rfl rfl rfl rfl ?_
        refine GP.pass rfl rfl rfl rfl rfl ?_
        refine GP.pass rfl rfl rfl rfl rfl ?_
        refine GP.pass rfl rfl rfl rfl rfl ?_
        refine GP.pass rfl rfl rfl rfl rfl ?_
        refine GP.pass rfl rfl rfl rfl rfl ?_
        refine GP.pass rfl rfl rfl rfl rfl ?_
        refine GP.pass rfl rfl rfl rfl rfl ?_
        refine GP.pass rfl rfl rfl rfl rfl ?_
        refine GP.pass rfl rfl rfl rfl rfl ?_
        refine GP.pass rfl rfl rfl rfl rfl ?_
        refine GP.pass rfl rfl rfl rfl rfl ?_
        refine GP.pass rfl rfl rfl rfl rfl ?_
        refine GP.pass rfl rfl rfl rfl rfl ?_
        refine GP.pass rfl rfl rfl rfl rfl ?_
        refine GP.pass rfl rfl rfl rfl rfl ?_
        refine GP.pass rfl rfl rfl rfl rfl ?_
        refine GP.pass rfl rfl rfl rfl rfl ?_
        refine GP.pass rfl rfl rfl rfl rfl ?_
        refine GP.pass rfl rfl rfl rfl rfl ?_
        refine GP.pass rfl rfl rfl rfl rfl ?_
        refine GP.pass rfl rfl rfl rfl rfl ?_
        refine GP.pass rfl rfl rfl rfl rfl ?_
        refine GP.pass rfl rfl rfl rfl rfl ?_
        refine GP.pass rfl rfl rfl rfl rfl ?_
        refine GP.pass rfl rfl rfl rfl rfl ?_
        refine GP.pass rfl rfl rfl rfl rfl ?_
        refine GP.pass rfl rfl rfl rfl rfl ?_
        refine GP.pass rfl rfl rfl rfl rfl ?_
        refine GP.pass rfl rfl rfl rfl rfl ?_
        refine GP.take rfl rfl (Does.pickF rfl rfl ?_)
        refine GP.keep [(0, _), (1, _), (5, _), (6, _), (7, _), (14, _), (16, _), (17, _), (18, _), (207, _)] (.cons rfl (.cons rfl (.cons rfl (.cons rfl (.cons rfl (.cons rfl (.cons rfl (.cons rfl (.cons rfl (.cons rfl .nil)))))))))) ?_
        exact key () trivial
  intro hz2
  clear IH
  refine G.exit rfl ?_
  repeat refine G.seq ?_
  have hi0' : items.length = 0 := by omega
  have hit0 : items = [] := List.eq_nil_of_length_eq_zero hi0'
  obtain ⟨ad16, cap16, lb16, hs16, -, hcap16, -, -⟩ := h16.form
  subst hs16
  refine G.region [.loc, .gen, .loc] (.take 0 (.take 1 (.take 2 .done))) rfl ?_
  refine GP.take rfl rfl (Does.move rfl ?_)
  refine GP.take rfl rfl (Does.callP (C6 ++ (C7 ++ C16)) C0 (.cons rfl .nil) cb15 (by classical exact List.perm_iff_count.2 fun q => by simp only [List.count_append] <;> omega) (len1 hb items m C0 hrep) (fun _ _ => trivial) ?_)
  rintro _ C9 ⟨rfl, hC9⟩
  obtain rfl := hC9.symm
  refine ⟨C6 ++ (C7 ++ (C16 ++ C0)), (by classical exact List.perm_iff_count.2 fun q => by simp only [List.count_append] <;> omega), ?_⟩
  refine GP.take rfl rfl (Does.neq rfl rfl (show (!decide ((items.length : Int) = 0)) = false by rw [hi0']; rfl) ?_)
  refine GP.keep [(1, _), (6, _), (16, _), (214, _)] (.cons rfl (.cons rfl (.cons rfl (.cons rfl .nil)))) ?_
  repeat refine G.seq ?_
  refine G.condF rfl ?_
  refine G.skip ?_
  repeat refine G.seq ?_
  refine G.region [.loc, .loc, .loc] (.take 0 (.take 1 (.take 2 .done))) rfl ?_
  refine GP.take rfl rfl (Does.move rfl ?_)
  refine GP.take rfl rfl (Does.len rfl is48 ?_)
  refine GP.take rfl rfl (Does.gtr rfl rfl rfl ?_)
  refine GP.keep [(1, _), (6, _), (16, _), (217, _)] (.cons rfl (.cons rfl (.cons rfl (.cons rfl .nil)))) ?_
  repeat refine G.seq ?_
  refine G.cond rfl ?_ ?_
  · intro hz3
    repeat refine G.seq ?_
    refine G.region [.loc] (.take 0 .done) rfl ?_
    refine GP.take rfl rfl (Does.assign rfl ?_)
    refine GP.keep [(4, _)] (.cons rfl .nil) ?_
    exact fin_ret (fn := Try.f10) Try.func10 (res1 rfl rfl) .nil ⟨rfl, rfl⟩
  intro hz3
  have hw0 : ws.length = 0 := by omega
  refine G.skip ?_
  repeat refine G.seq ?_
  rw [hi0'] at hwant
  simp only [popsF, List.append_nil] at hwant
  have hout : sortF cmpK inn = out := by rw [hwant, hfin hw0]
  have hlf3 := hlf2 hw0
  have hom : out.length = m := by omega
  have hml : inn.length = m := hm
  have hmin : (min ((m / 2 : Nat) : Int) inn.length).toNat = m / 2 := by omega
  have hmin2 : (min ((m + 1 : Nat) : Int) inn.length).toNat = m := by omega
  have hlt1 : leastF cmpK inn (m / 2) = out.take (m / 2) := by rw [least_take lawK antiK inn _ (by omega), hout]
  have hlt2 : leastF cmpK inn m = out := by rw [least_take lawK antiK inn _ (by omega), hout, List.take_of_length_le (by omega)]
  clear hml
  subst hm
  have hs1l := sortF_length cmpK inn
  have hs2l := leastF_length cmpK inn inn.length
  have hq2 : (inn.length : Int).tdiv 2 = ((inn.length / 2 : Nat) : Int) := (Int.ofNat_tdiv _ _).symm
  refine G.draw [.loc, .gen, .loc, .gen, .loc, .loc, .loc, .loc, .loc, .gen, .loc, .loc, .loc, .loc, .loc, .gen, .loc, .loc, .loc, .loc, .loc, .loc, .gen, .loc, .gen, .loc, .loc] (.take 0 (.take 2 (.alt 1 (.alt 3 (.take 4 (.take 5 (.take 6 (.take 7 (.take 8 (.take 10 (.take 11 (.take 12 (.take 13 (.take 14 (.alt 9 (.alt 15 (.take 16 (.take 17 (.take 18 (.take 19 (.take 20 (.take 21 (.take 23 (.alt 22 (.alt 24 (.take 25 (.take 26 .done)) .stop) .stop)))))))) .stop) .stop))))))))))) .stop) .stop))) (by exact mixed) (by kernel_rfl) ?_
  intro N hN0 hN
  refine GP.take rfl rfl (Does.move rfl ?_)
  refine GP.take rfl rfl (Does.move rfl ?_)
  refine GP.one ?_
  refine GP.take rfl rfl (Does.callN (.cons rfl (.cons rfl .nil)) cb35 (sort_ct byK_ok (.func (.func 14) #[] #[]) (new_ct 14 #[] #[]) inn ad6 cap6 lb6 0 0 had6 (by simp) (by omega)) (fun w hs j u hj => hrow6 (cxF Try.prog 10 Try.f10.ntmps w0 (List.map Prod.fst ([] : Chunks)) fun v C' => v = .bool true ∧ C' = []) [] (C7 ++ (C16 ++ C0)) w (by simpa using hs) j u hj) ?_)
  rintro sv1 _ ⟨Cs1, hl1, rfl⟩
  simp only [List.append_nil]
  refine GP.one ?_
  obtain ⟨pr, hct, hpr⟩ := same_call (X := cxF Try.prog 10 Try.f10.ntmps w0 (List.map Prod.fst ([] : Chunks)) fun v C' => v = .bool true ∧ C' = []) (C := C6 ++ (C7 ++ (C16 ++ C0)) ++ (Cs1 ++ [])) _ _ sv1 (.slice ad16 out.length cap16) (C6 ++ (C7 ++ (C16 ++ C0))) (Cs1) ([]) (C6 ++ C7) (C16) (C0 ++ Cs1) hl1 h16 hout (by omega) (by simp) (by simp)
  refine GP.take rfl rfl (Does.callN (.cons rfl (.cons rfl .nil)) cb29 hct (fun w hs => hpr w (by simpa using hs)) ?_)
  rintro _ _ ⟨rfl, rfl⟩
  clear hct hpr
  simp only [List.append_nil]
  refine GP.take rfl rfl (Does.move rfl ?_)
  refine GP.takeG rfl rfl rfl rfl (Does.move rfl ?_)
  refine GP.takeG rfl rfl rfl rfl (Does.move rfl ?_)
  refine GP.takeG rfl rfl rfl rfl (Does.len rfl is34 ?_)
  refine GP.takeG rfl rfl rfl rfl (Does.quo rfl rfl (by omega) (r := ((inn.length / 2 : Nat) : Int)) (wrc_i64 hq2 (by rw [hq2]; omega) (by rw [hq2]; omega)) ?_)
  refine GP.takeG rfl rfl rfl rfl (Does.move rfl ?_)
  refine GP.takeG rfl rfl rfl rfl (Does.move rfl ?_)
  refine GP.takeG rfl rfl rfl rfl (Does.len rfl is34 ?_)
  refine GP.takeG rfl rfl rfl rfl (Does.quo rfl rfl (by omega) (r := ((inn.length / 2 : Nat) : Int)) (wrc_i64 hq2 (by rw [hq2]; omega) (by rw [hq2]; omega)) ?_)
  refine GP.takeG rfl rfl rfl rfl (Does.sliceToG (inn.length / 2) rfl rfl sl34 rfl (by omega) ?_)
  refine GP.one ?_
  refine GP.takeG rfl rfl rfl rfl (Does.callN (.cons rfl (.cons rfl (.cons rfl .nil))) cb33 (least_ct byK_ok (.func (.func 14) #[] #[]) (.inl rfl) inn (inn.length / 2 : Nat) ad6 cap6 lb6 0 0 had6 (by simp) (by omega)) (fun w hs j u hj => hrow6 (cxF Try.prog 10 Try.f10.ntmps w0 (List.map Prod.fst ([] : Chunks)) fun v C' => v = .bool true ∧ C' = []) [] (C7 ++ (C16 ++ C0) ++ Cs1) w (by simpa using hs) j u hj) ?_)
  rintro sv2 _ ⟨Cs2, hl2, rfl⟩
  simp only [List.append_nil]
  rw [hmin] at hl2
  refine GP.one ?_
  obtain ⟨pr, hct, hpr⟩ := same_take (X := cxF Try.prog 10 Try.f10.ntmps w0 (List.map Prod.fst ([] : Chunks)) fun v C' => v = .bool true ∧ C' = []) (C := (C6 ++ (C7 ++ (C16 ++ C0)) ++ Cs1) ++ (Cs2 ++ [])) _ out sv2 ad16 cap16 (inn.length / 2) (C6 ++ (C7 ++ (C16 ++ C0)) ++ Cs1) Cs2 [] (C6 ++ C7) C16 (C0 ++ Cs1 ++ Cs2) hl2 h16 (by omega) hlt1 (by rw [hlt1, List.length_take]; omega) (by simp) (by simp)
  refine GP.takeG rfl rfl rfl rfl (Does.callN (.cons rfl (.cons rfl .nil)) cb29 hct (fun w hs => hpr w (by simpa using hs)) ?_)
  rintro _ _ ⟨rfl, rfl⟩
  clear hct hpr
  simp only [List.append_nil]
  refine GP.take rfl rfl (Does.pickT rfl rfl ?_)
  refine GP.take rfl rfl (Does.move rfl ?_)
  refine GP.takeG rfl rfl rfl rfl (Does.move rfl ?_)
  refine GP.takeG rfl rfl rfl rfl (Does.move rfl ?_)
  refine GP.takeG rfl rfl rfl rfl (Does.len rfl is34 ?_)
  refine GP.takeG rfl rfl rfl rfl (Does.add rfl rfl (r := ((inn.length + 1 : Nat) : Int)) (wrc_i64 (by omega) (by omega) (by omega)) ?_)
  refine GP.takeG rfl rfl rfl rfl (Does.move rfl ?_)
  refine GP.one ?_
  refine GP.takeG rfl rfl rfl rfl (Does.callN (.cons rfl (.cons rfl (.cons rfl .nil))) cb33 (least_ct byK_ok (.func (.func 14) #[] #[]) (.inl rfl) inn (inn.length + 1 : Nat) ad6 cap6 lb6 0 0 had6 (by simp) (by omega)) (fun w hs j u hj => hrow6 (cxF Try.prog 10 Try.f10.ntmps w0 (List.map Prod.fst ([] : Chunks)) fun v C' => v = .bool true ∧ C' = []) [] (C7 ++ (C16 ++ C0) ++ Cs1 ++ Cs2) w (by simpa using hs) j u hj) ?_)
  rintro sv3 _ ⟨Cs3, hl3, rfl⟩
  simp only [List.append_nil]
  rw [hmin2] at hl3
  refine GP.one ?_
  obtain ⟨pr, hct, hpr⟩ := same_call (X := cxF Try.prog 10 Try.f10.ntmps w0 (List.map Prod.fst ([] : Chunks)) fun v C' => v = .bool true ∧ C' = []) (C := C6 ++ (C7 ++ (C16 ++ C0)) ++ Cs1 ++ Cs2 ++ (Cs3 ++ [])) _ _ sv3 (.slice ad16 out.length cap16) (C6 ++ (C7 ++ (C16 ++ C0)) ++ Cs1 ++ Cs2) (Cs3) ([]) (C6 ++ C7) (C16) (C0 ++ Cs1 ++ Cs2 ++ Cs3) hl3 h16 hlt2 (by omega) (by simp) (by simp)
  refine GP.takeG rfl rfl rfl rfl (Does.callN (.cons rfl (.cons rfl .nil)) cb29 hct (fun w hs => hpr w (by simpa using hs)) ?_)
  rintro _ _ ⟨rfl, rfl⟩
  clear hct hpr
  simp only [List.append_nil]
  refine GP.take rfl rfl (Does.pickT rfl rfl ?_)
  refine GP.take rfl rfl (Does.assign rfl ?_)
  refine GP.keep [(4, _)] (.cons rfl .nil) ?_
  exact fin_ret (fn := Try.f10) Try.func10 (res1 rfl rfl) .nil ⟨rfl, rfl⟩
set_option maxRecDepth 100000 in
theorem heapSorts_contract (H : Type) (enc : TypeId × Value → H) (W : World) (base : Nat) (args : Array Value) (ds gs : List (DataW H)) (before : List MemPlace)
    (hval : ∀ (j : Nat) t v, Try.f10.params[j]? = some t → args[j]? = some v → Value.okWide Try.prog W .any base t v)
    (hW : DataW.Whole enc Try.prog Try.f10.params.toList Rows.heapSortsSpec.vars false W args.toList ds gs before) (hk : Rows.uptoSmall H (ds ++ gs) = true) :
    Calls Try.prog 10 args W fun e W' => ∃ v, e = .returned v ∧ Rows.heapSortsSpec.post enc Try.prog Try.f10 false true false false W args v W' := by
  have hW0 := hW
  obtain ⟨p, q, hA, -, -, -, -⟩ := hW
  have hsm : Rows.uptoBulkAll (ds ++ gs) ≤ 1048576 := of_decide_eq_true hk
  obtain ⟨v, vs, d, ds', p1, q1, n1, hargs, rfl, rfl, h1, h2⟩ := trodAll_split (t := 48) (ts := [48]) hA
  obtain ⟨v2, vs2, d2, ds2, p2, q2, n2, rfl, rfl, rfl, h3, h4⟩ := trodAll_split (t := 48) (ts := []) h2
  obtain ⟨rfl, rfl, rfl⟩ := trodAll_end h4
  obtain rfl : args = #[v, v2] := by cases args; simpa using hargs
  obtain ⟨a0, len, cap, rfl⟩ := Go.WideShapes.okWide_slice Try.underlying48 (hval 0 48 _ rfl rfl)
  obtain ⟨a1, len1, cap1, rfl⟩ := Go.WideShapes.okWide_slice Try.underlying48 (hval 1 48 _ rfl rfl)
  obtain ⟨ks, ad, cap', b, o, e1, e2, e3, e4, e5, e6⟩ := inv_ints h1
  obtain ⟨ws, ad1, cap1', b1, o1, f1, f2, f3, f4, f5, f6⟩ := inv_ints h3
  have e1' : [Value.slice a0 len cap] = [.slice ad ks.length cap'] := e1
  have f1' : [Value.slice a1 len1 cap1] = [.slice ad1 ws.length cap1'] := f1
  simp only [List.cons.injEq, Value.slice.injEq, and_true] at e1' f1'
  obtain ⟨rfl, rfl, rfl⟩ := e1'
  obtain ⟨rfl, rfl, rfl⟩ := f1'
  have hbd : Rows.uptoBulk d + (Rows.uptoBulk d2 + Rows.uptoBulkAll gs) ≤ 1048576 := hsm
  have e6' : ks.length + 1 ≤ Rows.uptoBulk d := e6
  have f6' : ws.length + 1 ≤ Rows.uptoBulk d2 := f6
  refine (sorts_walk ks a0 cap b o e3 ws a1 cap1 b1 o1 f3 (by omega) W (by simp) (by simp) ⟨e4, f4⟩).mono ?_
  rintro e W' ⟨_, rfl, C', ⟨rfl, rfl⟩, hst⟩
  exact ⟨_, rfl, law_post laid maps full (by decide +kernel) rfl (fun ds hds => by match ds, hds with | [d, d2], _ => rfl) rfl Try.underlying4 hW0 hst.mods.below⟩
set_option maxRecDepth 100000 in
theorem heapSorts_lifted (os : Os) (started : os.Started) (H : Type) (enc : TypeId × Value → H) (F : Stop.Interp) :
    ReturnsInHanded {} Try.checked os 10 .any ((Rows.OpenSpec.upto Rows.heapSortsSpec).pre6 enc Try.prog Try.f10 Rows.heapSortsUptoRow.domain false) (((Rows.OpenSpec.upto Rows.heapSortsSpec).at F).post enc Try.prog Try.f10 false true false false) := by
  refine returnsInHanded_of_cond (C := Try.checked) (s := Rows.OpenSpec.upto Rows.heapSortsSpec) (k := Rows.uptoSmall) rfl own started (by kernel_rfl) Try.func10
    (OpenSpec.witness (enc := enc) (C := Try.checked) (s := Rows.OpenSpec.upto Rows.heapSortsSpec) (k := Rows.uptoSmall) rfl false ⟨#[], #[.slice none 0 0, .slice none 0 0], []⟩ 8 (by kernel_rfl) (by kernel_rfl) (by kernel_rfl)
      (x := ([.nil, .nil], [], [])) (by kernel_rfl) rfl (by kernel_rfl)) ?_
  intro W base args ds gs before hval hW _ hk _
  exact heapSorts_contract H enc W base args ds gs before hval hW hk

/-- THE STATEMENT. -/
theorem heapSorts_holds : Rows.HeapSortsUptoSaid :=
  OpenClaim.holds_of_cond 10 Try.f10 rfl rfl rfl rfl rfl rfl rfl ⟨rfl, rfl, rfl, rfl, rfl⟩ rfl rfl rfl rfl rfl (by kernel_rfl) Try.func10 (by kernel_rfl)
    (of_decide_eq_true (by kernel_rfl)) (by unfold Func.isWrapper; first | (rw [if_pos (by decide +kernel)]; kernel_rfl) | (rw [if_neg (by decide +kernel)]; exact ⟨rfl, rfl⟩))
    (fun os started H enc _ F => heapSorts_lifted os started H enc F)

end Go.Proofs.Ytcgenmfnlocbbaa.T
