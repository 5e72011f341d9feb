/- 'HeapDrains': Drain of any heap, left early and ranged over again, with calls on the heap from within the loop, gives what the document gives, and what was handed in stays the caller's. For every list, rounds and script of at most 1048576 values together. -/
import Derived.Test.YtcgenmfnlocbbaaRows
import Derived.Test.YtcgenmfnlocbbaaHa
import Derived.Test.YtcgenmfnlocbbaaL9
namespace Go.Proofs.Ytcgenmfnlocbbaa.T
open Go.Lg Go.Hp Go.RowKit
theorem ag38 : aggT Try.prog 38 = some 3 := by kernel_rfl
theorem ft27 : flatT Try.prog 27 = true := by kernel_rfl
theorem ft4 : flatT Try.prog 4 = true := by kernel_rfl
theorem ft48 : flatT Try.prog 48 = true := by kernel_rfl
theorem gd28 : Try.prog.eqGuardType Try.prog.depth 28 = false := by kernel_rfl
theorem is27 : isSlice Try.prog 27 = true := by kernel_rfl
theorem is48 : isSlice Try.prog 48 = true := by kernel_rfl
theorem sl27 : sliceElem Try.prog 27 = some (38, 3) := by kernel_rfl
theorem sl48 : sliceElem Try.prog 48 = some (3, 1) := by kernel_rfl
theorem sz28 : sizeT Try.prog 28 = some 1 := by kernel_rfl
theorem sz4 : sizeT Try.prog 4 = some 1 := by kernel_rfl
theorem zl28 : zeroL Try.prog 28 = some [.pointer none] := by kernel_rfl
theorem zl3 : zeroL Try.prog 3 = some [.int .i64 0] := by kernel_rfl
theorem zl4 : zeroL Try.prog 4 = some [.bool false] := by kernel_rfl
theorem own : ownKnob Try.prog.godebug = none := by kernel_rfl
theorem laid : laidOutB Try.prog = true := by kernel_rfl
theorem maps : mapsRowed Try.prog = true := by kernel_rfl
theorem full : ∀ t e, t < Try.prog.types.size → Try.prog.underlying t = some (.slice e) → 0 < Try.prog.cellsOf e := slices_full_of Try.prog (by kernel_rfl)

/-- below W all lies as it lay -/
def Old (W w : World) : Prop := W.heap.size ≤ w.heap.size ∧ ∀ k, k < W.heap.size → w.heap[k]? = W.heap[k]?
theorem Old.cell {W w : World} (h : Old W w) {b o : Nat} {v : Value} (hc : W.cell? ⟨b, o, none⟩ = some v) : w.cell? ⟨b, o, none⟩ = some v := by
  have hb := cell_lt hc
  simp only [World.cell?, h.2 b hb] at hc ⊢
  exact hc
theorem Old.row {W : World} {X : Cx} {C : Chunks} (hO : Old W X.w0) (hB : ∀ x ∈ X.B0, W.heap.size ≤ x) {b o : Nat} {vs : List Value} (h : ∀ i v, vs[i]? = some v → W.cell? ⟨b, o + i, none⟩ = some v) : RowIn X C b o vs := fun w hs i v hi => by
  have hc := h i v hi
  have hb := cell_lt hc
  exact CellIn.old (C := C) (fun hm => by have := hB _ hm; omega) (hO.cell hc) w hs
theorem knows_nil {tm : Array Value} : ∀ (s : Nat) (u : Value), Go.Lg.look [] s = some u → tm[s]? = some u := fun _ _ h => by cases h
theorem knows_cons {L : Env} {tm : Array Value} {a : Nat} {v : Value} (h : tm[a]? = some v) (hL : ∀ (s : Nat) (u : Value), Go.Lg.look L s = some u → tm[s]? = some u) : ∀ (s : Nat) (u : Value), Go.Lg.look ((a, v) :: L) s = some u → tm[s]? = some u := fun s u hu => by
  by_cases e : a = s
  · subst e; rw [look_cons_same] at hu; cases hu; exact h
  · rw [look_cons_ne e] at hu; exact hL s u hu
/-- between two rounds of a drain -/
structure DrS where
  l : List (Int × Int)
  sv : Value
  Cl : Chunks
  items : List ((Int × Int) × Nat)
  came : Nat
  C0 : Chunks
  st : Nat
  n : Nat
  gv : Bool
  rc : Loop
theorem drains_walk (l : List (Int × Int)) (ad : Option Addr) (cap b o : Nat) (had : l ≠ [] → ad = some ⟨b, o, none⟩) (rs : List Int) (ad1 : Option Addr) (cap1 b1 o1 : Nat) (had1 : rs ≠ [] → ad1 = some ⟨b1, o1, none⟩)
    (ts : List Tn) (ad2 : Option Addr) (cap2 b2 o2 : Nat) (had2 : ts ≠ [] → ad2 = some ⟨b2, o2, none⟩) (hbulk : l.length + rs.length + (ts.map fun t => t.l.length + 1).sum ≤ 1048576) :
    Ct Try.prog 6 [.slice ad l.length cap, .slice ad1 rs.length cap1, .slice ad2 ts.length cap2].toArray (fun w => At w b o (l.flatMap enc1) ∧ At w b1 o1 (rs.flatMap fun x => [.int .i64 x]) ∧ At w b2 o2 (ts.flatMap rowT) ∧ ∀ t ∈ ts, t.ok w) [] (fun v C' => v = .bool true ∧ C' = []) := by
  refine ct_of_walk (fn := Try.f6) Try.func6 rfl rfl fun w0 hpre hst => ?_
  clear hst
  repeat refine G.seq ?_
  obtain ⟨hl, hrs, hts, htok⟩ := hpre
  refine G.region [.alloc, .alloc, .alloc] (.take 0 (.take 1 (.take 2 .done))) rfl ?_
  refine GP.take rfl rfl (Does.box (T := 48) rfl rfl fun b4 N4 h4 n4 => ?_)
  refine GP.take rfl rfl (Does.box (T := 27) rfl rfl fun b5 N5 h5 n5 => ?_)
  refine GP.take rfl rfl (Does.alloc zl4 fun b6 Nb6 hb6 nb6 => ?_)
  refine GP.keep [(0, _), (4, _), (5, _), (6, _)] (.cons rfl (.cons rfl (.cons rfl (.cons rfl .nil)))) ?_
  repeat refine G.seq ?_
  refine G.region [.gen, .alloc, .gen] (.take 0 (.take 1 (.take 2 .done))) rfl ?_
  refine GP.take rfl rfl (Does.callN (.cons rfl .nil) cb13 (new_ct 14 #[] #[]) (fun _ _ => trivial) ?_)
  rintro _ C0 ⟨hb, rfl, hrep⟩
  refine GP.take rfl rfl (Does.alloc zl28 fun b7 Nb7 hb7 nb7 => ?_)
  refine GP.take0 rfl (Does.store1 rfl rfl sz28 rfl (by first | exact .head | exact .tail .head | exact .tail (.tail .head) | exact .tail (.tail (.tail .head)) | exact .tail (.tail (.tail (.tail .head))) | exact .tail (.tail (.tail (.tail (.tail .head))))) (by first | exact .head | exact .tail .head | exact .tail (.tail .head) | exact .tail (.tail (.tail .head))) ?_)
  refine GP.keep [(0, _), (4, _), (5, _), (6, _), (7, _)] (.cons rfl (.cons rfl (.cons rfl (.cons rfl (.cons rfl .nil))))) ?_
  repeat refine G.seq ?_
  refine G.region [.gen, .loc] (.take 0 (.take 1 .done)) rfl ?_
  refine GP.take rfl rfl (Does.load1 rfl ft28 (CellIn.own (by first | exact .head _ | exact .tail _ (.head _) | exact .tail _ (.tail _ (.head _)) | exact .tail _ (.tail _ (.tail _ (.head _))) | exact .tail _ (.tail _ (.tail _ (.tail _ (.head _)))) | exact .tail _ (.tail _ (.tail _ (.tail _ (.tail _ (.head _)))))) rfl) ?_)
  refine GP.take rfl rfl (Does.eqlNil rfl rfl Try.underlying28 gd28 rfl ?_)
  refine GP.keep [(0, _), (4, _), (5, _), (6, _), (7, _), (21, _)] (.cons rfl (.cons rfl (.cons rfl (.cons rfl (.cons rfl (.cons rfl .nil)))))) ?_
  repeat refine G.seq ?_
  refine G.condF rfl ?_
  refine G.skip ?_
  repeat refine G.seq ?_
  refine G.region [.alloc] (.take 0 .done) rfl ?_
  refine GP.take rfl rfl (Does.alloc zl34 fun b8 Nb8 hb8 nb8 => ?_)
  refine GP.keep [(0, _), (4, _), (5, _), (6, _), (7, _), (8, _)] (.cons rfl (.cons rfl (.cons rfl (.cons rfl (.cons rfl (.cons rfl .nil)))))) ?_
  repeat refine G.seq ?_
  refine G.dropP [] (A := (b8, cel 34 [.slice none 0 0]) :: (b7, cel 28 [.pointer (some ⟨hb, 0, none⟩)]) :: (b6, cel 4 [.bool false]) :: (b5, cel 27 [.slice ad2 ts.length cap2]) :: (b4, cel 48 [.slice ad1 rs.length cap1]) :: C0) (by classical exact List.perm_iff_count.2 fun q => by simp only [List.nil_append, List.cons_append, List.count_append, List.count_cons, List.count_nil] <;> omega) ?_
  refine G.region [.gen, .loc, .gen, .gen] (.take 0 (.take 1 (.take 2 (.take 3 .done)))) rfl ?_
  refine GP.take rfl rfl (Does.load1 rfl ft34 (CellIn.own (.head _) rfl) ?_)
  refine GP.take rfl rfl (Does.move rfl ?_)
  refine GP.take rfl rfl (Does.appendT rfl (l := []) (xs := l) (ad2 := ad) (mc := cap) [(b8, cel 34 [.slice none 0 0]), (b7, cel 28 [.pointer (some ⟨hb, 0, none⟩)]), (b6, cel 4 [.bool false]), (b5, cel 27 [.slice ad2 ts.length cap2]), (b4, cel 48 [.slice ad1 rs.length cap1])] [] C0 rfl rfl rfl LRep.nil (fun hne => ⟨b, o, had hne, At.row (by simp) hl⟩) (by simp; omega) ?_)
  intro sv Cl hsv
  simp only [List.nil_append] at hsv
  refine GP.take0 rfl (Does.store1 rfl rfl sz34 (by obtain ⟨_, _, _, e, -⟩ := hsv.form; rw [e]; rfl) .head .head ?_)
  refine GP.keep [(0, _), (4, _), (5, _), (6, _), (7, _), (8, _)] (.cons rfl (.cons rfl (.cons rfl (.cons rfl (.cons rfl (.cons rfl .nil)))))) ?_
  repeat refine G.seq ?_
  refine G.fact (p := l ≠ [] → b ∉ (C0 ++ []).map Prod.fst) (fun w hst hne hm => ?_) fun hnot => ?_
  · have hlt := At.lt hl 0 (List.length_pos_iff.2 hne)
    obtain ⟨x, hx, he⟩ := List.mem_map.1 hm
    rcases hst.new x (by simp at hx ⊢; simp [hx]) with h1 | h1
    · simp at h1
    · exact absurd hlt (by rw [← he]; exact Nat.not_lt.2 h1)
  refine G.region [.gen, .loc, .gen] (.take 0 (.take 1 (.take 2 .done))) rfl ?_
  refine GP.take rfl rfl (Does.load1 rfl ft28 (CellIn.own (.tail _ (.head _)) rfl) ?_)
  refine GP.take rfl rfl (Does.move rfl ?_)
  refine GP.take rfl rfl (Does.callP ([(b8, cel 34 [sv]), (b7, cel 28 [.pointer (some ⟨hb, 0, none⟩)]), (b6, cel 4 [.bool false]), (b5, cel 27 [.slice ad2 ts.length cap2]), (b4, cel 48 [.slice ad1 rs.length cap1])] ++ Cl) (C0 ++ []) (.cons rfl (.cons rfl .nil)) cb20 (by classical exact List.perm_iff_count.2 fun q => by simp only [List.append_eq, List.nil_append, List.cons_append, List.count_append, List.count_cons, List.count_nil] <;> omega) (push1 byK_ok hb [] 0 C0 hrep 0 l ad cap b o had hnot (by simp; omega) (by omega)) (fun w hs i u hi => RowIn.old (vs := l.flatMap enc1) (C := []) (by simp) (fun i v h => hl i v h) w (hs.sub .nil) i u hi) ?_)
  rintro _ _ ⟨rfl, C1, hrep1, rfl⟩
  refine ⟨[(b8, cel 34 [sv]), (b7, cel 28 [.pointer (some ⟨hb, 0, none⟩)]), (b6, cel 4 [.bool false]), (b5, cel 27 [.slice ad2 ts.length cap2]), (b4, cel 48 [.slice ad1 rs.length cap1])] ++ (Cl ++ C1), (by classical exact List.perm_iff_count.2 fun q => by simp only [List.nil_append, List.cons_append, List.count_append, List.count_cons, List.count_nil] <;> omega), ?_⟩
  refine GP.keep [(4, _), (5, _), (6, _), (7, _), (8, _)] (.cons rfl (.cons rfl (.cons rfl (.cons rfl (.cons rfl .nil))))) ?_
  repeat refine G.seq ?_
  refine G.region [.gen, .gen, .loc] (.take 0 (.take 1 (.take 2 .done))) rfl ?_
  refine GP.take rfl rfl (Does.load1 rfl ft28 (CellIn.own (.tail _ (.head _)) rfl) ?_)
  refine GP.take rfl rfl (Does.callN (.cons rfl .nil) cb24 (drain_ct hb) (fun _ _ => trivial) ?_)
  rintro _ _ ⟨bx, rfl, rfl⟩
  refine GP.take rfl rfl (Does.assign rfl ?_)
  refine GP.keep [(4, _), (5, _), (6, _), (7, _), (8, _), (9, _)] (.cons rfl (.cons rfl (.cons rfl (.cons rfl (.cons rfl (.cons rfl .nil)))))) ?_
  repeat refine G.seq ?_
  refine G.region [.alloc, .gen] (.take 0 (.take 1 .done)) rfl ?_
  refine GP.take rfl rfl (Does.alloc zl3 fun b10 Nb10 hb10 nb10 => ?_)
  refine GP.take0 rfl (Does.store1 rfl rfl sz3 rfl (by first | exact .head | exact .tail .head | exact .tail (.tail .head) | exact .tail (.tail (.tail .head)) | exact .tail (.tail (.tail (.tail .head))) | exact .tail (.tail (.tail (.tail (.tail .head))))) (by first | exact .head | exact .tail .head | exact .tail (.tail .head) | exact .tail (.tail (.tail .head))) ?_)
  refine GP.keep [(4, _), (5, _), (6, _), (7, _), (8, _), (9, _), (10, _)] (.cons rfl (.cons rfl (.cons rfl (.cons rfl (.cons rfl (.cons rfl (.cons rfl .nil))))))) ?_
  repeat refine G.seq ?_
  refine G.region [.alloc, .gen] (.take 0 (.take 1 .done)) rfl ?_
  refine GP.take rfl rfl (Does.alloc zl3 fun b11 Nb11 hb11 nb11 => ?_)
  refine GP.take0 rfl (Does.store1 rfl rfl sz3 rfl (by first | exact .head | exact .tail .head | exact .tail (.tail .head) | exact .tail (.tail (.tail .head)) | exact .tail (.tail (.tail (.tail .head))) | exact .tail (.tail (.tail (.tail (.tail .head))))) (by first | exact .head | exact .tail .head | exact .tail (.tail .head) | exact .tail (.tail (.tail .head))) ?_)
  refine GP.keep [(4, _), (5, _), (6, _), (7, _), (8, _), (9, _), (10, _), (11, _)] (.cons rfl (.cons rfl (.cons rfl (.cons rfl (.cons rfl (.cons rfl (.cons rfl (.cons rfl .nil)))))))) ?_
  repeat refine G.seq ?_
  have hcome : Coming (pushF cmpK [] 0 l).1 (pushF cmpK [] 0 l).2.1 l := by rw [(pushF_length cmpK l [] 0).2]; simpa using Coming.nil.push cmpK l
  have hHL : HL 14 cmpK hb l (pushF cmpK [] 0 l).1 (pushF cmpK [] 0 l).2.1 C1 := ⟨hrep1, pushF_hd lawK l hd_nil 0, hcome⟩
  have hcm : (pushF cmpK [] 0 l).2.1 = l.length := by rw [(pushF_length cmpK l [] 0).2]; simp
  have hT := tot_le ts
  obtain ⟨l0, hl0⟩ : ∃ l0, l0 = l.length := ⟨_, rfl⟩
  refine G.dropP [] (A := (b11, cel 3 [.int .i64 0]) :: (b10, cel 3 [.int .i64 0]) :: (b8, cel 34 [sv]) :: (b7, cel 28 [.pointer (some ⟨hb, 0, none⟩)]) :: (b6, cel 4 [.bool false]) :: (b5, cel 27 [.slice ad2 ts.length cap2]) :: (b4, cel 48 [.slice ad1 rs.length cap1]) :: (bx, cel 28 [.pointer (some ⟨hb, 0, none⟩)]) :: (Cl ++ C1)) (by classical exact List.perm_iff_count.2 fun q => by simp only [List.nil_append, List.cons_append, List.count_append, List.count_cons, List.count_nil] <;> omega) ?_
  refine G.block ?_
  refine G.loopD (S := Nat × Nat × DrS × List Nat) (fun s => [(4, .pointer (some ⟨b4, 0, none⟩)), (5, .pointer (some ⟨b5, 0, none⟩)), (6, .pointer (some ⟨b6, 0, none⟩)), (7, .pointer (some ⟨b7, 0, none⟩)), (8, .pointer (some ⟨b8, 0, none⟩)), (9, .func (.func 43) #[] #[.pointer (some ⟨bx, 0, none⟩)]), (10, .pointer (some ⟨b10, 0, none⟩)), (11, .pointer (some ⟨s.1, 0, none⟩))]) (fun s => marks s.2.2.2)
    (fun s => (s.1, cel 3 [.int .i64 (s.2.1 : Int)]) :: (b10, cel 3 [.int .i64 (s.2.2.1.st : Int)]) :: (b8, cel 34 [s.2.2.1.sv]) :: (b7, cel 28 [.pointer (some ⟨hb, 0, none⟩)]) :: (b6, cel 4 [.bool false]) :: (b5, cel 27 [.slice ad2 ts.length cap2]) :: (b4, cel 48 [.slice ad1 rs.length cap1]) :: (bx, cel 28 [.pointer (some ⟨hb, 0, none⟩)]) :: (s.2.2.2.map (fun D => (D, Obj.deferred (some []))) ++ (s.2.2.1.Cl ++ s.2.2.1.C0)))
    (fun s => s.2.1 ≤ rs.length ∧ LRep s.2.2.1.l s.2.2.1.sv s.2.2.1.Cl ∧ HL 14 cmpK hb s.2.2.1.l s.2.2.1.items s.2.2.1.came s.2.2.1.C0 ∧ s.2.2.1.st ≤ ts.length ∧ s.2.2.1.l.length ≤ l0 + tot ts s.2.2.1.st ∧ s.2.2.1.came ≤ l0 + tot ts s.2.2.1.st) (fun s => rs.length - s.2.1)
    (b11, 0, ⟨l, sv, Cl, _, _, C1, 0, 0, true, default⟩, []) ⟨Nat.zero_le _, hsv, hHL, Nat.zero_le _, by simp only; omega, by simp only [hcm]; omega⟩ (.cons rfl (.cons rfl (.cons rfl (.cons rfl (.cons rfl (.cons rfl (.cons rfl (.cons rfl .nil)))))))) rfl .all ?_
  clear hHL hcome hrep1 hrep hsv hnot
  clear hcm
  rintro ⟨b11, r, ⟨q, sv, Cl, items, came, C0, st, n0, gv0, rc0⟩, Ds⟩ ⟨hr, hlr, hhl, hst, hbl, hbc⟩ IH
  simp only at hr hlr hhl hst hbl hbc IH ⊢
  repeat refine G.seq ?_
  refine G.region [.gen, .gen, .loc, .loc] (.take 0 (.take 1 (.take 2 (.take 3 .done)))) rfl ?_
  refine GP.take rfl rfl (Does.load1 rfl ft3 (CellIn.own (.head _) rfl) ?_)
  refine GP.take rfl rfl (Does.load1 rfl ft48 (CellIn.own (.tail _ (.tail _ (.tail _ (.tail _ (.tail _ (.tail _ (.head _))))))) rfl) ?_)
  refine GP.take rfl rfl (Does.len rfl is48 ?_)
  refine GP.take rfl rfl (Does.lss rfl rfl rfl ?_)
  refine GP.keep [(4, _), (5, _), (6, _), (7, _), (8, _), (9, _), (10, _), (11, _), (33, _)] (.cons rfl (.cons rfl (.cons rfl (.cons rfl (.cons rfl (.cons rfl (.cons rfl (.cons rfl (.cons rfl .nil))))))))) ?_
  repeat refine G.seq ?_
  refine G.cond rfl ?_ ?_
  case refine_2 =>
    intro hz
    refine G.exit rfl ?_
    repeat refine G.seq ?_
    refine G.region [.gen] (.take 0 .done) rfl ?_
    refine GP.take0 rfl (Does.store1 rfl rfl sz4 rfl (.tail (.tail (.tail (.tail .head)))) .head ?_)
    refine GP.keep [(6, _)] (.cons rfl .nil) ?_
    exact fin_retDC Ds (fn := Try.f6) (A := [(b6, cel 4 [.bool true])]) (A2 := []) (R := (b11, cel 3 [.int .i64 (r : Int)]) :: (b10, cel 3 [.int .i64 (st : Int)]) :: (b8, cel 34 [sv]) :: (b7, cel 28 [.pointer (some ⟨hb, 0, none⟩)]) :: (b5, cel 27 [.slice ad2 ts.length cap2]) :: (b4, cel 48 [.slice ad1 rs.length cap1]) :: (bx, cel 28 [.pointer (some ⟨hb, 0, none⟩)]) :: (Cl ++ C0)) Try.func6 (fun a w hs w' hs' => rescF rfl hs ft4 rfl (cell_of_block (hs'.own _ (.head _)) rfl)) (by classical exact List.perm_iff_count.2 fun q => by simp only [List.count_append, List.count_cons, List.count_nil] <;> omega) .nil ⟨rfl, rfl⟩
  intro hz
  have hrl : r < rs.length := by omega
  have hrne : rs ≠ [] := by rintro rfl; simp at hrl
  refine G.skip ?_
  repeat refine G.seq ?_
  refine G.block ?_
  repeat refine G.seq ?_
  refine G.region [.alloc, .gen] (.take 0 (.take 1 .done)) rfl ?_
  refine GP.take rfl rfl (Does.alloc zl3 fun b12 Nb12 hb12 nb12 => ?_)
  refine GP.take0 rfl (Does.store1 rfl rfl sz3 rfl (by first | exact .head | exact .tail .head | exact .tail (.tail .head) | exact .tail (.tail (.tail .head)) | exact .tail (.tail (.tail (.tail .head))) | exact .tail (.tail (.tail (.tail (.tail .head))))) (by first | exact .head | exact .tail .head | exact .tail (.tail .head) | exact .tail (.tail (.tail .head))) ?_)
  refine GP.keep [(4, _), (5, _), (6, _), (7, _), (8, _), (9, _), (10, _), (11, _), (12, _)] (.cons rfl (.cons rfl (.cons rfl (.cons rfl (.cons rfl (.cons rfl (.cons rfl (.cons rfl (.cons rfl .nil))))))))) ?_
  repeat refine G.seq ?_
  refine G.region [.alloc, .gen] (.take 0 (.take 1 .done)) rfl ?_
  refine GP.take rfl rfl (Does.alloc zl4 fun b13 Nb13 hb13 nb13 => ?_)
  refine GP.take0 rfl (Does.store1 rfl rfl sz4 rfl (by first | exact .head | exact .tail .head | exact .tail (.tail .head) | exact .tail (.tail (.tail .head)) | exact .tail (.tail (.tail (.tail .head))) | exact .tail (.tail (.tail (.tail (.tail .head))))) (by first | exact .head | exact .tail .head | exact .tail (.tail .head) | exact .tail (.tail (.tail .head))) ?_)
  refine GP.keep [(4, _), (5, _), (6, _), (7, _), (8, _), (9, _), (10, _), (11, _), (12, _), (13, _)] (.cons rfl (.cons rfl (.cons rfl (.cons rfl (.cons rfl (.cons rfl (.cons rfl (.cons rfl (.cons rfl (.cons rfl .nil)))))))))) ?_
  repeat refine G.seq ?_
  refine G.region [.loc] (.take 0 .done) rfl ?_
  refine GP.take rfl rfl (Does.move rfl ?_)
  refine GP.keep [(4, _), (5, _), (6, _), (7, _), (8, _), (9, _), (10, _), (11, _), (12, _), (13, _), (36, _)] (.cons rfl (.cons rfl (.cons rfl (.cons rfl (.cons rfl (.cons rfl (.cons rfl (.cons rfl (.cons rfl (.cons rfl (.cons rfl .nil))))))))))) ?_
  repeat refine G.seq ?_
  refine G.joinD (S := Nat × DrS) (fun s => [(4, .pointer (some ⟨b4, 0, none⟩)), (5, .pointer (some ⟨b5, 0, none⟩)), (6, .pointer (some ⟨b6, 0, none⟩)), (7, .pointer (some ⟨b7, 0, none⟩)), (8, .pointer (some ⟨b8, 0, none⟩)), (9, .func (.func 43) #[] #[.pointer (some ⟨bx, 0, none⟩)]), (10, .pointer (some ⟨b10, 0, none⟩)), (11, .pointer (some ⟨b11, 0, none⟩)), (13, .pointer (some ⟨b13, 0, none⟩))]) (fun s => marks (s.1 :: Ds)) (fun s => (b13, cel 4 [.bool s.2.gv]) :: (b11, cel 3 [.int .i64 (r : Int)]) :: (b10, cel 3 [.int .i64 (s.2.st : Int)]) :: (b8, cel 34 [s.2.sv]) :: (b7, cel 28 [.pointer (some ⟨hb, 0, none⟩)]) :: (b6, cel 4 [.bool false]) :: (b5, cel 27 [.slice ad2 ts.length cap2]) :: (b4, cel 48 [.slice ad1 rs.length cap1]) :: (bx, cel 28 [.pointer (some ⟨hb, 0, none⟩)]) :: ((s.1, Obj.deferred (some [])) :: ((Ds.map fun D => (D, Obj.deferred (some []))) ++ (s.2.Cl ++ s.2.C0))))
    (fun s => LRep s.2.l s.2.sv s.2.Cl ∧ HL 14 cmpK hb s.2.l s.2.items s.2.came s.2.C0 ∧ s.2.st ≤ ts.length ∧ s.2.l.length ≤ l0 + tot ts s.2.st ∧ s.2.came ≤ l0 + tot ts s.2.st ∧ (s.2.gv = true → s.2.l = [])) ?_ fun key => ?_
  · clear hlr hhl hst hbl hbc
    rintro ⟨D, ⟨q, sv, Cl, items, came, C0, st, n0, gv, rc⟩⟩ ⟨hlr, hhl, hst, hbl, hbc, hgv⟩
    simp only at hlr hhl hst hbl hbc hgv ⊢
    obtain ⟨ad3, cap3, _, hsv3, -, -, -, -⟩ := hlr.form
    have hlen3 := hhl.2.2.length
    repeat refine G.seq ?_
    cases gv with
    | true =>
      have hq0 : q = [] := hgv rfl
      refine G.draw [.load, .loc, .load, .loc, .loc, .loc, .loc, .load, .gen, .load, .loc, .loc, .loc] (.take 0 (.take 1 (.take 2 (.take 3 (.take 4 (.take 5 (.take 6 (.take 7 (.alt 8 (.take 9 (.take 10 (.take 11 (.take 12 .done)))) (.alt 9 (.take 10 (.alt 8 (.take 11 (.take 12 .done)) .stop)) .stop)))))))))) (by exact mixed) (by kernel_rfl) ?_
      intro N hN0 hN
      refine GP.take rfl rfl (Does.load1N rfl ft4 (hN _ (.head _)) (CellIn.own (.head _) rfl) ?_)
      refine GP.take rfl rfl (Does.move rfl ?_)
      refine GP.takeG rfl rfl rfl rfl (Does.load1N rfl ft34 (hN _ (.tail _ (.tail _ (.tail _ (.head _))))) (CellIn.own (.tail _ (.tail _ (.tail _ (.head _)))) rfl) ?_)
      refine GP.takeG rfl rfl rfl rfl (Does.len (ad := ad3) (len := q.length) (cap := cap3) (by rw [← hsv3]; rfl) is34 ?_)
      refine GP.takeG rfl rfl rfl rfl (Does.neq rfl rfl (show (!decide ((q.length : Int) = 0)) = false by rw [hq0]; rfl) ?_)
      refine GP.take rfl rfl (Does.pickT rfl rfl ?_)
      refine GP.take rfl rfl (Does.move rfl ?_)
      refine GP.takeG rfl rfl rfl rfl (Does.load1N rfl ft28 (hN _ (.tail _ (.tail _ (.tail _ (.tail _ (.head _)))))) (CellIn.own (.tail _ (.tail _ (.tail _ (.tail _ (.head _))))) rfl) ?_)
      refine GP.alt ?_ ?_
      · skip
        refine GP.takeG rfl rfl rfl rfl (Does.callP ((b13, cel 4 [.bool true]) :: (b11, cel 3 [.int .i64 (r : Int)]) :: (b10, cel 3 [.int .i64 (st : Int)]) :: (b8, cel 34 [sv]) :: (b7, cel 28 [.pointer (some ⟨hb, 0, none⟩)]) :: (b6, cel 4 [.bool false]) :: (b5, cel 27 [.slice ad2 ts.length cap2]) :: (b4, cel 48 [.slice ad1 rs.length cap1]) :: (bx, cel 28 [.pointer (some ⟨hb, 0, none⟩)]) :: ((D, Obj.deferred (some [])) :: ((Ds.map fun D => (D, Obj.deferred (some []))) ++ Cl))) C0 (.cons rfl .nil) cb15 (by classical exact List.perm_iff_count.2 fun q => by simp only [List.cons_append, List.count_append, List.count_cons] <;> omega) (len1 hb items came C0 hhl.1) (fun _ _ => trivial) ?_)
        rintro _ C9 ⟨rfl, hC9⟩
        obtain rfl := hC9.symm
        refine ⟨(b13, cel 4 [.bool true]) :: (b11, cel 3 [.int .i64 (r : Int)]) :: (b10, cel 3 [.int .i64 (st : Int)]) :: (b8, cel 34 [sv]) :: (b7, cel 28 [.pointer (some ⟨hb, 0, none⟩)]) :: (b6, cel 4 [.bool false]) :: (b5, cel 27 [.slice ad2 ts.length cap2]) :: (b4, cel 48 [.slice ad1 rs.length cap1]) :: (bx, cel 28 [.pointer (some ⟨hb, 0, none⟩)]) :: ((D, Obj.deferred (some [])) :: ((Ds.map fun D => (D, Obj.deferred (some []))) ++ (Cl ++ C0))), (by classical exact List.perm_iff_count.2 fun q => by simp only [List.cons_append, List.count_append, List.count_cons] <;> omega), ?_⟩
        refine GP.takeG rfl rfl rfl rfl (Does.load1N rfl ft34 (hN _ (.tail _ (.tail _ (.tail _ (.head _))))) (CellIn.own (.tail _ (.tail _ (.tail _ (.head _)))) rfl) ?_)
        refine GP.takeG rfl rfl rfl rfl (Does.len (ad := ad3) (len := q.length) (cap := cap3) (by rw [← hsv3]; rfl) is34 ?_)
        refine GP.takeG rfl rfl rfl rfl (Does.neq rfl rfl (show (!decide ((items.length : Int) = (q.length : Int))) = false by rw [hlen3]; simp) ?_)
        refine GP.take rfl rfl (Does.pickF rfl rfl ?_)
        refine GP.keep [(4, _), (5, _), (6, _), (7, _), (8, _), (9, _), (10, _), (11, _), (91, _)] (.cons rfl (.cons rfl (.cons rfl (.cons rfl (.cons rfl (.cons rfl (.cons rfl (.cons rfl (.cons rfl .nil))))))))) ?_
        repeat refine G.seq ?_
        refine G.condF rfl ?_
        refine G.skip ?_
        refine G.inBlock ?_
        repeat refine G.seq ?_
        refine G.region [.gen] (.take 0 .done) rfl ?_
        refine GP.take rfl rfl (Does.load1 rfl ft3 (CellIn.own (.tail _ (.head _)) rfl) ?_)
        refine GP.keep [(4, _), (5, _), (6, _), (7, _), (8, _), (9, _), (10, _), (11, _), (92, _)] (.cons rfl (.cons rfl (.cons rfl (.cons rfl (.cons rfl (.cons rfl (.cons rfl (.cons rfl (.cons rfl .nil))))))))) ?_
        repeat refine G.seq ?_
        refine G.region [.alloc, .gen] (.take 0 (.take 1 .done)) rfl ?_
        refine GP.take rfl rfl (Does.alloc zl3 fun b11n N11n h11n n11n => ?_)
        refine GP.take0 rfl (Does.store1 rfl rfl sz3 rfl .head .head ?_)
        refine GP.keep [(4, _), (5, _), (6, _), (7, _), (8, _), (9, _), (10, _), (11, _)] (.cons rfl (.cons rfl (.cons rfl (.cons rfl (.cons rfl (.cons rfl (.cons rfl (.cons rfl .nil)))))))) ?_
        repeat refine G.seq ?_
        refine G.region [.gen, .loc, .gen] (.take 0 (.take 1 (.take 2 .done))) rfl ?_
        refine GP.take rfl rfl (Does.load1 rfl ft3 (CellIn.own (.head _) rfl) ?_)
        refine GP.take rfl rfl (Does.add rfl rfl (r := ((r + 1 : Nat) : Int)) (wrc_i64 (by omega) (by omega) (by omega)) ?_)
        refine GP.take0 rfl (Does.store1 rfl rfl sz3 rfl .head .head ?_)
        refine GP.keep [(4, _), (5, _), (6, _), (7, _), (8, _), (9, _), (10, _), (11, _)] (.cons rfl (.cons rfl (.cons rfl (.cons rfl (.cons rfl (.cons rfl (.cons rfl (.cons rfl .nil)))))))) ?_
        refine G.dropP [(b13, cel 4 [.bool true]), (b11, cel 3 [.int .i64 (r : Int)])] (A := (b11n, cel 3 [.int .i64 ((r + 1 : Nat) : Int)]) :: (b10, cel 3 [.int .i64 (st : Int)]) :: (b8, cel 34 [sv]) :: (b7, cel 28 [.pointer (some ⟨hb, 0, none⟩)]) :: (b6, cel 4 [.bool false]) :: (b5, cel 27 [.slice ad2 ts.length cap2]) :: (b4, cel 48 [.slice ad1 rs.length cap1]) :: (bx, cel 28 [.pointer (some ⟨hb, 0, none⟩)]) :: ((D, Obj.deferred (some [])) :: ((Ds.map fun D => (D, Obj.deferred (some []))) ++ (Cl ++ C0)))) (by classical exact List.perm_iff_count.2 fun q => by simp only [List.cons_append, List.count_append, List.count_cons, List.count_nil] <;> omega) ?_
        exact IH (b11n, r + 1, ⟨q, sv, Cl, items, came, C0, st, n0, true, rc⟩, D :: Ds) ⟨by simp only; omega, hlr, hhl, hst, hbl, hbc⟩ (by simp only; omega)
      refine GP.alt ?_ ?_
      · skip
        refine GP.takeG rfl rfl rfl rfl (Does.load1N rfl ft34 (hN _ (.tail _ (.tail _ (.tail _ (.head _))))) (CellIn.own (.tail _ (.tail _ (.tail _ (.head _)))) rfl) ?_)
        refine GP.takeG rfl rfl rfl rfl (Does.len (ad := ad3) (len := q.length) (cap := cap3) (by rw [← hsv3]; rfl) is34 ?_)
        refine GP.one ?_
        refine GP.takeG rfl rfl rfl rfl (Does.callP ((b13, cel 4 [.bool true]) :: (b11, cel 3 [.int .i64 (r : Int)]) :: (b10, cel 3 [.int .i64 (st : Int)]) :: (b8, cel 34 [sv]) :: (b7, cel 28 [.pointer (some ⟨hb, 0, none⟩)]) :: (b6, cel 4 [.bool false]) :: (b5, cel 27 [.slice ad2 ts.length cap2]) :: (b4, cel 48 [.slice ad1 rs.length cap1]) :: (bx, cel 28 [.pointer (some ⟨hb, 0, none⟩)]) :: ((D, Obj.deferred (some [])) :: ((Ds.map fun D => (D, Obj.deferred (some []))) ++ Cl))) C0 (.cons rfl .nil) cb15 (by classical exact List.perm_iff_count.2 fun q => by simp only [List.cons_append, List.count_append, List.count_cons] <;> omega) (len1 hb items came C0 hhl.1) (fun _ _ => trivial) ?_)
        rintro _ C9 ⟨rfl, hC9⟩
        obtain rfl := hC9.symm
        refine ⟨(b13, cel 4 [.bool true]) :: (b11, cel 3 [.int .i64 (r : Int)]) :: (b10, cel 3 [.int .i64 (st : Int)]) :: (b8, cel 34 [sv]) :: (b7, cel 28 [.pointer (some ⟨hb, 0, none⟩)]) :: (b6, cel 4 [.bool false]) :: (b5, cel 27 [.slice ad2 ts.length cap2]) :: (b4, cel 48 [.slice ad1 rs.length cap1]) :: (bx, cel 28 [.pointer (some ⟨hb, 0, none⟩)]) :: ((D, Obj.deferred (some [])) :: ((Ds.map fun D => (D, Obj.deferred (some []))) ++ (Cl ++ C0))), (by classical exact List.perm_iff_count.2 fun q => by simp only [List.cons_append, List.count_append, List.count_cons] <;> omega), ?_⟩
        refine GP.takeG rfl rfl rfl rfl (Does.neq rfl rfl (show (!decide ((items.length : Int) = (q.length : Int))) = false by rw [hlen3]; simp) ?_)
        refine GP.take rfl rfl (Does.pickF rfl rfl ?_)
        refine GP.keep [(4, _), (5, _), (6, _), (7, _), (8, _), (9, _), (10, _), (11, _), (91, _)] (.cons rfl (.cons rfl (.cons rfl (.cons rfl (.cons rfl (.cons rfl (.cons rfl (.cons rfl (.cons rfl .nil))))))))) ?_
        repeat refine G.seq ?_
        refine G.condF rfl ?_
        refine G.skip ?_
        refine G.inBlock ?_
        repeat refine G.seq ?_
        refine G.region [.gen] (.take 0 .done) rfl ?_
        refine GP.take rfl rfl (Does.load1 rfl ft3 (CellIn.own (.tail _ (.head _)) rfl) ?_)
        refine GP.keep [(4, _), (5, _), (6, _), (7, _), (8, _), (9, _), (10, _), (11, _), (92, _)] (.cons rfl (.cons rfl (.cons rfl (.cons rfl (.cons rfl (.cons rfl (.cons rfl (.cons rfl (.cons rfl .nil))))))))) ?_
        repeat refine G.seq ?_
        refine G.region [.alloc, .gen] (.take 0 (.take 1 .done)) rfl ?_
        refine GP.take rfl rfl (Does.alloc zl3 fun b11n N11n h11n n11n => ?_)
        refine GP.take0 rfl (Does.store1 rfl rfl sz3 rfl .head .head ?_)
        refine GP.keep [(4, _), (5, _), (6, _), (7, _), (8, _), (9, _), (10, _), (11, _)] (.cons rfl (.cons rfl (.cons rfl (.cons rfl (.cons rfl (.cons rfl (.cons rfl (.cons rfl .nil)))))))) ?_
        repeat refine G.seq ?_
        refine G.region [.gen, .loc, .gen] (.take 0 (.take 1 (.take 2 .done))) rfl ?_
        refine GP.take rfl rfl (Does.load1 rfl ft3 (CellIn.own (.head _) rfl) ?_)
        refine GP.take rfl rfl (Does.add rfl rfl (r := ((r + 1 : Nat) : Int)) (wrc_i64 (by omega) (by omega) (by omega)) ?_)
        refine GP.take0 rfl (Does.store1 rfl rfl sz3 rfl .head .head ?_)
        refine GP.keep [(4, _), (5, _), (6, _), (7, _), (8, _), (9, _), (10, _), (11, _)] (.cons rfl (.cons rfl (.cons rfl (.cons rfl (.cons rfl (.cons rfl (.cons rfl (.cons rfl .nil)))))))) ?_
        refine G.dropP [(b13, cel 4 [.bool true]), (b11, cel 3 [.int .i64 (r : Int)])] (A := (b11n, cel 3 [.int .i64 ((r + 1 : Nat) : Int)]) :: (b10, cel 3 [.int .i64 (st : Int)]) :: (b8, cel 34 [sv]) :: (b7, cel 28 [.pointer (some ⟨hb, 0, none⟩)]) :: (b6, cel 4 [.bool false]) :: (b5, cel 27 [.slice ad2 ts.length cap2]) :: (b4, cel 48 [.slice ad1 rs.length cap1]) :: (bx, cel 28 [.pointer (some ⟨hb, 0, none⟩)]) :: ((D, Obj.deferred (some [])) :: ((Ds.map fun D => (D, Obj.deferred (some []))) ++ (Cl ++ C0)))) (by classical exact List.perm_iff_count.2 fun q => by simp only [List.cons_append, List.count_append, List.count_cons, List.count_nil] <;> omega) ?_
        exact IH (b11n, r + 1, ⟨q, sv, Cl, items, came, C0, st, n0, true, rc⟩, D :: Ds) ⟨by simp only; omega, hlr, hhl, hst, hbl, hbc⟩ (by simp only; omega)
      exact GP.stop
    | false =>
      refine G.draw [.load, .loc, .load, .loc, .loc, .loc, .loc, .load, .gen, .load, .loc, .loc, .loc] (.take 0 (.take 1 (.take 2 (.take 3 (.take 4 (.take 5 (.take 6 (.take 7 (.alt 8 (.take 9 (.take 10 (.take 11 (.take 12 .done)))) (.alt 9 (.take 10 (.alt 8 (.take 11 (.take 12 .done)) .stop)) .stop)))))))))) (by exact mixed) (by kernel_rfl) ?_
      intro N hN0 hN
      refine GP.take rfl rfl (Does.load1N rfl ft4 (hN _ (.head _)) (CellIn.own (.head _) rfl) ?_)
      refine GP.take rfl rfl (Does.move rfl ?_)
      refine GP.pass rfl rfl rfl rfl rfl ?_
      refine GP.pass rfl rfl rfl rfl rfl ?_
      refine GP.pass rfl rfl rfl rfl rfl ?_
      refine GP.take rfl rfl (Does.pickF rfl rfl ?_)
      refine GP.take rfl rfl (Does.move rfl ?_)
      refine GP.takeG rfl rfl rfl rfl (Does.load1N rfl ft28 (hN _ (.tail _ (.tail _ (.tail _ (.tail _ (.head _)))))) (CellIn.own (.tail _ (.tail _ (.tail _ (.tail _ (.head _))))) rfl) ?_)
      refine GP.alt ?_ ?_
      · skip
        refine GP.takeG rfl rfl rfl rfl (Does.callP ((b13, cel 4 [.bool false]) :: (b11, cel 3 [.int .i64 (r : Int)]) :: (b10, cel 3 [.int .i64 (st : Int)]) :: (b8, cel 34 [sv]) :: (b7, cel 28 [.pointer (some ⟨hb, 0, none⟩)]) :: (b6, cel 4 [.bool false]) :: (b5, cel 27 [.slice ad2 ts.length cap2]) :: (b4, cel 48 [.slice ad1 rs.length cap1]) :: (bx, cel 28 [.pointer (some ⟨hb, 0, none⟩)]) :: ((D, Obj.deferred (some [])) :: ((Ds.map fun D => (D, Obj.deferred (some []))) ++ Cl))) C0 (.cons rfl .nil) cb15 (by classical exact List.perm_iff_count.2 fun q => by simp only [List.cons_append, List.count_append, List.count_cons] <;> omega) (len1 hb items came C0 hhl.1) (fun _ _ => trivial) ?_)
        rintro _ C9 ⟨rfl, hC9⟩
        obtain rfl := hC9.symm
        refine ⟨(b13, cel 4 [.bool false]) :: (b11, cel 3 [.int .i64 (r : Int)]) :: (b10, cel 3 [.int .i64 (st : Int)]) :: (b8, cel 34 [sv]) :: (b7, cel 28 [.pointer (some ⟨hb, 0, none⟩)]) :: (b6, cel 4 [.bool false]) :: (b5, cel 27 [.slice ad2 ts.length cap2]) :: (b4, cel 48 [.slice ad1 rs.length cap1]) :: (bx, cel 28 [.pointer (some ⟨hb, 0, none⟩)]) :: ((D, Obj.deferred (some [])) :: ((Ds.map fun D => (D, Obj.deferred (some []))) ++ (Cl ++ C0))), (by classical exact List.perm_iff_count.2 fun q => by simp only [List.cons_append, List.count_append, List.count_cons] <;> omega), ?_⟩
        refine GP.takeG rfl rfl rfl rfl (Does.load1N rfl ft34 (hN _ (.tail _ (.tail _ (.tail _ (.head _))))) (CellIn.own (.tail _ (.tail _ (.tail _ (.head _)))) rfl) ?_)
        refine GP.takeG rfl rfl rfl rfl (Does.len (ad := ad3) (len := q.length) (cap := cap3) (by rw [← hsv3]; rfl) is34 ?_)
        refine GP.takeG rfl rfl rfl rfl (Does.neq rfl rfl (show (!decide ((items.length : Int) = (q.length : Int))) = false by rw [hlen3]; simp) ?_)
        refine GP.take rfl rfl (Does.pickF rfl rfl ?_)
        refine GP.keep [(4, _), (5, _), (6, _), (7, _), (8, _), (9, _), (10, _), (11, _), (91, _)] (.cons rfl (.cons rfl (.cons rfl (.cons rfl (.cons rfl (.cons rfl (.cons rfl (.cons rfl (.cons rfl .nil))))))))) ?_
        repeat refine G.seq ?_
        refine G.condF rfl ?_
        refine G.skip ?_
        refine G.inBlock ?_
        repeat refine G.seq ?_
        refine G.region [.gen] (.take 0 .done) rfl ?_
        refine GP.take rfl rfl (Does.load1 rfl ft3 (CellIn.own (.tail _ (.head _)) rfl) ?_)
        refine GP.keep [(4, _), (5, _), (6, _), (7, _), (8, _), (9, _), (10, _), (11, _), (92, _)] (.cons rfl (.cons rfl (.cons rfl (.cons rfl (.cons rfl (.cons rfl (.cons rfl (.cons rfl (.cons rfl .nil))))))))) ?_
        repeat refine G.seq ?_
        refine G.region [.alloc, .gen] (.take 0 (.take 1 .done)) rfl ?_
        refine GP.take rfl rfl (Does.alloc zl3 fun b11n N11n h11n n11n => ?_)
        refine GP.take0 rfl (Does.store1 rfl rfl sz3 rfl .head .head ?_)
        refine GP.keep [(4, _), (5, _), (6, _), (7, _), (8, _), (9, _), (10, _), (11, _)] (.cons rfl (.cons rfl (.cons rfl (.cons rfl (.cons rfl (.cons rfl (.cons rfl (.cons rfl .nil)))))))) ?_
        repeat refine G.seq ?_
        refine G.region [.gen, .loc, .gen] (.take 0 (.take 1 (.take 2 .done))) rfl ?_
        refine GP.take rfl rfl (Does.load1 rfl ft3 (CellIn.own (.head _) rfl) ?_)
        refine GP.take rfl rfl (Does.add rfl rfl (r := ((r + 1 : Nat) : Int)) (wrc_i64 (by omega) (by omega) (by omega)) ?_)
        refine GP.take0 rfl (Does.store1 rfl rfl sz3 rfl .head .head ?_)
        refine GP.keep [(4, _), (5, _), (6, _), (7, _), (8, _), (9, _), (10, _), (11, _)] (.cons rfl (.cons rfl (.cons rfl (.cons rfl (.cons rfl (.cons rfl (.cons rfl (.cons rfl .nil)))))))) ?_
        refine G.dropP [(b13, cel 4 [.bool false]), (b11, cel 3 [.int .i64 (r : Int)])] (A := (b11n, cel 3 [.int .i64 ((r + 1 : Nat) : Int)]) :: (b10, cel 3 [.int .i64 (st : Int)]) :: (b8, cel 34 [sv]) :: (b7, cel 28 [.pointer (some ⟨hb, 0, none⟩)]) :: (b6, cel 4 [.bool false]) :: (b5, cel 27 [.slice ad2 ts.length cap2]) :: (b4, cel 48 [.slice ad1 rs.length cap1]) :: (bx, cel 28 [.pointer (some ⟨hb, 0, none⟩)]) :: ((D, Obj.deferred (some [])) :: ((Ds.map fun D => (D, Obj.deferred (some []))) ++ (Cl ++ C0)))) (by classical exact List.perm_iff_count.2 fun q => by simp only [List.cons_append, List.count_append, List.count_cons, List.count_nil] <;> omega) ?_
        exact IH (b11n, r + 1, ⟨q, sv, Cl, items, came, C0, st, n0, false, rc⟩, D :: Ds) ⟨by simp only; omega, hlr, hhl, hst, hbl, hbc⟩ (by simp only; omega)
      refine GP.alt ?_ ?_
      · skip
        refine GP.takeG rfl rfl rfl rfl (Does.load1N rfl ft34 (hN _ (.tail _ (.tail _ (.tail _ (.head _))))) (CellIn.own (.tail _ (.tail _ (.tail _ (.head _)))) rfl) ?_)
        refine GP.takeG rfl rfl rfl rfl (Does.len (ad := ad3) (len := q.length) (cap := cap3) (by rw [← hsv3]; rfl) is34 ?_)
        refine GP.one ?_
        refine GP.takeG rfl rfl rfl rfl (Does.callP ((b13, cel 4 [.bool false]) :: (b11, cel 3 [.int .i64 (r : Int)]) :: (b10, cel 3 [.int .i64 (st : Int)]) :: (b8, cel 34 [sv]) :: (b7, cel 28 [.pointer (some ⟨hb, 0, none⟩)]) :: (b6, cel 4 [.bool false]) :: (b5, cel 27 [.slice ad2 ts.length cap2]) :: (b4, cel 48 [.slice ad1 rs.length cap1]) :: (bx, cel 28 [.pointer (some ⟨hb, 0, none⟩)]) :: ((D, Obj.deferred (some [])) :: ((Ds.map fun D => (D, Obj.deferred (some []))) ++ Cl))) C0 (.cons rfl .nil) cb15 (by classical exact List.perm_iff_count.2 fun q => by simp only [List.cons_append, List.count_append, List.count_cons] <;> omega) (len1 hb items came C0 hhl.1) (fun _ _ => trivial) ?_)
        rintro _ C9 ⟨rfl, hC9⟩
        obtain rfl := hC9.symm
        refine ⟨(b13, cel 4 [.bool false]) :: (b11, cel 3 [.int .i64 (r : Int)]) :: (b10, cel 3 [.int .i64 (st : Int)]) :: (b8, cel 34 [sv]) :: (b7, cel 28 [.pointer (some ⟨hb, 0, none⟩)]) :: (b6, cel 4 [.bool false]) :: (b5, cel 27 [.slice ad2 ts.length cap2]) :: (b4, cel 48 [.slice ad1 rs.length cap1]) :: (bx, cel 28 [.pointer (some ⟨hb, 0, none⟩)]) :: ((D, Obj.deferred (some [])) :: ((Ds.map fun D => (D, Obj.deferred (some []))) ++ (Cl ++ C0))), (by classical exact List.perm_iff_count.2 fun q => by simp only [List.cons_append, List.count_append, List.count_cons] <;> omega), ?_⟩
        refine GP.takeG rfl rfl rfl rfl (Does.neq rfl rfl (show (!decide ((items.length : Int) = (q.length : Int))) = false by rw [hlen3]; simp) ?_)
        refine GP.take rfl rfl (Does.pickF rfl rfl ?_)
        refine GP.keep [(4, _), (5, _), (6, _), (7, _), (8, _), (9, _), (10, _), (11, _), (91, _)] (.cons rfl (.cons rfl (.cons rfl (.cons rfl (.cons rfl (.cons rfl (.cons rfl (.cons rfl (.cons rfl .nil))))))))) ?_
        repeat refine G.seq ?_
        refine G.condF rfl ?_
        refine G.skip ?_
        refine G.inBlock ?_
        repeat refine G.seq ?_
        refine G.region [.gen] (.take 0 .done) rfl ?_
        refine GP.take rfl rfl (Does.load1 rfl ft3 (CellIn.own (.tail _ (.head _)) rfl) ?_)
        refine GP.keep [(4, _), (5, _), (6, _), (7, _), (8, _), (9, _), (10, _), (11, _), (92, _)] (.cons rfl (.cons rfl (.cons rfl (.cons rfl (.cons rfl (.cons rfl (.cons rfl (.cons rfl (.cons rfl .nil))))))))) ?_
        repeat refine G.seq ?_
        refine G.region [.alloc, .gen] (.take 0 (.take 1 .done)) rfl ?_
        refine GP.take rfl rfl (Does.alloc zl3 fun b11n N11n h11n n11n => ?_)
        refine GP.take0 rfl (Does.store1 rfl rfl sz3 rfl .head .head ?_)
        refine GP.keep [(4, _), (5, _), (6, _), (7, _), (8, _), (9, _), (10, _), (11, _)] (.cons rfl (.cons rfl (.cons rfl (.cons rfl (.cons rfl (.cons rfl (.cons rfl (.cons rfl .nil)))))))) ?_
        repeat refine G.seq ?_
        refine G.region [.gen, .loc, .gen] (.take 0 (.take 1 (.take 2 .done))) rfl ?_
        refine GP.take rfl rfl (Does.load1 rfl ft3 (CellIn.own (.head _) rfl) ?_)
        refine GP.take rfl rfl (Does.add rfl rfl (r := ((r + 1 : Nat) : Int)) (wrc_i64 (by omega) (by omega) (by omega)) ?_)
        refine GP.take0 rfl (Does.store1 rfl rfl sz3 rfl .head .head ?_)
        refine GP.keep [(4, _), (5, _), (6, _), (7, _), (8, _), (9, _), (10, _), (11, _)] (.cons rfl (.cons rfl (.cons rfl (.cons rfl (.cons rfl (.cons rfl (.cons rfl (.cons rfl .nil)))))))) ?_
        refine G.dropP [(b13, cel 4 [.bool false]), (b11, cel 3 [.int .i64 (r : Int)])] (A := (b11n, cel 3 [.int .i64 ((r + 1 : Nat) : Int)]) :: (b10, cel 3 [.int .i64 (st : Int)]) :: (b8, cel 34 [sv]) :: (b7, cel 28 [.pointer (some ⟨hb, 0, none⟩)]) :: (b6, cel 4 [.bool false]) :: (b5, cel 27 [.slice ad2 ts.length cap2]) :: (b4, cel 48 [.slice ad1 rs.length cap1]) :: (bx, cel 28 [.pointer (some ⟨hb, 0, none⟩)]) :: ((D, Obj.deferred (some [])) :: ((Ds.map fun D => (D, Obj.deferred (some []))) ++ (Cl ++ C0)))) (by classical exact List.perm_iff_count.2 fun q => by simp only [List.cons_append, List.count_append, List.count_cons, List.count_nil] <;> omega) ?_
        exact IH (b11n, r + 1, ⟨q, sv, Cl, items, came, C0, st, n0, false, rc⟩, D :: Ds) ⟨by simp only; omega, hlr, hhl, hst, hbl, hbc⟩ (by simp only; omega)
      exact GP.stop
  refine G.fact (p := ∀ c ∈ (bx, cel 28 [.pointer (some ⟨hb, 0, none⟩)]) :: (C0 ++ ([] ++ ((b8, cel 34 [sv]) :: (b12, cel 3 [.int .i64 0]) :: (b13, cel 4 [.bool true]) :: (b10, cel 3 [.int .i64 (st : Int)]) :: (b11, cel 3 [.int .i64 (r : Int)]) :: (b7, cel 28 [.pointer (some ⟨hb, 0, none⟩)]) :: (b5, cel 27 [.slice ad2 ts.length cap2]) :: (b4, cel 48 [.slice ad1 rs.length cap1]) :: Cl))), w0.heap.size ≤ c.1) (fun w hs c hc => (hs.new c ((show (((b6, cel 4 [.bool false]) :: (Ds.map fun D => (D, Obj.deferred (some [])))) ++ ((bx, cel 28 [.pointer (some ⟨hb, 0, none⟩)]) :: (C0 ++ ([] ++ ((b8, cel 34 [sv]) :: (b12, cel 3 [.int .i64 0]) :: (b13, cel 4 [.bool true]) :: (b10, cel 3 [.int .i64 (st : Int)]) :: (b11, cel 3 [.int .i64 (r : Int)]) :: (b7, cel 28 [.pointer (some ⟨hb, 0, none⟩)]) :: (b5, cel 27 [.slice ad2 ts.length cap2]) :: (b4, cel 48 [.slice ad1 rs.length cap1]) :: Cl))))).Perm _ from (by classical exact List.perm_iff_count.2 fun q => by simp only [List.nil_append, List.cons_append, List.count_append, List.count_cons] <;> omega)).mem_iff.1 (List.mem_append_right _ hc))).resolve_left (by simp)) fun hfr => ?_
  refine G.block ?_
  refine G.rangeFunc (pre := Old w0) ((b6, cel 4 [.bool false]) :: (Ds.map fun D => (D, Obj.deferred (some [])))) ((bx, cel 28 [.pointer (some ⟨hb, 0, none⟩)]) :: (C0 ++ ([] ++ ((b8, cel 34 [sv]) :: (b12, cel 3 [.int .i64 0]) :: (b13, cel 4 [.bool true]) :: (b10, cel 3 [.int .i64 (st : Int)]) :: (b11, cel 3 [.int .i64 (r : Int)]) :: (b7, cel 28 [.pointer (some ⟨hb, 0, none⟩)]) :: (b5, cel 27 [.slice ad2 ts.length cap2]) :: (b4, cel 48 [.slice ad1 rs.length cap1]) :: Cl)))) (κ' := fun D lo tm v C' => ∃ s : DrS, (LRep s.l s.sv s.Cl ∧ HL 14 cmpK hb s.l s.items s.came s.C0 ∧ s.st ≤ ts.length ∧ s.l.length ≤ l0 + tot ts s.st ∧ s.came ≤ l0 + tot ts s.st) ∧ ((s.rc.state = .ready ∧ s.rc.pending = none ∧ s.l = []) ∨ (s.rc.state = .done ∧ s.rc.pending = some (.exit 2) ∧ s.gv = false)) ∧ C' = (bx, cel 28 [.pointer (some ⟨hb, 0, none⟩)]) :: (s.C0 ++ ([] ++ ((lo, Obj.loop s.rc) :: (b8, cel 34 [s.sv]) :: (b12, cel 3 [.int .i64 (s.n : Int)]) :: (b13, cel 4 [.bool s.gv]) :: (b10, cel 3 [.int .i64 (s.st : Int)]) :: (b11, cel 3 [.int .i64 (r : Int)]) :: (b7, cel 28 [.pointer (some ⟨hb, 0, none⟩)]) :: (b5, cel 27 [.slice ad2 ts.length cap2]) :: (b4, cel 48 [.slice ad1 rs.length cap1]) :: s.Cl)))) rfl rfl cb43 (by classical exact List.perm_iff_count.2 fun q => by simp only [List.nil_append, List.cons_append, List.count_append, List.count_cons] <;> omega) ?_ (fun w D lo ob hs => ⟨hs.mods.size, fun k hk => hs.mods.block k hk (by simp)⟩) ?_
  case refine_2 =>
    rintro D lo tm v C' - ⟨s, hinv, hcase, rfl⟩
    rcases hcase with ⟨hs1, hs2, hs3⟩ | ⟨hs1, hs2, hs3⟩
    · refine ⟨s.rc, (bx, cel 28 [.pointer (some ⟨hb, 0, none⟩)]) :: (s.C0 ++ ((b8, cel 34 [s.sv]) :: (b12, cel 3 [.int .i64 (s.n : Int)]) :: (b13, cel 4 [.bool s.gv]) :: (b10, cel 3 [.int .i64 (s.st : Int)]) :: (b11, cel 3 [.int .i64 (r : Int)]) :: (b7, cel 28 [.pointer (some ⟨hb, 0, none⟩)]) :: (b5, cel 27 [.slice ad2 ts.length cap2]) :: (b4, cel 48 [.slice ad1 rs.length cap1]) :: s.Cl)), by rw [hs1]; decide, (by classical exact List.perm_iff_count.2 fun q => by simp only [List.nil_append, List.count_append, List.count_cons] <;> omega), ?_⟩
      rw [hs2]
      simp only [Option.map_none, Option.toList_none, List.nil_append]
      refine G.inBlock ?_
      refine G.dropP [(b12, cel 3 [.int .i64 (s.n : Int)])] (A := ((b13, cel 4 [.bool s.gv]) :: (b11, cel 3 [.int .i64 (r : Int)]) :: (b10, cel 3 [.int .i64 (s.st : Int)]) :: (b8, cel 34 [s.sv]) :: (b7, cel 28 [.pointer (some ⟨hb, 0, none⟩)]) :: (b6, cel 4 [.bool false]) :: (b5, cel 27 [.slice ad2 ts.length cap2]) :: (b4, cel 48 [.slice ad1 rs.length cap1]) :: (bx, cel 28 [.pointer (some ⟨hb, 0, none⟩)]) :: ((D, Obj.deferred (some [])) :: ((Ds.map fun D => (D, Obj.deferred (some []))) ++ (s.Cl ++ s.C0))))) (by classical exact List.perm_iff_count.2 fun q => by simp only [List.cons_append, List.count_append, List.count_cons, List.count_nil] <;> omega) ?_
      exact (key (D, s) ⟨hinv.1, hinv.2.1, hinv.2.2.1, hinv.2.2.2.1, hinv.2.2.2.2, fun _ => hs3⟩).weak (.cons rfl (.cons rfl (.cons rfl (.cons rfl (.cons rfl (.cons rfl (.cons rfl (.cons rfl (.cons rfl .nil)))))))))
    · refine ⟨s.rc, (bx, cel 28 [.pointer (some ⟨hb, 0, none⟩)]) :: (s.C0 ++ ((b8, cel 34 [s.sv]) :: (b12, cel 3 [.int .i64 (s.n : Int)]) :: (b13, cel 4 [.bool s.gv]) :: (b10, cel 3 [.int .i64 (s.st : Int)]) :: (b11, cel 3 [.int .i64 (r : Int)]) :: (b7, cel 28 [.pointer (some ⟨hb, 0, none⟩)]) :: (b5, cel 27 [.slice ad2 ts.length cap2]) :: (b4, cel 48 [.slice ad1 rs.length cap1]) :: s.Cl)), by rw [hs1]; decide, (by classical exact List.perm_iff_count.2 fun q => by simp only [List.nil_append, List.count_append, List.count_cons] <;> omega), ?_⟩
      rw [hs2]
      simp only [Option.map_some, Option.toList_some, List.cons_append, List.nil_append]
      refine G.exit rfl ?_
      refine G.dropP [(b12, cel 3 [.int .i64 (s.n : Int)])] (A := ((b13, cel 4 [.bool s.gv]) :: (b11, cel 3 [.int .i64 (r : Int)]) :: (b10, cel 3 [.int .i64 (s.st : Int)]) :: (b8, cel 34 [s.sv]) :: (b7, cel 28 [.pointer (some ⟨hb, 0, none⟩)]) :: (b6, cel 4 [.bool false]) :: (b5, cel 27 [.slice ad2 ts.length cap2]) :: (b4, cel 48 [.slice ad1 rs.length cap1]) :: (bx, cel 28 [.pointer (some ⟨hb, 0, none⟩)]) :: ((D, Obj.deferred (some [])) :: ((Ds.map fun D => (D, Obj.deferred (some []))) ++ (s.Cl ++ s.C0))))) (by classical exact List.perm_iff_count.2 fun q => by simp only [List.cons_append, List.count_append, List.count_cons, List.count_nil] <;> omega) ?_
      exact (key (D, s) ⟨hinv.1, hinv.2.1, hinv.2.2.1, hinv.2.2.2.1, hinv.2.2.2.2, fun h => by simp only [hs3] at h; cases h⟩).weak (.cons rfl (.cons rfl (.cons rfl (.cons rfl (.cons rfl (.cons rfl (.cons rfl (.cons rfl (.cons rfl .nil)))))))))
  intro D lo tm htm hsz hD hlo
  have h4' := htm 4 _ rfl
  have h5' := htm 5 _ rfl
  have h7' := htm 7 _ rfl
  have h8' := htm 8 _ rfl
  have h10' := htm 10 _ rfl
  have h11' := htm 11 _ rfl
  have h12' := htm 12 _ rfl
  have h13' := htm 13 _ rfl
  clear htm
  generalize hrec : Loop.mk _ _ _ _ _ _ _ _ = rec
  have hst0 : rec.state = .ready := by rw [← hrec]
  have hpd0 : rec.pending = none := by rw [← hrec]
  refine Ct.mono (pre := Old w0) (Ct.perm ?_ (drain1_ct (E := fun _ => []) (preD := Old w0) (preY := Old w0) byK_ok hb bx lo (S := DrS) DrS.items DrS.came DrS.C0 (fun _ => 0) (fun s => ((lo, Obj.loop s.rc) :: (b8, cel 34 [s.sv]) :: (b12, cel 3 [.int .i64 (s.n : Int)]) :: (b13, cel 4 [.bool s.gv]) :: (b10, cel 3 [.int .i64 (s.st : Int)]) :: (b11, cel 3 [.int .i64 (r : Int)]) :: (b7, cel 28 [.pointer (some ⟨hb, 0, none⟩)]) :: (b5, cel 27 [.slice ad2 ts.length cap2]) :: (b4, cel 48 [.slice ad1 rs.length cap1]) :: s.Cl))
    (fun s => (LRep s.l s.sv s.Cl ∧ HL 14 cmpK hb s.l s.items s.came s.C0 ∧ s.st ≤ ts.length ∧ s.l.length ≤ l0 + tot ts s.st ∧ s.came ≤ l0 + tot ts s.st) ∧ s.rc = rec ∧ s.gv = true ∧ s.n + s.l.length + (tot ts ts.length - tot ts s.st) ≤ 4194304 ∧ ∀ c ∈ s.C0 ++ ((lo, Obj.loop s.rc) :: (b8, cel 34 [s.sv]) :: (b12, cel 3 [.int .i64 (s.n : Int)]) :: (b13, cel 4 [.bool s.gv]) :: (b10, cel 3 [.int .i64 (s.st : Int)]) :: (b11, cel 3 [.int .i64 (r : Int)]) :: (b7, cel 28 [.pointer (some ⟨hb, 0, none⟩)]) :: (b5, cel 27 [.slice ad2 ts.length cap2]) :: (b4, cel 48 [.slice ad1 rs.length cap1]) :: s.Cl), w0.heap.size ≤ c.1)
    (fun s => (LRep s.l s.sv s.Cl ∧ HL 14 cmpK hb s.l s.items s.came s.C0 ∧ s.st ≤ ts.length ∧ s.l.length ≤ l0 + tot ts s.st ∧ s.came ≤ l0 + tot ts s.st) ∧ s.rc.state = .done ∧ s.rc.pending = some (.exit 2) ∧ s.gv = false) (fun s => s.items.length + (tot ts ts.length - tot ts s.st))
    ⟨q, sv, Cl, items, came, C0, st, 0, true, rec⟩ (fun s hs => hs.1.2.1.1) (fun s hs => by have h1 := hs.1.2.1.2.2.length; have h2 := hs.1.2.2.2.1; have h3 := tot_le ts s.st; omega) ?_ ?_ ?_ (lim := w0.heap.size) (fun w h => h.1) ?_)) (fun _ h => h) ?_
  · have e0 : ((0 : Nat) : Int) = 0 := rfl
    simp only [e0]
    exact (by classical exact List.perm_iff_count.2 fun q => by simp only [List.nil_append, List.count_append, List.count_cons] <;> omega)
  rotate_left
  · refine ⟨⟨hlr, hhl, hst, hbl, hbc⟩, rfl, rfl, by have := tot_le ts ts.length; have := tot_le ts st; simp only; omega, fun c hc => ?_⟩
    simp only [List.mem_append, List.mem_cons, List.nil_append] at hc hfr
    rcases hc with hc | rfl | hc
    · exact hfr c (.inr (.inl hc))
    · exact hlo
    · exact hfr c (.inr (.inr hc))
  · intro w1 w C' ho hs
    refine ⟨Nat.le_trans ho.1 hs.mods.size, fun k hk => ?_⟩
    rw [hs.mods.block k (Nat.lt_of_lt_of_le hk ho.1) ?_]
    · exact ho.2 k hk
    · intro hm
      obtain ⟨c, hc, he⟩ := List.mem_map.1 hm
      have hge : w0.heap.size ≤ c.1 := by
        simp only [List.mem_append, List.mem_cons, List.nil_append] at hc hfr
        rcases hc with hc | hc | rfl | hc
        · exact hfr c (.inl hc)
        · exact hfr c (.inr (.inl hc))
        · exact hlo
        · exact hfr c (.inr (.inr hc))
      omega
  · intro c hc
    simp only [List.mem_append, List.mem_cons, List.nil_append] at hc hfr
    rcases hc with rfl | hc | rfl | hc
    · exact hfr _ (.inl rfl)
    · exact hfr c (.inr (.inl hc))
    · exact hlo
    · exact hfr c (.inr (.inr hc))
  · rintro v C' ⟨-, s, ⟨hs, hit, C9, hrep9, rfl⟩ | ⟨hs, rfl⟩⟩
    · obtain ⟨⟨g1, g2, g3, g4, g5⟩, grc, ggv, -, -⟩ := hs
      refine ⟨⟨s.l, s.sv, s.Cl, s.items, s.came, C9, s.st, s.n, s.gv, s.rc⟩, ⟨g1, ⟨by simp only [hit]; exact hrep9, g2.2⟩, g3, g4, g5⟩, .inl ⟨by simp only [grc]; exact hst0, by simp only [grc]; exact hpd0, List.eq_nil_of_length_eq_zero (by have := g2.2.2.length; rw [hit] at this; exact this.symm)⟩, rfl⟩
    · exact ⟨s, hs.1, .inr hs.2, rfl⟩
  rintro ⟨q, sv, Cl, items, came, C0, st, n, gv, rc⟩ ⟨⟨hlr, hhl, hst, hbl, hbc⟩, hrc, hgv, hn, hfr1⟩ hne C1 hrep1 hC1
  simp only at hlr hhl hst hbl hbc hrc hgv hn hfr1 hne hrep1 hC1 ⊢
  subst hrc hgv
  have hlen := hhl.2.2.length
  obtain ⟨ad3, cap3, lb, hsv, had3, hcap3, hmem3, hrow⟩ := hlr.form
  subst hsv
  have hadr := had1 hrne
  subst hadr
  have hall : AllOk false cmpK := .inl ⟨rfl, rfl⟩
  have htook := took_first lawK hall hhl.2.1 hhl.2.2
  rw [show (!items.isEmpty) = true by simpa using hne] at htook
  obtain ⟨i, hfst, hli, hcom1⟩ := hhl.2.2.pop lawK hhl.2.1 hne
  have hil : i < q.length := hfst.1
  have hf := fstI_of hall hfst
  have hqne : q ≠ [] := by rintro h0; rw [h0] at hil; simp at hil
  obtain rfl := had3 hqne
  have htl := len_le_sum ts
  have hTT : tot ts ts.length = (ts.map fun t => t.l.length + 1).sum := by simp [tot]
  have hts1 := tot_le ts st
  have hpl : (popF cmpK items).1.length = items.length - 1 := popF_length cmpK items
  have hback : ({ ({ rc with state := .busy } : Loop) with state := .ready, pending := none } : Loop) = rc := by rw [← hrec]
  refine yt_of_walk (L := [(4, .pointer (some ⟨b4, 0, none⟩)), (5, .pointer (some ⟨b5, 0, none⟩)), (7, .pointer (some ⟨b7, 0, none⟩)), (8, .pointer (some ⟨b8, 0, none⟩)), (10, .pointer (some ⟨b10, 0, none⟩)), (11, .pointer (some ⟨b11, 0, none⟩)), (12, .pointer (some ⟨b12, 0, none⟩)), (13, .pointer (some ⟨b13, 0, none⟩))]) (n := Try.f6.ntmps) (p := 37) (r := rc) (List.mem_append_right _ (List.mem_append_right _ (.head _))) (by rw [← hrec]) (by rw [← hrec]; exact knows_cons h4' (knows_cons h5' (knows_cons h7' (knows_cons h8' (knows_cons h10' (knows_cons h11' (knows_cons h12' (knows_cons h13' knows_nil)))))))) (by rw [← hrec]; exact hsz) (by decide) fun w hO => ?_
  clear IH
  have hA : rc.assign = _ := congrArg Loop.assign hrec.symm
  have hBd : rc.body = _ := congrArg Loop.body hrec.symm
  rw [hA, hBd]
  dsimp only
  clear hA hBd
  have hB : ∀ x ∈ (C1 ++ ([] ++ ((lo, Obj.loop rc) :: (b8, cel 34 [.slice (some ⟨lb, 0, none⟩) q.length cap3]) :: (b12, cel 3 [.int .i64 (n : Int)]) :: (b13, cel 4 [.bool true]) :: (b10, cel 3 [.int .i64 (st : Int)]) :: (b11, cel 3 [.int .i64 (r : Int)]) :: (b7, cel 28 [.pointer (some ⟨hb, 0, none⟩)]) :: (b5, cel 27 [.slice ad2 ts.length cap2]) :: (b4, cel 48 [.slice (some ⟨b1, o1, none⟩) rs.length cap1]) :: Cl))).map Prod.fst, w0.heap.size ≤ x := fun x hx => by
    obtain ⟨c, hc, rfl⟩ := List.mem_map.1 hx
    simp only [List.mem_append, List.nil_append] at hc hfr1
    rcases hc with hc | hc
    · exact hC1 c hc
    · exact hfr1 c (.inr hc)
  refine G.dropP [] (A := (lo, Obj.loop rc) :: (b8, cel 34 [.slice (some ⟨lb, 0, none⟩) q.length cap3]) :: (b12, cel 3 [.int .i64 (n : Int)]) :: (b13, cel 4 [.bool true]) :: (b10, cel 3 [.int .i64 (st : Int)]) :: (b11, cel 3 [.int .i64 (r : Int)]) :: (b7, cel 28 [.pointer (some ⟨hb, 0, none⟩)]) :: (b5, cel 27 [.slice ad2 ts.length cap2]) :: (b4, cel 48 [.slice (some ⟨b1, o1, none⟩) rs.length cap1]) :: (Cl ++ C1)) (by classical exact List.perm_iff_count.2 fun q => by simp only [List.nil_append, List.cons_append, List.count_append, List.count_cons, List.count_nil] <;> omega) ?_
  refine G.region [.alloc, .gen] (.take 0 (.take 1 .done)) rfl ?_
  refine GP.take rfl rfl (Does.alloc zl31 fun b14 Nb14 hb14 nb14 => ?_)
  refine GP.take0 rfl (Does.storeA rfl rfl sz31 (by first | exact .head | exact .tail .head | exact .tail (.tail .head) | exact .tail (.tail (.tail .head)) | exact .tail (.tail (.tail (.tail .head))) | exact .tail (.tail (.tail (.tail (.tail .head))))) (.cons rfl .head (.cons rfl (.tail .head) .nil)) ?_)
  refine GP.keep [(4, _), (5, _), (7, _), (8, _), (10, _), (11, _), (12, _), (13, _), (14, _)] (.cons rfl (.cons rfl (.cons rfl (.cons rfl (.cons rfl (.cons rfl (.cons rfl (.cons rfl (.cons rfl .nil))))))))) ?_
  refine G.dropP [] (A := (lo, Obj.loop rc) :: (b14, cel 31 (enc1 (firstF items))) :: (b8, cel 34 [.slice (some ⟨lb, 0, none⟩) q.length cap3]) :: (b12, cel 3 [.int .i64 (n : Int)]) :: (b13, cel 4 [.bool true]) :: (b10, cel 3 [.int .i64 (st : Int)]) :: (b11, cel 3 [.int .i64 (r : Int)]) :: (b7, cel 28 [.pointer (some ⟨hb, 0, none⟩)]) :: (b5, cel 27 [.slice ad2 ts.length cap2]) :: (b4, cel 48 [.slice (some ⟨b1, o1, none⟩) rs.length cap1]) :: (Cl ++ C1)) (by classical exact List.perm_iff_count.2 fun q => by simp only [enc1, List.cons_append, List.count_append, List.count_cons, List.count_nil] <;> omega) ?_
  refine G.beginRound rfl hst0 .head ?_
  refine G.block ?_
  repeat refine G.seq ?_
  refine G.region [.gen, .gen, .gen, .loc] (.take 0 (.take 1 (.take 2 (.take 3 .done)))) rfl ?_
  refine GP.take rfl rfl (Does.loadA (vs := enc1 (firstF items)) rfl ag31 (RowIn.own (.tail _ (.head _)) rfl) ?_)
  refine GP.take rfl rfl (Does.load1 rfl ft34 (CellIn.own (.tail _ (.tail _ (.head _))) rfl) ?_)
  refine GP.take rfl rfl (Does.callN (.cons rfl (.cons rfl (.cons rfl (.cons rfl .nil)))) cb25 (took_ct (firstF items) true q false (some ⟨lb, 0, none⟩) cap3 lb 0 (fun _ => rfl) (by omega)) (fun w hs i u hi => by have := hrow _ [_, _, _, _, _, _, _, _, _, _] (C1) w hs i u hi; simpa using this) ?_)
  rintro _ _ ⟨rfl, rfl⟩
  rw [htook]
  simp only [List.append_nil]
  refine GP.take rfl rfl (Does.assign rfl ?_)
  refine GP.keep [(4, _), (5, _), (7, _), (8, _), (10, _), (11, _), (12, _), (13, _), (15, _)] (.cons rfl (.cons rfl (.cons rfl (.cons rfl (.cons rfl (.cons rfl (.cons rfl (.cons rfl (.cons rfl .nil))))))))) ?_
  repeat refine G.seq ?_
  refine G.region [.gen, .gen, .loc] (.take 0 (.take 1 (.take 2 .done))) rfl ?_
  refine GP.take rfl rfl (Does.load1 rfl ft34 (CellIn.own (.tail _ (.tail _ (.head _))) rfl) ?_)
  refine GP.take rfl rfl (Does.callN (.cons rfl (.cons rfl .nil)) cb26 (first_ct q false (some ⟨lb, 0, none⟩) cap3 lb 0 (fun _ => rfl) (by omega)) (fun w hs i u hi => by have := hrow _ [_, _, _, _, _, _, _, _, _, _] (C1) w hs i u hi; simpa using this) ?_)
  rintro _ _ ⟨rfl, rfl⟩
  rw [hf]
  simp only [List.append_nil, plc]
  refine GP.take rfl rfl (Does.assign rfl ?_)
  refine GP.keep [(4, _), (5, _), (7, _), (8, _), (10, _), (11, _), (12, _), (13, _), (15, _), (16, _)] (.cons rfl (.cons rfl (.cons rfl (.cons rfl (.cons rfl (.cons rfl (.cons rfl (.cons rfl (.cons rfl (.cons rfl .nil)))))))))) ?_
  repeat refine G.seq ?_
  refine G.region [.loc, .loc, .loc, .loc, .loc, .loc] (.take 0 (.take 1 (.take 2 (.take 3 (.take 4 (.take 5 .done)))))) rfl ?_
  refine GP.take rfl rfl (Does.move rfl ?_)
  refine GP.take rfl rfl (Does.not rfl rfl ?_)
  refine GP.take rfl rfl (Does.move rfl ?_)
  refine GP.takeG rfl rfl rfl rfl (Does.move rfl ?_)
  refine GP.takeG rfl rfl rfl rfl (Does.lss rfl rfl (show decide ((i : Int) < 0) = false from decide_eq_false (by omega)) ?_)
  refine GP.take rfl rfl (Does.pickF rfl rfl ?_)
  refine GP.keep [(4, _), (5, _), (7, _), (8, _), (10, _), (11, _), (12, _), (13, _), (16, _), (48, _)] (.cons rfl (.cons rfl (.cons rfl (.cons rfl (.cons rfl (.cons rfl (.cons rfl (.cons rfl (.cons rfl (.cons rfl .nil)))))))))) ?_
  refine G.condF rfl ?_
  refine G.skip ?_
  repeat refine G.seq ?_
  refine G.region [.gen, .loc, .gen, .gen] (.take 0 (.take 1 (.take 2 (.take 3 .done)))) rfl ?_
  refine GP.take rfl rfl (Does.load1 rfl ft34 (CellIn.own (.tail _ (.tail _ (.head _))) rfl) ?_)
  refine GP.take rfl rfl (Does.move rfl ?_)
  refine GP.take rfl rfl (Does.callN (.cons rfl (.cons rfl .nil)) cb27 (without_ct q i hil cap3 lb 0 hcap3 (by omega)) (fun w hs i u hi => by have := hrow _ [_, _, _, _, _, _, _, _, _, _] (C1) w hs i u hi; simpa using this) ?_)
  intro svw Cw hw
  refine GP.take0 rfl (Does.store1 rfl rfl sz34 (by obtain ⟨_, _, _, e, -⟩ := hw.form; rw [e]; rfl) (.tail (.tail .head)) .head ?_)
  refine GP.keep [(4, _), (5, _), (7, _), (8, _), (10, _), (11, _), (12, _), (13, _)] (.cons rfl (.cons rfl (.cons rfl (.cons rfl (.cons rfl (.cons rfl (.cons rfl (.cons rfl .nil)))))))) ?_
  repeat refine G.seq ?_
  refine G.dropP Cl (A := (lo, Obj.loop { rc with state := .busy }) :: (b14, cel 31 (enc1 (firstF items))) :: (b8, cel 34 [svw]) :: (b12, cel 3 [.int .i64 (n : Int)]) :: (b13, cel 4 [.bool true]) :: (b10, cel 3 [.int .i64 (st : Int)]) :: (b11, cel 3 [.int .i64 (r : Int)]) :: (b7, cel 28 [.pointer (some ⟨hb, 0, none⟩)]) :: (b5, cel 27 [.slice ad2 ts.length cap2]) :: (b4, cel 48 [.slice (some ⟨b1, o1, none⟩) rs.length cap1]) :: (Cw ++ C1)) (by classical exact List.perm_iff_count.2 fun q => by simp only [enc1, List.append_eq, List.cons_append, List.count_append, List.count_cons] <;> omega) ?_
  have hwl : (q.eraseIdx i).length = q.length - 1 := List.length_eraseIdx_of_lt hil
  refine G.region [.gen, .gen, .loc, .loc] (.take 0 (.take 1 (.take 2 (.take 3 .done)))) rfl ?_
  refine GP.take rfl rfl (Does.load1 rfl ft3 (CellIn.own (.tail _ (.tail _ (.tail _ (.tail _ (.tail _ (.head _)))))) rfl) ?_)
  refine GP.take rfl rfl (Does.load1 rfl ft27 (CellIn.own (.tail _ (.tail _ (.tail _ (.tail _ (.tail _ (.tail _ (.tail _ (.tail _ (.head _))))))))) rfl) ?_)
  refine GP.take rfl rfl (Does.len rfl is27 ?_)
  refine GP.take rfl rfl (Does.lss rfl rfl rfl ?_)
  refine GP.keep [(4, _), (5, _), (7, _), (8, _), (10, _), (11, _), (12, _), (13, _), (55, _)] (.cons rfl (.cons rfl (.cons rfl (.cons rfl (.cons rfl (.cons rfl (.cons rfl (.cons rfl (.cons rfl .nil))))))))) ?_
  repeat refine G.seq ?_
  refine G.join (S := DrS) (fun s => [(4, .pointer (some ⟨b4, 0, none⟩)), (5, .pointer (some ⟨b5, 0, none⟩)), (7, .pointer (some ⟨b7, 0, none⟩)), (8, .pointer (some ⟨b8, 0, none⟩)), (10, .pointer (some ⟨b10, 0, none⟩)), (11, .pointer (some ⟨b11, 0, none⟩)), (12, .pointer (some ⟨b12, 0, none⟩)), (13, .pointer (some ⟨b13, 0, none⟩))]) (fun s => (lo, Obj.loop { rc with state := .busy }) :: (b14, cel 31 (enc1 (firstF items))) :: (b8, cel 34 [s.sv]) :: (b12, cel 3 [.int .i64 (n : Int)]) :: (b13, cel 4 [.bool true]) :: (b10, cel 3 [.int .i64 (s.st : Int)]) :: (b11, cel 3 [.int .i64 (r : Int)]) :: (b7, cel 28 [.pointer (some ⟨hb, 0, none⟩)]) :: (b5, cel 27 [.slice ad2 ts.length cap2]) :: (b4, cel 48 [.slice (some ⟨b1, o1, none⟩) rs.length cap1]) :: (s.Cl ++ s.C0))
    (fun s => (LRep s.l s.sv s.Cl ∧ HL 14 cmpK hb s.l s.items s.came s.C0 ∧ s.st ≤ ts.length ∧ s.l.length ≤ l0 + tot ts s.st ∧ s.came ≤ l0 + tot ts s.st) ∧ s.items.length + (tot ts ts.length - tot ts s.st) < items.length + (tot ts ts.length - tot ts st)) ?_ fun key => ?_
  · clear hlr hhl hst hbl hbc hcom1 hw hwl hfst hli hil hf hqne htook hne hrow hmem3 hcap3 had3 hrep1 h4' h5' h7' h8' h10' h11' h12' h13' hts1 hpl
    rintro ⟨q2, sv2, Cl2, items2, came2, C2, st2, n2, gv2, rc2⟩ ⟨⟨hlr2, hhl2, hst2, hbl2, hbc2⟩, hmu⟩
    simp only at hlr2 hhl2 hst2 hbl2 hbc2 hmu ⊢
    repeat refine G.seq ?_
    refine G.region [.gen, .loc, .gen] (.take 0 (.take 1 (.take 2 .done))) rfl ?_
    refine GP.take rfl rfl (Does.load1 rfl ft3 (CellIn.own (.tail _ (.tail _ (.tail _ (.head _)))) rfl) ?_)
    refine GP.take rfl rfl (Does.add rfl rfl (r := ((n + 1 : Nat) : Int)) (wrc_i64 (by omega) (by omega) (by omega)) ?_)
    refine GP.take0 rfl (Does.store1 rfl rfl sz3 rfl (.tail (.tail (.tail .head))) .head ?_)
    refine GP.keep [(4, _), (5, _), (7, _), (8, _), (10, _), (11, _), (12, _), (13, _)] (.cons rfl (.cons rfl (.cons rfl (.cons rfl (.cons rfl (.cons rfl (.cons rfl (.cons rfl .nil)))))))) ?_
    repeat refine G.seq ?_
    refine G.draw [.load, .load, .load, .loc, .load, .loc] (.take 0 (.take 1 (.take 2 (.take 3 (.take 4 (.take 5 .done)))))) (by exact mixed) (by kernel_rfl) ?_
    intro N hN0 hN
    refine GP.take rfl rfl (Does.load1N rfl ft3 (hN _ (.tail _ (.tail _ (.tail _ (.head _))))) (CellIn.own (.tail _ (.tail _ (.tail _ (.head _)))) rfl) ?_)
    refine GP.take rfl rfl (Does.load1N rfl ft48 (hN _ (.tail _ (.tail _ (.tail _ (.tail _ (.tail _ (.tail _ (.tail _ (.tail _ (.tail _ (.head _))))))))))) (CellIn.own (.tail _ (.tail _ (.tail _ (.tail _ (.tail _ (.tail _ (.tail _ (.tail _ (.tail _ (.head _)))))))))) rfl) ?_)
    refine GP.take rfl rfl (Does.load1N rfl ft3 (hN _ (.tail _ (.tail _ (.tail _ (.tail _ (.tail _ (.tail _ (.head _)))))))) (CellIn.own (.tail _ (.tail _ (.tail _ (.tail _ (.tail _ (.tail _ (.head _))))))) rfl) ?_)
    refine GP.take rfl rfl (Does.indexAddr r rfl rfl sl48 rfl hrl ?_)
    refine GP.take rfl rfl (Does.load1N rfl ft3 (Nat.lt_of_lt_of_le (cell_lt (hO.cell (hrs (r * 1 + 0) _ (flat_get (fun x => [Value.int .i64 x]) 1 (fun _ => rfl) rs r hrl 0 _ rfl)))) hN0) (fun w1 hs1 => Old.row (C := _) hO hB hrs w1 hs1 (r * 1 + 0) _ (flat_get (fun x => [Value.int .i64 x]) 1 (fun _ => rfl) rs r hrl 0 _ rfl)) ?_)
    refine GP.take rfl rfl (Does.geq rfl rfl rfl ?_)
    refine GP.keep [(4, _), (5, _), (7, _), (8, _), (10, _), (11, _), (12, _), (13, _), (78, _)] (.cons rfl (.cons rfl (.cons rfl (.cons rfl (.cons rfl (.cons rfl (.cons rfl (.cons rfl (.cons rfl .nil))))))))) ?_
    refine G.cond rfl ?_ ?_
    · intro hz
      repeat refine G.seq ?_
      refine G.region [.gen] (.take 0 .done) rfl ?_
      refine GP.take0 rfl (Does.store1 rfl rfl sz4 rfl (.tail (.tail (.tail (.tail .head)))) .head ?_)
      refine GP.keep [(13, _)] (.cons rfl .nil) ?_
      refine G.fact (p := ∀ x ∈ ((lo, Obj.loop { rc with state := .busy }) :: (b14, cel 31 (enc1 (firstF items))) :: (b8, cel 34 [sv2]) :: (b12, cel 3 [.int .i64 ((n + 1 : Nat) : Int)]) :: (b13, cel 4 [.bool false]) :: (b10, cel 3 [.int .i64 (st2 : Int)]) :: (b11, cel 3 [.int .i64 (r : Int)]) :: (b7, cel 28 [.pointer (some ⟨hb, 0, none⟩)]) :: (b5, cel 27 [.slice ad2 ts.length cap2]) :: (b4, cel 48 [.slice (some ⟨b1, o1, none⟩) rs.length cap1]) :: (Cl2 ++ C2)).map Prod.fst, w0.heap.size ≤ x) (fun w hs x hx => by
        obtain ⟨c, hc, rfl⟩ := List.mem_map.1 hx
        exact (hs.new c hc).elim (hB _) (fun h => Nat.le_trans hO.1 h)) fun hfr2 => ?_
      simp only [List.map_cons, List.map_append, List.mem_append, List.mem_cons] at hfr2
      have hfr3 : ∀ (rr : Loop) c, c ∈ C2 ++ ((lo, Obj.loop (⟨q2, sv2, Cl2, items2, came2, C2, st2, n + 1, false, rr⟩ : DrS).rc) :: (b8, cel 34 [(⟨q2, sv2, Cl2, items2, came2, C2, st2, n + 1, false, rr⟩ : DrS).sv]) :: (b12, cel 3 [.int .i64 ((⟨q2, sv2, Cl2, items2, came2, C2, st2, n + 1, false, rr⟩ : DrS).n : Int)]) :: (b13, cel 4 [.bool (⟨q2, sv2, Cl2, items2, came2, C2, st2, n + 1, false, rr⟩ : DrS).gv]) :: (b10, cel 3 [.int .i64 ((⟨q2, sv2, Cl2, items2, came2, C2, st2, n + 1, false, rr⟩ : DrS).st : Int)]) :: (b11, cel 3 [.int .i64 (r : Int)]) :: (b7, cel 28 [.pointer (some ⟨hb, 0, none⟩)]) :: (b5, cel 27 [.slice ad2 ts.length cap2]) :: (b4, cel 48 [.slice (some ⟨b1, o1, none⟩) rs.length cap1]) :: (⟨q2, sv2, Cl2, items2, came2, C2, st2, n + 1, false, rr⟩ : DrS).Cl) → w0.heap.size ≤ c.1 := fun rr c hc => by
        simp only [List.mem_append, List.mem_cons] at hc
        rcases hc with hc | rfl | rfl | rfl | rfl | rfl | rfl | rfl | rfl | rfl | hc
        · exact hfr2 _ (by have h9 := List.mem_map_of_mem (f := Prod.fst) hc; simp only [h9, or_true])
        all_goals first | exact hfr2 _ (by simp only [true_or, or_true]) | exact hfr2 _ (by have h9 := List.mem_map_of_mem (f := Prod.fst) hc; simp only [h9, true_or, or_true])
      refine G.dropP [(b14, cel 31 (enc1 (firstF items)))] (A := (lo, Obj.loop { rc with state := .busy }) :: (b8, cel 34 [sv2]) :: (b12, cel 3 [.int .i64 ((n + 1 : Nat) : Int)]) :: (b13, cel 4 [.bool false]) :: (b10, cel 3 [.int .i64 (st2 : Int)]) :: (b11, cel 3 [.int .i64 (r : Int)]) :: (b7, cel 28 [.pointer (some ⟨hb, 0, none⟩)]) :: (b5, cel 27 [.slice ad2 ts.length cap2]) :: (b4, cel 48 [.slice (some ⟨b1, o1, none⟩) rs.length cap1]) :: (Cl2 ++ C2)) (by classical exact List.perm_iff_count.2 fun q => by simp only [enc1, List.cons_append, List.count_append, List.count_cons, List.count_nil] <;> omega) ?_
      refine fin_roundXP (C2 := C2 ++ ([] ++ ((lo, Obj.loop (⟨q2, sv2, Cl2, items2, came2, C2, st2, n + 1, false, { rc with state := .done, pending := some (.exit 2) }⟩ : DrS).rc) :: (b8, cel 34 [(⟨q2, sv2, Cl2, items2, came2, C2, st2, n + 1, false, { rc with state := .done, pending := some (.exit 2) }⟩ : DrS).sv]) :: (b12, cel 3 [.int .i64 ((⟨q2, sv2, Cl2, items2, came2, C2, st2, n + 1, false, { rc with state := .done, pending := some (.exit 2) }⟩ : DrS).n : Int)]) :: (b13, cel 4 [.bool (⟨q2, sv2, Cl2, items2, came2, C2, st2, n + 1, false, { rc with state := .done, pending := some (.exit 2) }⟩ : DrS).gv]) :: (b10, cel 3 [.int .i64 ((⟨q2, sv2, Cl2, items2, came2, C2, st2, n + 1, false, { rc with state := .done, pending := some (.exit 2) }⟩ : DrS).st : Int)]) :: (b11, cel 3 [.int .i64 (r : Int)]) :: (b7, cel 28 [.pointer (some ⟨hb, 0, none⟩)]) :: (b5, cel 27 [.slice ad2 ts.length cap2]) :: (b4, cel 48 [.slice (some ⟨b1, o1, none⟩) rs.length cap1]) :: (⟨q2, sv2, Cl2, items2, came2, C2, st2, n + 1, false, { rc with state := .done, pending := some (.exit 2) }⟩ : DrS).Cl))) rfl .head (by classical exact List.perm_iff_count.2 fun q => by simp only [List.nil_append, List.count_append, List.count_cons] <;> omega) ⟨⟨q2, sv2, Cl2, items2, came2, C2, st2, n + 1, false, { rc with state := .done, pending := some (.exit 2) }⟩, false, rfl, rfl, fun h => absurd h (by decide), fun _ => ⟨⟨hlr2, hhl2, hst2, hbl2, hbc2⟩, rfl, rfl, rfl⟩⟩
    intro hz
    refine G.skip ?_
    refine G.inBlock ?_
    refine G.fact (p := ∀ x ∈ ((lo, Obj.loop { rc with state := .busy }) :: (b14, cel 31 (enc1 (firstF items))) :: (b8, cel 34 [sv2]) :: (b12, cel 3 [.int .i64 ((n + 1 : Nat) : Int)]) :: (b13, cel 4 [.bool true]) :: (b10, cel 3 [.int .i64 (st2 : Int)]) :: (b11, cel 3 [.int .i64 (r : Int)]) :: (b7, cel 28 [.pointer (some ⟨hb, 0, none⟩)]) :: (b5, cel 27 [.slice ad2 ts.length cap2]) :: (b4, cel 48 [.slice (some ⟨b1, o1, none⟩) rs.length cap1]) :: (Cl2 ++ C2)).map Prod.fst, w0.heap.size ≤ x) (fun w hs x hx => by
      obtain ⟨c, hc, rfl⟩ := List.mem_map.1 hx
      exact (hs.new c hc).elim (hB _) (fun h => Nat.le_trans hO.1 h)) fun hfr2 => ?_
    simp only [List.map_cons, List.map_append, List.mem_append, List.mem_cons] at hfr2
    have hfr3 : ∀ (rr : Loop) c, c ∈ C2 ++ ((lo, Obj.loop (⟨q2, sv2, Cl2, items2, came2, C2, st2, n + 1, true, rr⟩ : DrS).rc) :: (b8, cel 34 [(⟨q2, sv2, Cl2, items2, came2, C2, st2, n + 1, true, rr⟩ : DrS).sv]) :: (b12, cel 3 [.int .i64 ((⟨q2, sv2, Cl2, items2, came2, C2, st2, n + 1, true, rr⟩ : DrS).n : Int)]) :: (b13, cel 4 [.bool (⟨q2, sv2, Cl2, items2, came2, C2, st2, n + 1, true, rr⟩ : DrS).gv]) :: (b10, cel 3 [.int .i64 ((⟨q2, sv2, Cl2, items2, came2, C2, st2, n + 1, true, rr⟩ : DrS).st : Int)]) :: (b11, cel 3 [.int .i64 (r : Int)]) :: (b7, cel 28 [.pointer (some ⟨hb, 0, none⟩)]) :: (b5, cel 27 [.slice ad2 ts.length cap2]) :: (b4, cel 48 [.slice (some ⟨b1, o1, none⟩) rs.length cap1]) :: (⟨q2, sv2, Cl2, items2, came2, C2, st2, n + 1, true, rr⟩ : DrS).Cl) → w0.heap.size ≤ c.1 := fun rr c hc => by
      simp only [List.mem_append, List.mem_cons] at hc
      rcases hc with hc | rfl | rfl | rfl | rfl | rfl | rfl | rfl | rfl | rfl | hc
      · exact hfr2 _ (by have h9 := List.mem_map_of_mem (f := Prod.fst) hc; simp only [h9, or_true])
      all_goals first | exact hfr2 _ (by simp only [true_or, or_true]) | exact hfr2 _ (by have h9 := List.mem_map_of_mem (f := Prod.fst) hc; simp only [h9, true_or, or_true])
    refine G.dropP [(b14, cel 31 (enc1 (firstF items)))] (A := (lo, Obj.loop { rc with state := .busy }) :: (b8, cel 34 [sv2]) :: (b12, cel 3 [.int .i64 ((n + 1 : Nat) : Int)]) :: (b13, cel 4 [.bool true]) :: (b10, cel 3 [.int .i64 (st2 : Int)]) :: (b11, cel 3 [.int .i64 (r : Int)]) :: (b7, cel 28 [.pointer (some ⟨hb, 0, none⟩)]) :: (b5, cel 27 [.slice ad2 ts.length cap2]) :: (b4, cel 48 [.slice (some ⟨b1, o1, none⟩) rs.length cap1]) :: (Cl2 ++ C2)) (by classical exact List.perm_iff_count.2 fun q => by simp only [enc1, List.cons_append, List.count_append, List.count_cons, List.count_nil] <;> omega) ?_
    refine fin_roundP (C2 := C2 ++ ([] ++ ((lo, Obj.loop (⟨q2, sv2, Cl2, items2, came2, C2, st2, n + 1, true, rc⟩ : DrS).rc) :: (b8, cel 34 [(⟨q2, sv2, Cl2, items2, came2, C2, st2, n + 1, true, rc⟩ : DrS).sv]) :: (b12, cel 3 [.int .i64 ((⟨q2, sv2, Cl2, items2, came2, C2, st2, n + 1, true, rc⟩ : DrS).n : Int)]) :: (b13, cel 4 [.bool (⟨q2, sv2, Cl2, items2, came2, C2, st2, n + 1, true, rc⟩ : DrS).gv]) :: (b10, cel 3 [.int .i64 ((⟨q2, sv2, Cl2, items2, came2, C2, st2, n + 1, true, rc⟩ : DrS).st : Int)]) :: (b11, cel 3 [.int .i64 (r : Int)]) :: (b7, cel 28 [.pointer (some ⟨hb, 0, none⟩)]) :: (b5, cel 27 [.slice ad2 ts.length cap2]) :: (b4, cel 48 [.slice (some ⟨b1, o1, none⟩) rs.length cap1]) :: (⟨q2, sv2, Cl2, items2, came2, C2, st2, n + 1, true, rc⟩ : DrS).Cl))) .head (by rw [hback]; exact (by classical exact List.perm_iff_count.2 fun q => by simp only [List.nil_append, List.count_append, List.count_cons] <;> omega)) ⟨⟨q2, sv2, Cl2, items2, came2, C2, st2, n + 1, true, rc⟩, true, rfl, rfl, fun _ => ⟨⟨⟨hlr2, hhl2, hst2, hbl2, hbc2⟩, rfl, rfl, by have h1 := hhl2.2.2.length; simp only; omega, hfr3 rc⟩, hmu⟩, fun h => by cases h⟩
  refine G.cond rfl ?_ ?_
  case refine_2 =>
    intro hz
    refine G.skip ?_
    refine (key ⟨q.eraseIdx i, svw, Cw, _, came, C1, st, n, true, rc⟩ ⟨⟨hw, ⟨hrep1, popF_hd lawK hhl.2.1, hcom1⟩, hst, by simp only; omega, hbc⟩, ?_⟩).weak (.cons rfl (.cons rfl (.cons rfl (.cons rfl (.cons rfl (.cons rfl (.cons rfl (.cons rfl .nil))))))))
    have hpos : 0 < items.length := List.length_pos_iff.2 hne
    exact Nat.add_lt_add_right (Nat.lt_of_le_of_lt (Nat.le_of_eq hpl) (by omega)) _
  intro hz
  have hstl : st < ts.length := by omega
  have htne : ts ≠ [] := by rintro rfl; simp at hstl
  have hadt := had2 htne
  subst hadt
  obtain ⟨t, ht⟩ : ∃ t, ts[st]? = some t := ⟨ts[st], by simp [hstl]⟩
  have htm : t ∈ ts := List.mem_of_getElem? ht
  obtain ⟨htc, htad, htat⟩ := htok t htm
  have htsc := tot_succ ts st t ht
  have htsc1 := tot_le ts (st + 1)
  have hbt : b2 ∉ (C1 ++ ([] ++ ((lo, Obj.loop rc) :: (b8, cel 34 [.slice (some ⟨lb, 0, none⟩) q.length cap3]) :: (b12, cel 3 [.int .i64 (n : Int)]) :: (b13, cel 4 [.bool true]) :: (b10, cel 3 [.int .i64 (st : Int)]) :: (b11, cel 3 [.int .i64 (r : Int)]) :: (b7, cel 28 [.pointer (some ⟨hb, 0, none⟩)]) :: (b5, cel 27 [.slice (some ⟨b2, o2, none⟩) ts.length cap2]) :: (b4, cel 48 [.slice (some ⟨b1, o1, none⟩) rs.length cap1]) :: Cl))).map Prod.fst := fun hm => by
    have := hB _ hm
    have h2 := cell_lt (hts (st * 3 + 0) _ (flat_get rowT 3 rowT_length ts st hstl 0 _ rfl))
    omega
  refine G.fact (p := t.l ≠ [] → t.b ∉ (Cw ++ C1).map Prod.fst) (fun w1 hs1 hne hm => ?_) fun hnot => ?_
  · have hlt := At.lt htat 0 (List.length_pos_iff.2 hne)
    obtain ⟨c, hc, he⟩ := List.mem_map.1 hm
    have h1 := (hs1.new c (by simp only [List.mem_cons, List.mem_append] at hc ⊢; rcases hc with hc | hc <;> simp [hc])).elim (hB _) (fun h => Nat.le_trans hO.1 h)
    omega
  repeat refine G.seq ?_
  refine G.draw [.load, .load, .load, .load, .loc, .load, .gen, .loc, .loc, .loc, .loc, .loc] (.take 0 (.take 1 (.take 2 (.take 3 (.take 4 (.take 5 (.alt 6 (.take 7 (.take 8 (.take 9 (.take 10 (.take 11 .done))))) .stop))))))) (by exact mixed) (by kernel_rfl) ?_
  intro N hN0 hN
  refine GP.take rfl rfl (Does.load1N rfl ft28 (hN _ (.tail _ (.tail _ (.tail _ (.tail _ (.tail _ (.tail _ (.tail _ (.head _))))))))) (CellIn.own (.tail _ (.tail _ (.tail _ (.tail _ (.tail _ (.tail _ (.tail _ (.head _)))))))) rfl) ?_)
  refine GP.take rfl rfl (Does.load1N rfl ft34 (hN _ (.tail _ (.tail _ (.head _)))) (CellIn.own (.tail _ (.tail _ (.head _))) rfl) ?_)
  refine GP.take rfl rfl (Does.load1N rfl ft27 (hN _ (.tail _ (.tail _ (.tail _ (.tail _ (.tail _ (.tail _ (.tail _ (.tail _ (.head _)))))))))) (CellIn.own (.tail _ (.tail _ (.tail _ (.tail _ (.tail _ (.tail _ (.tail _ (.tail _ (.head _))))))))) rfl) ?_)
  refine GP.take rfl rfl (Does.load1N rfl ft3 (hN _ (.tail _ (.tail _ (.tail _ (.tail _ (.tail _ (.head _))))))) (CellIn.own (.tail _ (.tail _ (.tail _ (.tail _ (.tail _ (.head _)))))) rfl) ?_)
  refine GP.take rfl rfl (Does.indexAddr st rfl rfl sl27 rfl hstl ?_)
  refine GP.take rfl rfl (Does.loadAN (vs := [.int .i64 t.kind, .int .i64 t.which, .slice t.ad t.l.length t.cap]) rfl ag38 (Nat.lt_of_lt_of_le (cell_lt (hO.cell (hts (st * 3 + 0) _ (flat_get rowT 3 rowT_length ts st hstl 0 _ rfl)))) hN0) (turn_row hbt (fun i u h => hO.cell (hts i u h)) st t ht) ?_)
  refine GP.one ?_
  refine GP.take rfl rfl (Does.callP ((lo, Obj.loop { rc with state := .busy }) :: (b14, cel 31 (enc1 (firstF items))) :: (b8, cel 34 [svw]) :: (b12, cel 3 [.int .i64 (n : Int)]) :: (b13, cel 4 [.bool true]) :: (b10, cel 3 [.int .i64 (st : Int)]) :: (b11, cel 3 [.int .i64 (r : Int)]) :: (b7, cel 28 [.pointer (some ⟨hb, 0, none⟩)]) :: (b5, cel 27 [.slice (some ⟨b2, o2, none⟩) ts.length cap2]) :: (b4, cel 48 [.slice (some ⟨b1, o1, none⟩) rs.length cap1]) :: []) (Cw ++ C1) (.cons rfl (.cons rfl (.cons rfl (.cons rfl .nil)))) cb16 (by classical exact List.perm_iff_count.2 fun q => by simp only [enc1, List.nil_append, List.cons_append, List.count_append, List.count_cons] <;> omega) (turn_ct (t := t) byK_ok hall hb (q.eraseIdx i) svw Cw (popF cmpK items).1 came C1 hw ⟨hrep1, popF_hd lawK hhl.2.1, hcom1⟩ (by omega) (by omega) htc htad hnot) (fun w1 hs1 i u hi => Old.row (C := _) hO hB (fun i v h => htat i v h) w1 hs1 i u hi) ?_)
  rintro _ _ ⟨l1, sv1, Cl1, items1, came1, C1x, rfl, hl1, hh1, rfl, hn1, hn2, hn3⟩
  refine ⟨(lo, Obj.loop { rc with state := .busy }) :: (b14, cel 31 (enc1 (firstF items))) :: (b8, cel 34 [svw]) :: (b12, cel 3 [.int .i64 (n : Int)]) :: (b13, cel 4 [.bool true]) :: (b10, cel 3 [.int .i64 (st : Int)]) :: (b11, cel 3 [.int .i64 (r : Int)]) :: (b7, cel 28 [.pointer (some ⟨hb, 0, none⟩)]) :: (b5, cel 27 [.slice (some ⟨b2, o2, none⟩) ts.length cap2]) :: (b4, cel 48 [.slice (some ⟨b1, o1, none⟩) rs.length cap1]) :: (Cl1 ++ C1x), (by classical exact List.perm_iff_count.2 fun q => by simp only [enc1, List.nil_append, List.cons_append, List.count_append, List.count_cons] <;> omega), ?_⟩
  refine GP.take rfl rfl (Does.move rfl ?_)
  refine GP.take rfl rfl (Does.extract rfl rfl ?_)
  refine GP.take rfl rfl (Does.extract rfl rfl ?_)
  refine GP.take rfl rfl (Does.assign rfl ?_)
  refine GP.take rfl rfl (Does.assign rfl ?_)
  refine GP.keep [(4, _), (5, _), (7, _), (8, _), (10, _), (11, _), (12, _), (13, _), (17, _), (18, _)] (.cons rfl (.cons rfl (.cons rfl (.cons rfl (.cons rfl (.cons rfl (.cons rfl (.cons rfl (.cons rfl (.cons rfl .nil)))))))))) ?_
  repeat refine G.seq ?_
  refine G.region [.loc, .loc] (.take 0 (.take 1 .done)) rfl ?_
  refine GP.take rfl rfl (Does.move rfl ?_)
  refine GP.take rfl rfl (Does.not rfl rfl ?_)
  refine GP.keep [(4, _), (5, _), (7, _), (8, _), (10, _), (11, _), (12, _), (13, _), (17, _), (67, _)] (.cons rfl (.cons rfl (.cons rfl (.cons rfl (.cons rfl (.cons rfl (.cons rfl (.cons rfl (.cons rfl (.cons rfl .nil)))))))))) ?_
  refine G.condF rfl ?_
  refine G.skip ?_
  repeat refine G.seq ?_
  refine G.region [.loc, .gen] (.take 0 (.take 1 .done)) rfl ?_
  refine GP.take rfl rfl (Does.move rfl ?_)
  refine GP.take0 rfl (Does.store1 rfl rfl sz34 (by obtain ⟨_, _, _, e, -⟩ := hl1.form; rw [e]; rfl) (.tail (.tail .head)) .head ?_)
  refine GP.keep [(4, _), (5, _), (7, _), (8, _), (10, _), (11, _), (12, _), (13, _)] (.cons rfl (.cons rfl (.cons rfl (.cons rfl (.cons rfl (.cons rfl (.cons rfl (.cons rfl .nil)))))))) ?_
  repeat refine G.seq ?_
  refine G.region [.gen, .loc, .gen] (.take 0 (.take 1 (.take 2 .done))) rfl ?_
  refine GP.take rfl rfl (Does.load1 rfl ft3 (CellIn.own (.tail _ (.tail _ (.tail _ (.tail _ (.tail _ (.head _)))))) rfl) ?_)
  refine GP.take rfl rfl (Does.add rfl rfl (r := ((st + 1 : Nat) : Int)) (wrc_i64 (by omega) (by omega) (by omega)) ?_)
  refine GP.take0 rfl (Does.store1 rfl rfl sz3 rfl (.tail (.tail (.tail (.tail (.tail .head))))) .head ?_)
  refine GP.keep [(4, _), (5, _), (7, _), (8, _), (10, _), (11, _), (12, _), (13, _)] (.cons rfl (.cons rfl (.cons rfl (.cons rfl (.cons rfl (.cons rfl (.cons rfl (.cons rfl .nil)))))))) ?_
  refine key ⟨l1, sv1, Cl1, items1, came1, C1x, st + 1, n, true, rc⟩ ⟨⟨hl1, hh1, by simp only; omega, by simp only; omega, by simp only; omega⟩, ?_⟩
  have hpos : 0 < items.length := List.length_pos_iff.2 hne
  have h5 := hh1.2.2.length
  simp only; omega
set_option maxRecDepth 100000 in
theorem heapDrains_contract (H : Type) (enc : TypeId × Value → H) (W : World) (base : Nat) (args : Array Value) (ds gs : List (DataW H)) (before : List MemPlace)
    (hval : ∀ (j : Nat) t v, Try.f6.params[j]? = some t → args[j]? = some v → Value.okWide Try.prog W .any base t v)
    (hW : DataW.Whole enc Try.prog Try.f6.params.toList Rows.heapDrainsSpec.vars false W args.toList ds gs before) (hk : Rows.uptoSmall H (ds ++ gs) = true) :
    Calls Try.prog 6 args W fun e W' => ∃ v, e = .returned v ∧ Rows.heapDrainsSpec.post enc Try.prog Try.f6 false true false false W args v W' := by
  have hW0 := hW
  obtain ⟨p, q, hA, -, -, -, -⟩ := hW
  have hsm : Rows.uptoBulkAll (ds ++ gs) ≤ 1048576 := of_decide_eq_true hk
  obtain ⟨v, vs, d, ds', p1, q1, n1, hargs, rfl, rfl, h1, h2⟩ := trodAll_split (t := 34) (ts := [48, 27]) hA
  obtain ⟨v2, vs2, d2, ds2, p2, q2, n2, rfl, rfl, rfl, h3, h4⟩ := trodAll_split (t := 48) (ts := [27]) h2
  obtain ⟨v3, vs3, d3, ds3, p3, q3, n3, rfl, rfl, rfl, h5, h6⟩ := trodAll_split (t := 27) (ts := []) h4
  obtain ⟨rfl, rfl, rfl⟩ := trodAll_end h6
  obtain rfl : args = #[v, v2, v3] := by cases args; simpa using hargs
  obtain ⟨a0, len, cap, rfl⟩ := Go.WideShapes.okWide_slice Try.underlying34 (hval 0 34 _ rfl rfl)
  obtain ⟨a1, len1, cap1, rfl⟩ := Go.WideShapes.okWide_slice Try.underlying48 (hval 1 48 _ rfl rfl)
  obtain ⟨a2, len2, cap2, rfl⟩ := Go.WideShapes.okWide_slice Try.underlying27 (hval 2 27 _ rfl rfl)
  obtain ⟨l, ad, cap', b, o, e1, e2, e3, e4, e5⟩ := inv_things h1
  obtain ⟨rs, ad1, cap1', b1, o1, f1, f2, f3, f4, f5, f6⟩ := inv_ints h3
  obtain ⟨ts, ad2, cap2', b2, o2, g1, g2, g3, g4, g5, g6⟩ := inv_turns h5
  have e1' : [Value.slice a0 len cap] = [.slice ad l.length cap'] := e1
  have f1' : [Value.slice a1 len1 cap1] = [.slice ad1 rs.length cap1'] := f1
  have g1' : [Value.slice a2 len2 cap2] = [.slice ad2 ts.length cap2'] := g1
  simp only [List.cons.injEq, Value.slice.injEq, and_true] at e1' f1' g1'
  obtain ⟨rfl, rfl, rfl⟩ := e1'
  obtain ⟨rfl, rfl, rfl⟩ := f1'
  obtain ⟨rfl, rfl, rfl⟩ := g1'
  have hbd : Rows.uptoBulk d + (Rows.uptoBulk d2 + (Rows.uptoBulk d3 + Rows.uptoBulkAll gs)) ≤ 1048576 := hsm
  have e5' : l.length + 1 ≤ Rows.uptoBulk d := e5
  have f6' : rs.length + 1 ≤ Rows.uptoBulk d2 := f6
  have g6' : (ts.map fun t => t.l.length + 1).sum + 1 ≤ Rows.uptoBulk d3 := g6
  refine (drains_walk l a0 cap b o e3 rs a1 cap1 b1 o1 f3 ts a2 cap2 b2 o2 g3 (by omega) W (by simp) (by simp) ⟨e4, f4, g4, g5⟩).mono ?_
  rintro e W' ⟨_, rfl, C', ⟨rfl, rfl⟩, hst⟩
  exact ⟨_, rfl, law_post laid maps full (by decide +kernel) rfl (fun ds hds => by match ds, hds with | [d, d2, d3], _ => rfl) rfl Try.underlying4 hW0 hst.mods.below⟩
set_option maxRecDepth 100000 in
theorem heapDrains_lifted (os : Os) (started : os.Started) (H : Type) (enc : TypeId × Value → H) (F : Stop.Interp) :
    ReturnsInHanded {} Try.checked os 6 .any ((Rows.OpenSpec.upto Rows.heapDrainsSpec).pre6 enc Try.prog Try.f6 Rows.heapDrainsUptoRow.domain false) (((Rows.OpenSpec.upto Rows.heapDrainsSpec).at F).post enc Try.prog Try.f6 false true false false) := by
  refine returnsInHanded_of_cond (C := Try.checked) (s := Rows.OpenSpec.upto Rows.heapDrainsSpec) (k := Rows.uptoSmall) rfl own started (by kernel_rfl) Try.func6
    (OpenSpec.witness (enc := enc) (C := Try.checked) (s := Rows.OpenSpec.upto Rows.heapDrainsSpec) (k := Rows.uptoSmall) rfl false ⟨#[], #[.slice none 0 0, .slice none 0 0, .slice none 0 0], []⟩ 8 (by kernel_rfl) (by kernel_rfl) (by kernel_rfl)
      (x := ([.nil, .nil, .nil], [], [])) (by kernel_rfl) rfl (by kernel_rfl)) ?_
  intro W base args ds gs before hval hW _ hk _
  exact heapDrains_contract H enc W base args ds gs before hval hW hk

/-- THE STATEMENT. -/
theorem heapDrains_holds : Rows.HeapDrainsUptoSaid :=
  OpenClaim.holds_of_cond 6 Try.f6 rfl rfl rfl rfl rfl rfl rfl ⟨rfl, rfl, rfl, rfl, rfl⟩ rfl rfl rfl rfl rfl (by kernel_rfl) Try.func6 (by kernel_rfl)
    (of_decide_eq_true (by kernel_rfl)) (by unfold Func.isWrapper; first | (rw [if_pos (by decide +kernel)]; kernel_rfl) | (rw [if_neg (by decide +kernel)]; exact ⟨rfl, rfl⟩))
    (fun os started H enc _ F => heapDrains_lifted os started H enc F)

end Go.Proofs.Ytcgenmfnlocbbaa.T
