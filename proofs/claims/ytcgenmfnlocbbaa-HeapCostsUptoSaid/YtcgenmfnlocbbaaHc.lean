/- 'HeapCosts': whatever the script, Push, Pop and Swap of the heap call compare no more often than the document says, Peek and Len never, and what leaves rises. For every script of at most 1048576 values. -/
import Derived.Test.YtcgenmfnlocbbaaRows
import Derived.Test.YtcgenmfnlocbbaaH4
import Derived.Test.YtcgenmfnlocbbaaH6
namespace Go.Proofs.Ytcgenmfnlocbbaa.T
open Go.Lg Go.Hp Go.RowKit
theorem ag38 : aggT Try.prog 38 = some 3 := by kernel_rfl
theorem fo38_0 : fieldOff Try.prog 38 0 = some 0 := by kernel_rfl
theorem fo38_2 : fieldOff Try.prog 38 2 = some 2 := by kernel_rfl
theorem ft34 : flatT Try.prog 34 = true := by kernel_rfl
theorem gd28 : Try.prog.eqGuardType Try.prog.depth 28 = false := by kernel_rfl
theorem is27 : isSlice Try.prog 27 = true := by kernel_rfl
theorem sl27 : sliceElem Try.prog 27 = some (38, 3) := by kernel_rfl
theorem sz38 : sizeT Try.prog 38 = some 3 := by kernel_rfl
theorem wrap_zero : IntKind.i64.wrap ((0 : Nat) : Int) = 0 := by kernel_rfl
theorem zl3 : zeroL Try.prog 3 = some [.int .i64 0] := by kernel_rfl
theorem zl38 : zeroL Try.prog 38 = some [.int .i64 0, .int .i64 0, .slice none 0 0] := by kernel_rfl
theorem own : ownKnob Try.prog.godebug = none := by kernel_rfl
theorem laid : laidOutB Try.prog = true := by kernel_rfl
theorem maps : mapsRowed Try.prog = true := by kernel_rfl
theorem full : ∀ t e, t < Try.prog.types.size → Try.prog.underlying t = some (.slice e) → 0 < Try.prog.cellsOf e := slices_full_of Try.prog (by kernel_rfl)

theorem dig_nd : ∀ (f n : Nat), n ≤ f → dig f n = nd n := by
  intro f
  induction f with
  | zero => intro n h; obtain rfl : n = 0 := by omega
            rfl
  | succ f ih =>
    intro n h
    simp only [dig]
    by_cases h0 : n = 0
    · rw [if_pos h0, h0]; rfl
    · rw [if_neg h0, ih _ (by omega), ← nd_pos n (by omega)]
theorem nd_le (n : Nat) : nd n ≤ n := by
  induction n using Nat.strongRecOn with
  | _ n ih =>
    by_cases h0 : n = 0
    · subst h0; simp [nd_zero]
    · rw [nd_pos n (by omega)]; have := ih (n / 2) (by omega); omega
theorem digits_nd (n : Nat) (hn : n ≤ 4611686018427387904) : Ct Try.prog 19 [.int .i64 (n : Int)].toArray (fun _ => True) [] (fun v C' => v = .int .i64 ((nd n : Nat) : Int) ∧ C' = []) := by
  have := digits_ct n hn
  rw [dig_nd n n (Nat.le_refl _)] at this
  exact this
theorem pushMost_snoc : ∀ (k n : Nat), pushMost n (k + 1) = pushMost n k + nd (n + k) + 1 := by
  intro k
  induction k with
  | zero => intro n; simp [pushMost]
  | succ k ih =>
    intro n
    have := ih (n + 1)
    simp only [pushMost] at this ⊢
    rw [this, show n + 1 + k = n + (k + 1) by omega]; omega
theorem pushMost_le : ∀ (k n : Nat), pushMost n k ≤ k * (n + k + 1) := by
  intro k
  induction k with
  | zero => intro n; simp [pushMost]
  | succ k ih =>
    intro n
    rw [pushMost_snoc]
    have h1 := ih n
    have h2 := nd_le (n + k)
    have h3 : k * (n + k + 1) ≤ k * (n + (k + 1) + 1) := Nat.mul_le_mul_left _ (by omega)
    rw [Nat.add_mul]; omega
theorem turn_row {X : Cx} {C : Chunks} {b o : Nat} {ts : List Tn} (hb : b ∉ X.B0) (h : ∀ i u, (ts.flatMap rowT)[i]? = some u → X.w0.cell? ⟨b, o + i, none⟩ = some u) (j : Nat) (t : Tn) (hj : ts[j]? = some t) : RowIn X C b (o + j * 3) [.int .i64 t.kind, .int .i64 t.which, .slice t.ad t.l.length t.cap] :=
  RowIn.old hb fun i v hv => by
    obtain ⟨hjl, rfl⟩ := List.getElem?_eq_some_iff.1 hj
    rw [Nat.add_assoc]; exact h _ _ (flat_get rowT 3 rowT_length ts j hjl i v hv)
/-- how many things come in the first i turns, at the most -/
def tot (ts : List Tn) (i : Nat) : Nat := ((ts.take i).map fun t => t.l.length + 1).sum
theorem tot_succ (ts : List Tn) (i : Nat) (t : Tn) (h : ts[i]? = some t) : tot ts (i + 1) = tot ts i + t.l.length + 1 := by
  unfold tot
  rw [List.take_add_one, h]
  simp; omega
theorem tot_le (ts : List Tn) (i : Nat) : tot ts i ≤ (ts.map fun t => t.l.length + 1).sum := by
  unfold tot
  conv => rhs; rw [← List.take_append_drop i ts]
  rw [List.map_append, List.sum_append]; omega
theorem len_le_sum (ts : List Tn) : ts.length ≤ (ts.map fun t => t.l.length + 1).sum := by
  induction ts with
  | nil => simp
  | cons t ts ih => simp only [List.length_cons, List.map_cons, List.sum_cons]; omega
theorem lawK : Law cmpK := by
  constructor
  · rintro ⟨⟨a, _⟩, n⟩ ⟨⟨b, _⟩, m⟩ ⟨⟨c, _⟩, q⟩ h1 h2
    simp only [Le, ahB, cmpK, Bool.or_eq_false_iff, Bool.and_eq_false_iff, decide_eq_false_iff_not] at *
    (repeat' split at h1) <;> (repeat' split at h2) <;> (repeat' split) <;> omega
  · rintro ⟨⟨a, _⟩, n⟩ ⟨⟨b, _⟩, m⟩
    simp only [Le, ahB, cmpK, Bool.or_eq_false_iff, Bool.and_eq_false_iff, decide_eq_false_iff_not]
    (repeat' split) <;> omega
theorem cmpK_le {x y : Int × Int} {n m : Nat} (h : Le cmpK (x, n) (y, m)) : x.1 ≤ y.1 := by
  simp only [Le, ahB, cmpK, Bool.or_eq_false_iff, Bool.and_eq_false_iff, decide_eq_false_iff_not] at h
  (repeat' split at h) <;> omega
theorem swapF_length {α : Type} [Inhabited α] (cmp : α → α → Int) (l : List (α × Nat)) (came : Nat) (x : α) : (swapF cmp l came x).1.length = max l.length 1 ∧ (swapF cmp l came x).2.1 = came + 1 := by
  unfold swapF
  split
  · rename_i h; subst h
    have := pushF_length cmp [x] [] came
    simpa using this
  · rename_i h
    have hpos : 0 < l.length := List.length_pos_iff.2 h
    refine ⟨?_, rfl⟩
    simp [downF_length]; omega
theorem first_mem {items : List ((Int × Int) × Nat)} (h : items ≠ []) : at_ items 0 ∈ items := by
  have hpos : 0 < items.length := List.length_pos_iff.2 h
  rw [at_eq _ _ hpos]; exact List.getElem_mem _
theorem least_of {items : List ((Int × Int) × Nat)} (h : Hd cmpK items) : ∀ x ∈ (popF cmpK items).1, (firstF items).1 ≤ x.1.1 := by
  intro x hx
  by_cases hne : items = []
  · subst hne; simp [popF] at hx
  · have hm : x ∈ items := (popF_perm cmpK items hne).mem_iff.1 (List.mem_cons_of_mem _ hx)
    exact cmpK_le (n := (at_ items 0).2) (m := x.2) (h.root' lawK x hm)
theorem wrap_nat (c : Nat) (h : c ≤ 9223372036854775807) : IntKind.i64.wrap ((0 + c : Nat) : Int) = (c : Int) := by
  rw [Nat.zero_add]; exact wr_i64 (by omega) (by omega)

theorem costs_walk (ts : List Tn) (ad0 : Option Addr) (cap0 b0 o0 : Nat) (had : ts ≠ [] → ad0 = some ⟨b0, o0, none⟩) (hbulk : (ts.map fun t => t.l.length + 1).sum ≤ 1048576) :
    Ct Try.prog 5 [.slice ad0 ts.length cap0].toArray (fun w => At w b0 o0 (ts.flatMap rowT) ∧ ∀ t ∈ ts, t.ok w) [] (fun v C' => v = .bool true ∧ C' = []) := by
  refine ct_of_walk (fn := Try.f5) Try.func5 rfl rfl fun w0 hpre hst => ?_
  clear hst
  repeat refine G.seq ?_
  obtain ⟨hscript, htok⟩ := hpre
  refine G.region [.loc] (.take 0 .done) rfl ?_
  refine GP.take rfl rfl (Does.assign rfl ?_)
  refine GP.keep [(0, _), (2, _)] (.cons rfl (.cons rfl .nil)) ?_
  repeat refine G.seq ?_
  refine G.region [.alloc, .gen] (.take 0 (.take 1 .done)) rfl ?_
  refine GP.take rfl rfl (Does.alloc zl3 fun b3 Nb3 hb3 nb3 => ?_)
  refine GP.take0 rfl (Does.store1 rfl rfl sz3 rfl (by first | exact .head | exact .tail .head | exact .tail (.tail .head) | exact .tail (.tail (.tail .head)) | exact .tail (.tail (.tail (.tail .head))) | exact .tail (.tail (.tail (.tail (.tail .head))))) (by first | exact .head | exact .tail .head | exact .tail (.tail .head) | exact .tail (.tail (.tail .head))) ?_)
  refine GP.keep [(0, _), (2, _), (3, _)] (.cons rfl (.cons rfl (.cons rfl .nil))) ?_
  clear nb3 hb3
  generalize b3 = cb at *
  repeat refine G.seq ?_
  refine G.region [.loc, .gen, .loc] (.take 0 (.take 1 (.take 2 .done))) rfl ?_
  refine GP.take rfl rfl (Does.makeFunc .nil (.cons rfl .nil) ?_)
  refine GP.take rfl rfl (Does.callN (.cons rfl .nil) cb13 (new_ct 18 #[] #[.pointer (some ⟨cb, 0, none⟩)]) (fun _ _ => trivial) ?_)
  rintro _ C0 ⟨hb, rfl, hrep⟩
  simp only [List.cons_append, List.nil_append]
  refine GP.take rfl rfl (Does.assign rfl ?_)
  refine GP.keep [(0, _), (2, _), (3, _), (4, _)] (.cons rfl (.cons rfl (.cons rfl (.cons rfl .nil)))) ?_
  repeat refine G.seq ?_
  refine G.region [.loc, .loc] (.take 0 (.take 1 .done)) rfl ?_
  refine GP.take rfl rfl (Does.move rfl ?_)
  refine GP.take rfl rfl (Does.eqlNil rfl rfl Try.underlying28 gd28 rfl ?_)
  refine GP.keep [(0, _), (2, _), (3, _), (4, _), (21, _)] (.cons rfl (.cons rfl (.cons rfl (.cons rfl (.cons rfl .nil))))) ?_
  repeat refine G.seq ?_
  refine G.condF rfl ?_
  refine G.skip ?_
  repeat refine G.seq ?_
  refine G.region [.loc] (.take 0 .done) rfl ?_
  refine GP.take rfl rfl (Does.assign rfl ?_)
  refine GP.keep [(0, _), (2, _), (3, _), (4, _), (5, _), (21, _)] (.cons rfl (.cons rfl (.cons rfl (.cons rfl (.cons rfl (.cons rfl .nil)))))) ?_
  repeat refine G.seq ?_
  refine G.block ?_
  refine G.loop (S := List ((Int × Int) × Nat) × Nat × Chunks × Nat × Int) (fun s => [(0, .slice ad0 ts.length cap0), (3, .pointer (some ⟨cb, 0, none⟩)), (4, .pointer (some ⟨hb, 0, none⟩)), (5, .int .i64 (s.2.2.2.1 : Int))]) (fun s => (cb, cel 3 [.int .i64 s.2.2.2.2]) :: s.2.2.1)
    (fun s => HRep 71 73 row1 3 hb (.func (.func 18) #[] #[.pointer (some ⟨cb, 0, none⟩)]) s.1 s.2.1 s.2.2.1 ∧ Hd cmpK s.1 ∧ s.1.length ≤ s.2.1 ∧ s.2.1 ≤ tot ts s.2.2.2.1 ∧ s.2.2.2.1 ≤ ts.length) (fun s => ts.length - s.2.2.2.1)
    ([], 0, C0, 0, 0) ⟨hrep, hd_nil, Nat.le_refl _, Nat.zero_le _, Nat.zero_le _⟩ (.cons rfl (.cons rfl (.cons rfl (.cons rfl .nil)))) .all ?_
  clear hrep
  rintro ⟨items, came, C0, i, kk⟩ ⟨hrep, hhd, hic, hct, hi⟩ IH
  simp only at hrep hhd hic hct hi IH ⊢
  have htot := tot_le ts i
  repeat refine G.seq ?_
  refine G.region [.loc, .loc, .loc, .loc] (.take 0 (.take 1 (.take 2 (.take 3 .done)))) rfl ?_
  refine GP.take rfl rfl (Does.move rfl ?_)
  refine GP.take rfl rfl (Does.move rfl ?_)
  refine GP.take rfl rfl (Does.len rfl is27 ?_)
  refine GP.take rfl rfl (Does.lss rfl rfl rfl ?_)
  refine GP.keep [(0, _), (3, _), (4, _), (5, _), (25, _)] (.cons rfl (.cons rfl (.cons rfl (.cons rfl (.cons rfl .nil))))) ?_
  repeat refine G.seq ?_
  refine G.cond rfl ?_ ?_
  case refine_2 =>
    intro hz
    refine G.exit rfl ?_
    repeat refine G.seq ?_
    refine G.region [.gen] (.take 0 .done) rfl ?_
    refine GP.take0 rfl (Does.store1 rfl rfl sz3 rfl (by first | exact .head | exact .tail .head | exact .tail (.tail .head) | exact .tail (.tail (.tail .head)) | exact .tail (.tail (.tail (.tail .head))) | exact .tail (.tail (.tail (.tail (.tail .head))))) (by first | exact .head | exact .tail .head | exact .tail (.tail .head) | exact .tail (.tail (.tail .head))) ?_)
    refine GP.keep [(3, _), (4, _)] (.cons rfl (.cons rfl .nil)) ?_
    repeat refine G.seq ?_

    refine G.region [.loc, .gen, .loc, .loc, .loc, .alloc, .gen, .loc] (.take 0 (.take 1 (.take 2 (.take 3 (.take 4 (.take 5 (.take 6 (.take 7 .done)))))))) rfl ?_
    refine GP.take rfl rfl (Does.move rfl ?_)
    refine GP.take rfl rfl (Does.callP ([]) (C0 ++ cntE cb 0) (.cons rfl .nil) cb17 (by classical exact List.perm_iff_count.2 fun q => by simp only [cntE, List.count_append, List.count_cons, List.count_nil, wrap_zero]; omega) (pop1 (costs1_ok cb) hb items came C0 hrep 0 (by omega)) (fun _ _ => trivial) ?_)
    rintro _ _ ⟨rfl, C1, hrep1, rfl⟩
    refine ⟨([]) ++ ((cb, cel 3 [.int .i64 (IntKind.i64.wrap ((0 + (popF cmpK items).2 : Nat) : Int))]) :: C1), (by classical exact List.perm_iff_count.2 fun q => by simp only [cntE, List.count_append, List.count_cons, List.count_nil, wrap_zero]; omega), ?_⟩
    simp only [List.cons_append, List.nil_append]
    refine GP.take rfl rfl (Does.move rfl ?_)
    refine GP.take rfl rfl (Does.extract rfl rfl ?_)
    refine GP.take rfl rfl (Does.extract rfl rfl ?_)
    refine GP.take rfl rfl (Does.alloc zl31 fun b13 Nb13 hb13 nb13 => ?_)
    refine GP.take0 rfl (Does.storeA rfl rfl sz31 (by first | exact .head | exact .tail .head | exact .tail (.tail .head) | exact .tail (.tail (.tail .head)) | exact .tail (.tail (.tail (.tail .head))) | exact .tail (.tail (.tail (.tail (.tail .head))))) (.cons rfl .head (.cons rfl (.tail .head) .nil)) ?_)
    refine GP.take rfl rfl (Does.assign rfl ?_)
    refine GP.keep [(3, _), (4, _), (13, _), (14, _)] (.cons rfl (.cons rfl (.cons rfl (.cons rfl .nil)))) ?_
    repeat refine G.seq ?_
    refine G.region [.loc, .gen, .loc] (.take 0 (.take 1 (.take 2 .done))) rfl ?_
    refine GP.take rfl rfl (Does.move rfl ?_)
    refine GP.take rfl rfl (Does.callF ([(b13, _), (cb, _)]) (C1) (.cons rfl .nil) cb15 rfl (len1 hb (popF cmpK items).1 came C1 hrep1) (fun _ _ => trivial) ?_)
    rintro _ C9 ⟨rfl, hC9⟩
    obtain rfl := hC9.symm
    simp only [List.cons_append, List.nil_append]
    refine GP.take rfl rfl (Does.assign rfl ?_)
    refine GP.keep [(3, _), (4, _), (13, _), (14, _), (15, _)] (.cons rfl (.cons rfl (.cons rfl (.cons rfl (.cons rfl .nil))))) ?_
    repeat refine G.seq ?_
    refine G.block ?_
    have hcl : items.length ≤ 1048576 := by omega
    refine G.loop (S := List ((Int × Int) × Nat) × Chunks × (Int × Int) × Bool × Int) (fun s => [(3, .pointer (some ⟨cb, 0, none⟩)), (4, .pointer (some ⟨hb, 0, none⟩)), (13, .pointer (some ⟨b13, 0, none⟩)), (14, .bool s.2.2.2.1), (15, .int .i64 (s.1.length : Int))]) (fun s => (b13, cel 31 (enc1 s.2.2.1)) :: (cb, cel 3 [.int .i64 s.2.2.2.2]) :: s.2.1)
      (fun s => HRep 71 73 row1 3 hb (.func (.func 18) #[] #[.pointer (some ⟨cb, 0, none⟩)]) s.1 came s.2.1 ∧ Hd cmpK s.1 ∧ s.1.length ≤ 1048576 ∧ (∀ x ∈ s.1, s.2.2.1.1 ≤ x.1.1) ∧ (s.2.2.2.1 = false → s.1 = [])) (fun s => s.1.length)
      ((popF cmpK items).1, C1, firstF items, !items.isEmpty, _) ⟨hrep1, popF_hd lawK hhd, by simp only [popF_length]; omega, least_of hhd, ?_⟩ (.cons rfl (.cons rfl (.cons rfl (.cons rfl (.cons rfl .nil))))) .all ?_
    · intro he
      have : items = [] := by simpa using he
      subst this; rfl
    clear hrep hrep1 hhd hic hct IH
    rintro ⟨items, C0, last, ok, kk⟩ ⟨hrep, hhd, hic, hlast, hok⟩ IH
    simp only at hrep hhd hic hlast hok IH ⊢
    repeat refine G.seq ?_
    cases ok with
    | false =>
      obtain rfl := hok rfl
      refine G.region [.loc, .loc, .loc, .loc, .loc] (.take 0 (.take 1 (.take 2 (.take 3 (.take 4 .done))))) rfl ?_
      refine GP.take rfl rfl (Does.move rfl ?_)
      refine GP.take rfl rfl (Does.move rfl ?_)
      refine GP.pass rfl rfl rfl rfl rfl ?_
      refine GP.pass rfl rfl rfl rfl rfl ?_
      refine GP.take rfl rfl (Does.pickF rfl rfl ?_)
      refine GP.keep [(3, _), (4, _), (13, _), (14, _), (15, _), (113, _)] (.cons rfl (.cons rfl (.cons rfl (.cons rfl (.cons rfl (.cons rfl .nil)))))) ?_
      repeat refine G.seq ?_
      refine G.condF rfl ?_

      refine G.exit rfl ?_
      repeat refine G.seq ?_
      refine G.region [.loc, .gen, .loc, .loc] (.take 0 (.take 1 (.take 2 (.take 3 .done)))) rfl ?_
      refine GP.take rfl rfl (Does.move rfl ?_)
      refine GP.take rfl rfl (Does.callF ([(b13, _), (cb, _)]) (C0) (.cons rfl .nil) cb15 rfl (len1 hb [] came C0 hrep) (fun _ _ => trivial) ?_)
      rintro _ C9 ⟨rfl, hC9⟩
      obtain rfl := hC9.symm
      simp only [List.cons_append, List.nil_append]
      refine GP.take rfl rfl (Does.eql rfl rfl rfl ?_)
      refine GP.take rfl rfl (Does.assign rfl ?_)
      refine GP.keep [(2, _), (3, _), (4, _), (13, _), (14, _), (15, _), (113, _)] (.cons rfl (.cons rfl (.cons rfl (.cons rfl (.cons rfl (.cons rfl (.cons rfl .nil))))))) ?_
      exact fin_ret (fn := Try.f5) Try.func5 (res1 rfl rfl) .nil ⟨rfl, rfl⟩
    | true =>
      refine G.region [.loc, .loc, .loc, .loc, .loc] (.take 0 (.take 1 (.take 2 (.take 3 (.take 4 .done))))) rfl ?_
      refine GP.take rfl rfl (Does.move rfl ?_)
      refine GP.take rfl rfl (Does.move rfl ?_)
      refine GP.takeG rfl rfl rfl rfl (Does.move rfl ?_)
      refine GP.takeG rfl rfl rfl rfl (Does.gtr rfl rfl rfl ?_)
      refine GP.take rfl rfl (Does.pickT rfl rfl ?_)
      refine GP.keep [(3, _), (4, _), (13, _), (14, _), (15, _), (113, _)] (.cons rfl (.cons rfl (.cons rfl (.cons rfl (.cons rfl (.cons rfl .nil)))))) ?_
      repeat refine G.seq ?_
      refine G.cond rfl ?_ ?_
      case refine_2 =>
        intro hz
        obtain rfl : items = [] := List.eq_nil_of_length_eq_zero (by omega)

        refine G.exit rfl ?_
        repeat refine G.seq ?_
        refine G.region [.loc, .gen, .loc, .loc] (.take 0 (.take 1 (.take 2 (.take 3 .done)))) rfl ?_
        refine GP.take rfl rfl (Does.move rfl ?_)
        refine GP.take rfl rfl (Does.callF ([(b13, _), (cb, _)]) (C0) (.cons rfl .nil) cb15 rfl (len1 hb [] came C0 hrep) (fun _ _ => trivial) ?_)
        rintro _ C9 ⟨rfl, hC9⟩
        obtain rfl := hC9.symm
        simp only [List.cons_append, List.nil_append]
        refine GP.take rfl rfl (Does.eql rfl rfl rfl ?_)
        refine GP.take rfl rfl (Does.assign rfl ?_)
        refine GP.keep [(2, _), (3, _), (4, _), (13, _), (14, _), (15, _), (113, _)] (.cons rfl (.cons rfl (.cons rfl (.cons rfl (.cons rfl (.cons rfl (.cons rfl .nil))))))) ?_
        exact fin_ret (fn := Try.f5) Try.func5 (res1 rfl rfl) .nil ⟨rfl, rfl⟩
      intro hz
      have hpos : 0 < items.length := by omega
      have hne : items ≠ [] := List.length_pos_iff.1 hpos
      refine G.skip ?_
      repeat refine G.seq ?_
      refine G.block ?_
      repeat refine G.seq ?_
      refine G.region [.gen] (.take 0 .done) rfl ?_
      refine GP.take0 rfl (Does.store1 rfl rfl sz3 rfl (by first | exact .head | exact .tail .head | exact .tail (.tail .head) | exact .tail (.tail (.tail .head)) | exact .tail (.tail (.tail (.tail .head))) | exact .tail (.tail (.tail (.tail (.tail .head))))) (by first | exact .head | exact .tail .head | exact .tail (.tail .head) | exact .tail (.tail (.tail .head))) ?_)
      refine GP.keep [(3, _), (4, _), (13, _), (14, _), (15, _)] (.cons rfl (.cons rfl (.cons rfl (.cons rfl (.cons rfl .nil))))) ?_
      repeat refine G.seq ?_
      refine G.region [.loc, .gen, .loc, .loc, .loc, .alloc, .gen, .loc] (.take 0 (.take 1 (.take 2 (.take 3 (.take 4 (.take 5 (.take 6 (.take 7 .done)))))))) rfl ?_
      refine GP.take rfl rfl (Does.move rfl ?_)
      refine GP.take rfl rfl (Does.callP ([(b13, cel 31 (enc1 last))]) (C0 ++ cntE cb 0) (.cons rfl .nil) cb17 (by classical exact List.perm_iff_count.2 fun q => by simp only [cntE, List.count_append, List.count_cons, List.count_nil, wrap_zero]; omega) (pop1 (costs1_ok cb) hb items came C0 hrep 0 (by omega)) (fun _ _ => trivial) ?_)
      rintro _ _ ⟨rfl, C1, hrep1, rfl⟩
      refine ⟨([(b13, cel 31 (enc1 last))]) ++ ((cb, cel 3 [.int .i64 (IntKind.i64.wrap ((0 + (popF cmpK items).2 : Nat) : Int))]) :: C1), (by classical exact List.perm_iff_count.2 fun q => by simp only [cntE, List.count_append, List.count_cons, List.count_nil, wrap_zero]; omega), ?_⟩
      simp only [List.cons_append, List.nil_append]
      refine GP.take rfl rfl (Does.move rfl ?_)
      refine GP.take rfl rfl (Does.extract rfl rfl ?_)
      refine GP.take rfl rfl (Does.extract rfl rfl ?_)
      refine GP.take rfl rfl (Does.alloc zl31 fun b16 Nb16 hb16 nb16 => ?_)
      refine GP.take0 rfl (Does.storeA rfl rfl sz31 (by first | exact .head | exact .tail .head | exact .tail (.tail .head) | exact .tail (.tail (.tail .head)) | exact .tail (.tail (.tail (.tail .head))) | exact .tail (.tail (.tail (.tail (.tail .head))))) (.cons rfl .head (.cons rfl (.tail .head) .nil)) ?_)
      refine GP.take rfl rfl (Does.assign rfl ?_)
      refine GP.keep [(3, _), (4, _), (13, _), (14, _), (15, _), (16, _)] (.cons rfl (.cons rfl (.cons rfl (.cons rfl (.cons rfl (.cons rfl .nil)))))) ?_
      repeat refine G.seq ?_
      have hcost : (popF cmpK items).2 ≤ 2 * nd items.length := popF_cost cmpK items
      have hndl := nd_le items.length
      have hpl : (popF cmpK items).1.length = items.length - 1 := popF_length cmpK items
      have hfst : last.1 ≤ (firstF items).1 := hlast _ (first_mem hne)
      rw [wrap_nat _ (by omega)]
      refine G.draw [.loc, .load, .loc, .load, .loc, .loc, .loc, .gen, .loc, .loc, .loc, .loc, .loc, .load, .loc, .gen, .loc, .loc, .loc, .loc] (.take 0 (.take 2 (.take 1 (.take 3 (.take 4 (.take 5 (.take 6 (.take 8 (.take 9 (.alt 7 (.take 10 (.take 11 (.take 12 (.take 14 (.alt 13 (.alt 15 (.take 16 (.take 17 (.take 18 (.take 19 .done)))) .stop) (.alt 15 (.take 16 (.take 17 (.take 13 (.take 18 (.take 19 .done))))) .stop)))))) .stop)))))))))) (by exact mixed) (by kernel_rfl) ?_
      intro N hN0 hN
      refine GP.take rfl rfl (Does.fieldAddr rfl fo31_0 ?_)
      refine GP.take rfl rfl (Does.fieldAddr rfl fo31_0 ?_)
      refine GP.take rfl rfl (Does.load1N rfl ft3 (by first | exact hN _ (.head _) | exact hN _ (.tail _ (.head _)) | exact hN _ (.tail _ (.tail _ (.head _))) | exact hN _ (.tail _ (.tail _ (.tail _ (.head _)))) | exact hN _ (.tail _ (.tail _ (.tail _ (.tail _ (.head _))))) | exact hN _ (.tail _ (.tail _ (.tail _ (.tail _ (.tail _ (.head _)))))) | exact hN _ (.tail _ (.tail _ (.tail _ (.tail _ (.tail _ (.tail _ (.head _)))))))) (CellIn.own (by first | exact .head _ | exact .tail _ (.head _) | exact .tail _ (.tail _ (.head _)) | exact .tail _ (.tail _ (.tail _ (.head _))) | exact .tail _ (.tail _ (.tail _ (.tail _ (.head _)))) | exact .tail _ (.tail _ (.tail _ (.tail _ (.tail _ (.head _)))))) rfl) ?_)
      refine GP.take rfl rfl (Does.load1N rfl ft3 (by first | exact hN _ (.head _) | exact hN _ (.tail _ (.head _)) | exact hN _ (.tail _ (.tail _ (.head _))) | exact hN _ (.tail _ (.tail _ (.tail _ (.head _)))) | exact hN _ (.tail _ (.tail _ (.tail _ (.tail _ (.head _))))) | exact hN _ (.tail _ (.tail _ (.tail _ (.tail _ (.tail _ (.head _)))))) | exact hN _ (.tail _ (.tail _ (.tail _ (.tail _ (.tail _ (.tail _ (.head _)))))))) (CellIn.own (by first | exact .head _ | exact .tail _ (.head _) | exact .tail _ (.tail _ (.head _)) | exact .tail _ (.tail _ (.tail _ (.head _))) | exact .tail _ (.tail _ (.tail _ (.tail _ (.head _)))) | exact .tail _ (.tail _ (.tail _ (.tail _ (.tail _ (.head _)))))) rfl) ?_)
      refine GP.take rfl rfl (Does.lss rfl rfl (decide_eq_false (by omega)) ?_)
      refine GP.take rfl rfl (Does.move rfl ?_)
      refine GP.takeG rfl rfl rfl rfl (Does.move rfl ?_)
      refine GP.takeG rfl rfl rfl rfl (Does.move rfl ?_)
      refine GP.takeG rfl rfl rfl rfl (Does.sub rfl rfl (r := ((items.length - 1 : Nat) : Int)) (wrc_i64 (by omega) (by omega) (by omega)) ?_)
      refine GP.one ?_
      refine GP.takeG rfl rfl rfl rfl (Does.callF ([(b16, _), (b13, _), (cb, _)]) (C1) (.cons rfl .nil) cb15 rfl (len1 hb (popF cmpK items).1 came C1 hrep1) (fun _ _ => trivial) ?_)
      rintro _ C9 ⟨rfl, hC9⟩
      obtain rfl := hC9.symm
      simp only [List.cons_append, List.nil_append]
      refine GP.takeG rfl rfl rfl rfl (Does.neq rfl rfl (show (!decide (((popF cmpK items).1.length : Int) = ((items.length - 1 : Nat) : Int))) = false by rw [hpl]; simp) ?_)
      refine GP.take rfl rfl (Does.pickF rfl rfl ?_)
      refine GP.take rfl rfl (Does.move rfl ?_)
      refine GP.takeG rfl rfl rfl rfl (Does.move rfl ?_)
      refine GP.alt ?_ ?_
      · skip
        refine GP.takeG rfl rfl rfl rfl (Does.load1N rfl ft3 (by first | exact hN _ (.head _) | exact hN _ (.tail _ (.head _)) | exact hN _ (.tail _ (.tail _ (.head _))) | exact hN _ (.tail _ (.tail _ (.tail _ (.head _)))) | exact hN _ (.tail _ (.tail _ (.tail _ (.tail _ (.head _))))) | exact hN _ (.tail _ (.tail _ (.tail _ (.tail _ (.tail _ (.head _)))))) | exact hN _ (.tail _ (.tail _ (.tail _ (.tail _ (.tail _ (.tail _ (.head _)))))))) (CellIn.own (by first | exact .head _ | exact .tail _ (.head _) | exact .tail _ (.tail _ (.head _)) | exact .tail _ (.tail _ (.tail _ (.head _))) | exact .tail _ (.tail _ (.tail _ (.tail _ (.head _)))) | exact .tail _ (.tail _ (.tail _ (.tail _ (.tail _ (.head _)))))) rfl) ?_)
        refine GP.one ?_
        refine GP.takeG rfl rfl rfl rfl (Does.callN (.cons rfl .nil) cb19 (digits_nd items.length (by omega)) (fun _ _ => trivial) ?_)
        rintro _ _ ⟨rfl, rfl⟩
        simp only [List.append_nil]
        refine GP.takeG rfl rfl rfl rfl (Does.mul rfl rfl (r := ((2 * nd items.length : Nat) : Int)) (wrc_i64 (by omega) (by omega) (by omega)) ?_)
        refine GP.takeG rfl rfl rfl rfl (Does.add rfl rfl (r := ((2 * nd items.length + 2 : Nat) : Int)) (wrc_i64 (by omega) (by omega) (by omega)) ?_)
        refine GP.takeG rfl rfl rfl rfl (Does.gtr rfl rfl (decide_eq_false (by omega)) ?_)
        refine GP.take rfl rfl (Does.pickF rfl rfl ?_)
        refine GP.keep [(3, _), (4, _), (13, _), (14, _), (15, _), (16, _), (140, _)] (.cons rfl (.cons rfl (.cons rfl (.cons rfl (.cons rfl (.cons rfl (.cons rfl .nil))))))) ?_
        repeat refine G.seq ?_
        refine G.condF rfl ?_
        refine G.skip ?_
        repeat refine G.seq ?_
        refine G.region [.gen, .gen] (.take 0 (.take 1 .done)) rfl ?_
        refine GP.take rfl rfl (Does.loadA (vs := enc1 (firstF items)) rfl ag31 (RowIn.own (by first | exact .head _ | exact .tail _ (.head _) | exact .tail _ (.tail _ (.head _)) | exact .tail _ (.tail _ (.tail _ (.head _))) | exact .tail _ (.tail _ (.tail _ (.tail _ (.head _)))) | exact .tail _ (.tail _ (.tail _ (.tail _ (.tail _ (.head _)))))) rfl) ?_)
        refine GP.take0 rfl (Does.storeA rfl rfl sz31 (by first | exact .head | exact .tail .head | exact .tail (.tail .head) | exact .tail (.tail (.tail .head)) | exact .tail (.tail (.tail (.tail .head))) | exact .tail (.tail (.tail (.tail (.tail .head))))) (.cons rfl .head (.cons rfl (.tail .head) .nil)) ?_)
        refine GP.keep [(3, _), (4, _), (13, _), (14, _)] (.cons rfl (.cons rfl (.cons rfl (.cons rfl .nil)))) ?_
        refine G.inBlock ?_
        repeat refine G.seq ?_
        refine G.region [.loc, .gen, .loc] (.take 0 (.take 1 (.take 2 .done))) rfl ?_
        refine GP.take rfl rfl (Does.move rfl ?_)
        refine GP.take rfl rfl (Does.callF ([(b16, _), (b13, _), (cb, _)]) (C1) (.cons rfl .nil) cb15 rfl (len1 hb (popF cmpK items).1 came C1 hrep1) (fun _ _ => trivial) ?_)
        rintro _ C9 ⟨rfl, hC9⟩
        obtain rfl := hC9.symm
        simp only [List.cons_append, List.nil_append]
        refine GP.take rfl rfl (Does.assign rfl ?_)
        refine GP.keep [(3, _), (4, _), (13, _), (14, _), (15, _)] (.cons rfl (.cons rfl (.cons rfl (.cons rfl (.cons rfl .nil))))) ?_
        refine (G.sub (IH ((popF cmpK items).1, C1, firstF items, true, _) ⟨hrep1, popF_hd lawK hhd, by simp only [hpl]; omega, least_of hhd, ?_⟩ (by simp only [hpl]; omega)) .split1).weak (.cons rfl (.cons rfl (.cons rfl (.cons rfl (.cons rfl .nil)))))
        intro he
        exact absurd he (by simp)
      refine GP.alt ?_ ?_
      · skip
        refine GP.takeG rfl rfl rfl rfl (Does.callN (.cons rfl .nil) cb19 (digits_nd items.length (by omega)) (fun _ _ => trivial) ?_)
        rintro _ _ ⟨rfl, rfl⟩
        simp only [List.append_nil]
        refine GP.takeG rfl rfl rfl rfl (Does.mul rfl rfl (r := ((2 * nd items.length : Nat) : Int)) (wrc_i64 (by omega) (by omega) (by omega)) ?_)
        refine GP.takeG rfl rfl rfl rfl (Does.add rfl rfl (r := ((2 * nd items.length + 2 : Nat) : Int)) (wrc_i64 (by omega) (by omega) (by omega)) ?_)
        refine GP.takeG rfl rfl rfl rfl (Does.load1N rfl ft3 (by first | exact hN _ (.head _) | exact hN _ (.tail _ (.head _)) | exact hN _ (.tail _ (.tail _ (.head _))) | exact hN _ (.tail _ (.tail _ (.tail _ (.head _)))) | exact hN _ (.tail _ (.tail _ (.tail _ (.tail _ (.head _))))) | exact hN _ (.tail _ (.tail _ (.tail _ (.tail _ (.tail _ (.head _)))))) | exact hN _ (.tail _ (.tail _ (.tail _ (.tail _ (.tail _ (.tail _ (.head _)))))))) (CellIn.own (by first | exact .head _ | exact .tail _ (.head _) | exact .tail _ (.tail _ (.head _)) | exact .tail _ (.tail _ (.tail _ (.head _))) | exact .tail _ (.tail _ (.tail _ (.tail _ (.head _)))) | exact .tail _ (.tail _ (.tail _ (.tail _ (.tail _ (.head _)))))) rfl) ?_)
        refine GP.takeG rfl rfl rfl rfl (Does.gtr rfl rfl (decide_eq_false (by omega)) ?_)
        refine GP.take rfl rfl (Does.pickF rfl rfl ?_)
        refine GP.keep [(3, _), (4, _), (13, _), (14, _), (15, _), (16, _), (140, _)] (.cons rfl (.cons rfl (.cons rfl (.cons rfl (.cons rfl (.cons rfl (.cons rfl .nil))))))) ?_
        repeat refine G.seq ?_
        refine G.condF rfl ?_
        refine G.skip ?_
        repeat refine G.seq ?_
        refine G.region [.gen, .gen] (.take 0 (.take 1 .done)) rfl ?_
        refine GP.take rfl rfl (Does.loadA (vs := enc1 (firstF items)) rfl ag31 (RowIn.own (by first | exact .head _ | exact .tail _ (.head _) | exact .tail _ (.tail _ (.head _)) | exact .tail _ (.tail _ (.tail _ (.head _))) | exact .tail _ (.tail _ (.tail _ (.tail _ (.head _)))) | exact .tail _ (.tail _ (.tail _ (.tail _ (.tail _ (.head _)))))) rfl) ?_)
        refine GP.take0 rfl (Does.storeA rfl rfl sz31 (by first | exact .head | exact .tail .head | exact .tail (.tail .head) | exact .tail (.tail (.tail .head)) | exact .tail (.tail (.tail (.tail .head))) | exact .tail (.tail (.tail (.tail (.tail .head))))) (.cons rfl .head (.cons rfl (.tail .head) .nil)) ?_)
        refine GP.keep [(3, _), (4, _), (13, _), (14, _)] (.cons rfl (.cons rfl (.cons rfl (.cons rfl .nil)))) ?_
        refine G.inBlock ?_
        repeat refine G.seq ?_
        refine G.region [.loc, .gen, .loc] (.take 0 (.take 1 (.take 2 .done))) rfl ?_
        refine GP.take rfl rfl (Does.move rfl ?_)
        refine GP.take rfl rfl (Does.callF ([(b16, _), (b13, _), (cb, _)]) (C1) (.cons rfl .nil) cb15 rfl (len1 hb (popF cmpK items).1 came C1 hrep1) (fun _ _ => trivial) ?_)
        rintro _ C9 ⟨rfl, hC9⟩
        obtain rfl := hC9.symm
        simp only [List.cons_append, List.nil_append]
        refine GP.take rfl rfl (Does.assign rfl ?_)
        refine GP.keep [(3, _), (4, _), (13, _), (14, _), (15, _)] (.cons rfl (.cons rfl (.cons rfl (.cons rfl (.cons rfl .nil))))) ?_
        refine (G.sub (IH ((popF cmpK items).1, C1, firstF items, true, _) ⟨hrep1, popF_hd lawK hhd, by simp only [hpl]; omega, least_of hhd, ?_⟩ (by simp only [hpl]; omega)) .split1).weak (.cons rfl (.cons rfl (.cons rfl (.cons rfl (.cons rfl .nil)))))
        intro he
        exact absurd he (by simp)
      exact GP.stop
  intro hz
  have hil : i < ts.length := by omega
  have hne : ts ≠ [] := by rintro rfl; simp at hil
  obtain rfl := had hne
  obtain ⟨t, ht⟩ : ∃ t, ts[i]? = some t := ⟨ts[i], by simp [hil]⟩
  have htm : t ∈ ts := List.mem_of_getElem? ht
  obtain ⟨htc, htad, htat⟩ := htok t htm
  have hts := tot_succ ts i t ht
  have htl := len_le_sum ts
  have htot1 := tot_le ts (i + 1)
  refine G.skip ?_
  repeat refine G.seq ?_
  refine G.block ?_
  repeat refine G.seq ?_
  refine G.region [.loc, .loc, .loc, .gen, .alloc, .gen] (.take 0 (.take 1 (.take 2 (.take 3 (.take 4 (.take 5 .done)))))) rfl ?_
  refine GP.take rfl rfl (Does.move rfl ?_)
  refine GP.take rfl rfl (Does.move rfl ?_)
  refine GP.take rfl rfl (Does.indexAddr i rfl rfl sl27 rfl hil ?_)
  refine GP.take rfl rfl (Does.loadA (vs := [.int .i64 t.kind, .int .i64 t.which, .slice t.ad t.l.length t.cap]) rfl ag38 (turn_row (by simp) (fun i u h => hscript i u h) i t ht) ?_)
  refine GP.take rfl rfl (Does.alloc zl38 fun b6 Nb6 hb6 nb6 => ?_)
  refine GP.take0 rfl (Does.storeA rfl rfl sz38 (by first | exact .head | exact .tail .head | exact .tail (.tail .head) | exact .tail (.tail (.tail .head)) | exact .tail (.tail (.tail (.tail .head))) | exact .tail (.tail (.tail (.tail (.tail .head))))) (.cons rfl .head (.cons rfl (.tail .head) (.cons rfl (.tail (.tail .head)) .nil))) ?_)
  refine GP.keep [(0, _), (3, _), (4, _), (5, _), (6, _)] (.cons rfl (.cons rfl (.cons rfl (.cons rfl (.cons rfl .nil))))) ?_
  repeat refine G.seq ?_
  refine G.region [.loc, .gen, .loc] (.take 0 (.take 1 (.take 2 .done))) rfl ?_
  refine GP.take rfl rfl (Does.move rfl ?_)
  refine GP.take rfl rfl (Does.callF ([(b6, _), (cb, _)]) (C0) (.cons rfl .nil) cb15 rfl (len1 hb items came C0 hrep) (fun _ _ => trivial) ?_)
  rintro _ C9 ⟨rfl, hC9⟩
  obtain rfl := hC9.symm
  simp only [List.cons_append, List.nil_append]
  refine GP.take rfl rfl (Does.assign rfl ?_)
  refine GP.keep [(0, _), (3, _), (4, _), (5, _), (6, _), (7, _)] (.cons rfl (.cons rfl (.cons rfl (.cons rfl (.cons rfl (.cons rfl .nil)))))) ?_
  repeat refine G.seq ?_
  refine G.region [.loc, .gen, .loc] (.take 0 (.take 1 (.take 2 .done))) rfl ?_
  refine GP.take rfl rfl (Does.move rfl ?_)
  refine GP.take rfl rfl (Does.callN (.cons rfl .nil) cb19 (digits_nd items.length (by omega)) (fun _ _ => trivial) ?_)
  rintro _ _ ⟨rfl, rfl⟩
  simp only [List.append_nil]
  refine GP.take rfl rfl (Does.assign rfl ?_)
  refine GP.keep [(0, _), (3, _), (4, _), (5, _), (6, _), (7, _), (8, _)] (.cons rfl (.cons rfl (.cons rfl (.cons rfl (.cons rfl (.cons rfl (.cons rfl .nil))))))) ?_
  repeat refine G.seq ?_
  refine G.region [.loc] (.take 0 .done) rfl ?_
  refine GP.take rfl rfl (Does.assign rfl ?_)
  refine GP.keep [(0, _), (3, _), (4, _), (5, _), (6, _), (7, _), (8, _), (9, _)] (.cons rfl (.cons rfl (.cons rfl (.cons rfl (.cons rfl (.cons rfl (.cons rfl (.cons rfl .nil)))))))) ?_
  repeat refine G.seq ?_
  refine G.region [.gen] (.take 0 .done) rfl ?_
  refine GP.take0 rfl (Does.store1 rfl rfl sz3 rfl (by first | exact .head | exact .tail .head | exact .tail (.tail .head) | exact .tail (.tail (.tail .head)) | exact .tail (.tail (.tail (.tail .head))) | exact .tail (.tail (.tail (.tail (.tail .head))))) (by first | exact .head | exact .tail .head | exact .tail (.tail .head) | exact .tail (.tail (.tail .head))) ?_)
  refine GP.keep [(0, _), (3, _), (4, _), (5, _), (6, _), (7, _), (8, _), (9, _)] (.cons rfl (.cons rfl (.cons rfl (.cons rfl (.cons rfl (.cons rfl (.cons rfl (.cons rfl .nil)))))))) ?_
  repeat refine G.seq ?_
  refine G.region [.loc, .gen] (.take 0 (.take 1 .done)) rfl ?_
  refine GP.take rfl rfl (Does.fieldAddr rfl fo38_0 ?_)
  refine GP.take rfl rfl (Does.load1 rfl ft3 (CellIn.own (by first | exact .head _ | exact .tail _ (.head _) | exact .tail _ (.tail _ (.head _)) | exact .tail _ (.tail _ (.tail _ (.head _))) | exact .tail _ (.tail _ (.tail _ (.tail _ (.head _)))) | exact .tail _ (.tail _ (.tail _ (.tail _ (.tail _ (.head _)))))) rfl) ?_)
  refine GP.keep [(0, _), (3, _), (4, _), (5, _), (6, _), (7, _), (8, _), (9, _), (37, _)] (.cons rfl (.cons rfl (.cons rfl (.cons rfl (.cons rfl (.cons rfl (.cons rfl (.cons rfl (.cons rfl .nil))))))))) ?_
  repeat refine G.seq ?_
  have hndl := nd_le items.length
  refine G.block ?_
  refine G.join (S := List ((Int × Int) × Nat) × Nat × Chunks × Nat × Nat) (fun s => [(0, .slice (some ⟨b0, o0, none⟩) ts.length cap0), (3, .pointer (some ⟨cb, 0, none⟩)), (4, .pointer (some ⟨hb, 0, none⟩)), (5, .int .i64 (i : Int)), (9, .int .i64 (s.2.2.2.2 : Int))]) (fun s => (b6, cel 38 [.int .i64 t.kind, .int .i64 t.which, .slice t.ad t.l.length t.cap]) :: (cb, cel 3 [.int .i64 (s.2.2.2.1 : Int)]) :: s.2.2.1)
    (fun s => HRep 71 73 row1 3 hb (.func (.func 18) #[] #[.pointer (some ⟨cb, 0, none⟩)]) s.1 s.2.1 s.2.2.1 ∧ Hd cmpK s.1 ∧ s.1.length ≤ s.2.1 ∧ s.2.1 ≤ tot ts (i + 1) ∧ s.2.2.2.1 ≤ s.2.2.2.2 ∧ s.2.2.2.2 ≤ 4611686018427387904) ?_ fun key => ?_
  · clear hrep hhd hic hct hndl
    rintro ⟨items, came, C0, cost, most⟩ ⟨hrep, hhd, hic, hct, hcm, hmm⟩
    simp only at hrep hhd hic hct hcm hmm ⊢
    refine G.inBlock ?_
    repeat refine G.seq ?_
    refine G.region [.gen, .loc, .loc] (.take 0 (.take 1 (.take 2 .done))) rfl ?_
    refine GP.take rfl rfl (Does.load1 rfl ft3 (CellIn.own (by first | exact .head _ | exact .tail _ (.head _) | exact .tail _ (.tail _ (.head _)) | exact .tail _ (.tail _ (.tail _ (.head _))) | exact .tail _ (.tail _ (.tail _ (.tail _ (.head _)))) | exact .tail _ (.tail _ (.tail _ (.tail _ (.tail _ (.head _)))))) rfl) ?_)
    refine GP.take rfl rfl (Does.move rfl ?_)
    refine GP.take rfl rfl (Does.gtr rfl rfl (decide_eq_false (by omega)) ?_)
    refine GP.keep [(0, _), (3, _), (4, _), (5, _), (9, _), (101, _)] (.cons rfl (.cons rfl (.cons rfl (.cons rfl (.cons rfl (.cons rfl .nil)))))) ?_
    repeat refine G.seq ?_
    refine G.condF rfl ?_
    refine G.skip ?_
    refine G.inBlock ?_
    repeat refine G.seq ?_
    refine G.region [.loc, .loc, .loc] (.take 0 (.take 1 (.take 2 .done))) rfl ?_
    refine GP.take rfl rfl (Does.move rfl ?_)
    refine GP.take rfl rfl (Does.add rfl rfl (r := ((i + 1 : Nat) : Int)) (wrc_i64 (by omega) (by omega) (by omega)) ?_)
    refine GP.take rfl rfl (Does.assign rfl ?_)
    refine GP.keep [(0, _), (3, _), (4, _), (5, _)] (.cons rfl (.cons rfl (.cons rfl (.cons rfl .nil)))) ?_
    exact (G.sub (IH (items, came, C0, i + 1, (cost : Int)) ⟨hrep, hhd, hic, by simp only; omega, by simp only; omega⟩ (by simp only; omega)) .split1)
  repeat refine G.seq ?_
  refine G.region [.loc, .loc] (.take 0 (.take 1 .done)) rfl ?_
  refine GP.take rfl rfl (Does.eql rfl rfl rfl ?_)
  refine GP.take rfl rfl (Does.assign rfl ?_)
  refine GP.keep [(0, _), (3, _), (4, _), (5, _), (6, _), (7, _), (8, _), (9, _), (37, _), (38, _)] (.cons rfl (.cons rfl (.cons rfl (.cons rfl (.cons rfl (.cons rfl (.cons rfl (.cons rfl (.cons rfl (.cons rfl .nil)))))))))) ?_
  repeat refine G.seq ?_
  refine G.cond rfl ?_ ?_
  · intro hk1
    clear hk1
    repeat refine G.seq ?_
    refine G.region [.loc] (.take 0 .done) rfl ?_
    refine GP.take rfl rfl (Does.assign rfl ?_)
    refine GP.keep [(0, _), (3, _), (4, _), (5, _), (6, _), (7, _), (9, _), (10, _)] (.cons rfl (.cons rfl (.cons rfl (.cons rfl (.cons rfl (.cons rfl (.cons rfl (.cons rfl .nil)))))))) ?_
    repeat refine G.seq ?_
    refine G.block ?_
    have hpm : ∀ k, k ≤ t.l.length → pushMost items.length k ≤ 2199025352704 := fun k hk => by
      exact Nat.le_trans (pushMost_le k items.length) (Nat.le_trans (Nat.mul_le_mul (show k ≤ 1048576 by omega) (show items.length + k + 1 ≤ 2097153 by omega)) (by decide))
    refine G.loop (S := Nat) (fun k => [(0, .slice (some ⟨b0, o0, none⟩) ts.length cap0), (3, .pointer (some ⟨cb, 0, none⟩)), (4, .pointer (some ⟨hb, 0, none⟩)), (5, .int .i64 (i : Int)), (6, .pointer (some ⟨b6, 0, none⟩)), (7, .int .i64 (items.length : Int)), (9, .int .i64 ((pushMost items.length k : Nat) : Int)), (10, .int .i64 (k : Int))]) (fun _ => (b6, cel 38 [.int .i64 t.kind, .int .i64 t.which, .slice t.ad t.l.length t.cap]) :: (cb, cel 3 [.int .i64 0]) :: C0)
      (fun k => k ≤ t.l.length) (fun k => t.l.length - k) 0 (Nat.zero_le _) (.cons rfl (.cons rfl (.cons rfl (.cons rfl (.cons rfl (.cons rfl (.cons rfl (.cons rfl .nil)))))))) .all ?_
    intro k hk IHk
    repeat refine G.seq ?_
    refine G.region [.loc, .loc, .gen, .loc, .loc] (.take 0 (.take 1 (.take 2 (.take 3 (.take 4 .done))))) rfl ?_
    refine GP.take rfl rfl (Does.move rfl ?_)
    refine GP.take rfl rfl (Does.fieldAddr rfl fo38_2 ?_)
    refine GP.take rfl rfl (Does.load1 rfl ft34 (CellIn.own (by first | exact .head _ | exact .tail _ (.head _) | exact .tail _ (.tail _ (.head _)) | exact .tail _ (.tail _ (.tail _ (.head _))) | exact .tail _ (.tail _ (.tail _ (.tail _ (.head _)))) | exact .tail _ (.tail _ (.tail _ (.tail _ (.tail _ (.head _)))))) rfl) ?_)
    refine GP.take rfl rfl (Does.len rfl is34 ?_)
    refine GP.take rfl rfl (Does.lss rfl rfl rfl ?_)
    refine GP.keep [(0, _), (3, _), (4, _), (5, _), (6, _), (7, _), (9, _), (10, _), (44, _)] (.cons rfl (.cons rfl (.cons rfl (.cons rfl (.cons rfl (.cons rfl (.cons rfl (.cons rfl (.cons rfl .nil))))))))) ?_
    repeat refine G.seq ?_
    refine G.cond rfl ?_ ?_
    case refine_2 =>
      intro hkz
      obtain rfl : k = t.l.length := by omega
      refine G.exit rfl ?_
      repeat refine G.seq ?_
      have hpk := hpm t.l.length (Nat.le_refl _)
      refine G.fact (p := t.l ≠ [] → t.b ∉ (C0 ++ cntE cb 0).map Prod.fst) (fun w hst hne hm => ?_) fun hnot => ?_
      · have hlt := At.lt htat 0 (List.length_pos_iff.2 hne)
        obtain ⟨c, hc, he⟩ := List.mem_map.1 hm
        rcases List.mem_append.1 hc with hc | hc
        · rcases hst.new c (by simp [hc]) with h1 | h1
          · simp at h1
          · exact absurd hlt (by rw [← he]; exact Nat.not_lt.2 h1)
        · have hcb : c.1 = cb := by simp [cntE] at hc; rw [hc]
          rcases hst.new (cb, _) (.tail _ (.head _)) with h1 | h1
          · simp at h1
          · exact absurd hlt (by rw [← he, hcb]; exact Nat.not_lt.2 h1)
      refine G.region [.loc, .loc, .gen, .gen] (.take 0 (.take 1 (.take 2 (.take 3 .done)))) rfl ?_
      refine GP.take rfl rfl (Does.move rfl ?_)
      refine GP.take rfl rfl (Does.fieldAddr rfl fo38_2 ?_)
      refine GP.take rfl rfl (Does.load1 rfl ft34 (CellIn.own (by first | exact .head _ | exact .tail _ (.head _) | exact .tail _ (.tail _ (.head _)) | exact .tail _ (.tail _ (.tail _ (.head _))) | exact .tail _ (.tail _ (.tail _ (.tail _ (.head _)))) | exact .tail _ (.tail _ (.tail _ (.tail _ (.tail _ (.head _)))))) rfl) ?_)
      refine GP.take rfl rfl (Does.callP [(b6, cel 38 [.int .i64 t.kind, .int .i64 t.which, .slice t.ad t.l.length t.cap])] (C0 ++ cntE cb 0) (.cons rfl (.cons rfl .nil)) cb20 (by classical exact List.perm_iff_count.2 fun q => by simp only [cntE, List.count_append, List.count_cons, List.count_nil, wrap_zero]; omega) (push1 (costs1_ok cb) hb items came C0 hrep 0 t.l t.ad t.cap t.b t.o htad hnot (by omega) (by omega)) (fun w hs i u hi => RowIn.old (vs := t.l.flatMap enc1) (C := []) (by simp) (fun i v h => htat i v h) w (hs.sub .nil) i u hi) ?_)
      rintro _ _ ⟨rfl, C1, hrep1, rfl⟩
      refine ⟨(b6, cel 38 [.int .i64 t.kind, .int .i64 t.which, .slice t.ad t.l.length t.cap]) :: ((cb, cel 3 [.int .i64 (IntKind.i64.wrap ((0 + (pushF cmpK items came t.l).2.2 : Nat) : Int))]) :: C1), (by classical exact List.perm_iff_count.2 fun q => by simp only [cntE, List.count_append, List.count_cons, List.count_nil, wrap_zero]; omega), ?_⟩
      refine GP.keep [(0, _), (3, _), (4, _), (5, _), (6, _), (7, _), (9, _)] (.cons rfl (.cons rfl (.cons rfl (.cons rfl (.cons rfl (.cons rfl (.cons rfl .nil))))))) ?_
      repeat refine G.seq ?_
      have hcost := pushF_cost cmpK t.l items came
      have hpl := pushF_length cmpK t.l items came
      rw [wrap_nat _ (by omega)]
      refine G.draw [.loc, .gen, .loc, .loc, .load, .loc, .loc, .loc] (.take 0 (.take 2 (.take 3 (.alt 1 (.take 4 (.take 5 (.take 6 (.take 7 .done)))) (.alt 4 (.take 5 (.take 6 (.alt 1 (.take 7 .done) .stop))) .stop))))) (by exact mixed) (by kernel_rfl) ?_
      intro N hN0 hN
      refine GP.take rfl rfl (Does.move rfl ?_)
      refine GP.take rfl rfl (Does.move rfl ?_)
      refine GP.take rfl rfl (Does.fieldAddr rfl fo38_2 ?_)
      refine GP.alt ?_ ?_
      · skip
        refine GP.take rfl rfl (Does.callF ([(b6, _), (cb, _)]) (C1) (.cons rfl .nil) cb15 rfl (len1 hb (pushF cmpK items came t.l).1 (pushF cmpK items came t.l).2.1 C1 hrep1) (fun _ _ => trivial) ?_)
        rintro _ C9 ⟨rfl, hC9⟩
        obtain rfl := hC9.symm
        simp only [List.cons_append, List.nil_append]
        refine GP.take rfl rfl (Does.load1N rfl ft34 (by first | exact hN _ (.head _) | exact hN _ (.tail _ (.head _)) | exact hN _ (.tail _ (.tail _ (.head _))) | exact hN _ (.tail _ (.tail _ (.tail _ (.head _)))) | exact hN _ (.tail _ (.tail _ (.tail _ (.tail _ (.head _))))) | exact hN _ (.tail _ (.tail _ (.tail _ (.tail _ (.tail _ (.head _)))))) | exact hN _ (.tail _ (.tail _ (.tail _ (.tail _ (.tail _ (.tail _ (.head _)))))))) (CellIn.own (by first | exact .head _ | exact .tail _ (.head _) | exact .tail _ (.tail _ (.head _)) | exact .tail _ (.tail _ (.tail _ (.head _))) | exact .tail _ (.tail _ (.tail _ (.tail _ (.head _)))) | exact .tail _ (.tail _ (.tail _ (.tail _ (.tail _ (.head _)))))) rfl) ?_)
        refine GP.take rfl rfl (Does.len rfl is34 ?_)
        refine GP.take rfl rfl (Does.add rfl rfl (r := ((items.length + t.l.length : Nat) : Int)) (wrc_i64 (by omega) (by omega) (by omega)) ?_)
        refine GP.take rfl rfl (Does.neq rfl rfl (show (!decide (((pushF cmpK items came t.l).1.length : Int) = ((items.length + t.l.length : Nat) : Int))) = false by rw [hpl.1]; simp) ?_)
        refine GP.keep [(0, _), (3, _), (4, _), (5, _), (6, _), (7, _), (9, _), (65, _)] (.cons rfl (.cons rfl (.cons rfl (.cons rfl (.cons rfl (.cons rfl (.cons rfl (.cons rfl .nil)))))))) ?_
        repeat refine G.seq ?_
        refine G.condF rfl ?_
        refine G.skip ?_
        exact (key ((pushF cmpK items came t.l).1, (pushF cmpK items came t.l).2.1, C1, (pushF cmpK items came t.l).2.2, pushMost items.length t.l.length) ⟨hrep1, pushF_hd lawK _ hhd _, by simp only; omega, by simp only; omega, hcost, by simp only; omega⟩).weak (.cons rfl (.cons rfl (.cons rfl (.cons rfl (.cons rfl .nil)))))
      refine GP.alt ?_ ?_
      · skip
        refine GP.take rfl rfl (Does.load1N rfl ft34 (by first | exact hN _ (.head _) | exact hN _ (.tail _ (.head _)) | exact hN _ (.tail _ (.tail _ (.head _))) | exact hN _ (.tail _ (.tail _ (.tail _ (.head _)))) | exact hN _ (.tail _ (.tail _ (.tail _ (.tail _ (.head _))))) | exact hN _ (.tail _ (.tail _ (.tail _ (.tail _ (.tail _ (.head _)))))) | exact hN _ (.tail _ (.tail _ (.tail _ (.tail _ (.tail _ (.tail _ (.head _)))))))) (CellIn.own (by first | exact .head _ | exact .tail _ (.head _) | exact .tail _ (.tail _ (.head _)) | exact .tail _ (.tail _ (.tail _ (.head _))) | exact .tail _ (.tail _ (.tail _ (.tail _ (.head _)))) | exact .tail _ (.tail _ (.tail _ (.tail _ (.tail _ (.head _)))))) rfl) ?_)
        refine GP.take rfl rfl (Does.len rfl is34 ?_)
        refine GP.take rfl rfl (Does.add rfl rfl (r := ((items.length + t.l.length : Nat) : Int)) (wrc_i64 (by omega) (by omega) (by omega)) ?_)
        refine GP.one ?_
        refine GP.take rfl rfl (Does.callF ([(b6, _), (cb, _)]) (C1) (.cons rfl .nil) cb15 rfl (len1 hb (pushF cmpK items came t.l).1 (pushF cmpK items came t.l).2.1 C1 hrep1) (fun _ _ => trivial) ?_)
        rintro _ C9 ⟨rfl, hC9⟩
        obtain rfl := hC9.symm
        simp only [List.cons_append, List.nil_append]
        refine GP.take rfl rfl (Does.neq rfl rfl (show (!decide (((pushF cmpK items came t.l).1.length : Int) = ((items.length + t.l.length : Nat) : Int))) = false by rw [hpl.1]; simp) ?_)
        refine GP.keep [(0, _), (3, _), (4, _), (5, _), (6, _), (7, _), (9, _), (65, _)] (.cons rfl (.cons rfl (.cons rfl (.cons rfl (.cons rfl (.cons rfl (.cons rfl (.cons rfl .nil)))))))) ?_
        repeat refine G.seq ?_
        refine G.condF rfl ?_
        refine G.skip ?_
        exact (key ((pushF cmpK items came t.l).1, (pushF cmpK items came t.l).2.1, C1, (pushF cmpK items came t.l).2.2, pushMost items.length t.l.length) ⟨hrep1, pushF_hd lawK _ hhd _, by simp only; omega, by simp only; omega, hcost, by simp only; omega⟩).weak (.cons rfl (.cons rfl (.cons rfl (.cons rfl (.cons rfl .nil)))))
      exact GP.stop
    intro hkz
    have hpk := hpm k hk
    have hndk := nd_le (items.length + k)
    refine G.skip ?_
    repeat refine G.seq ?_
    refine G.block ?_
    repeat refine G.seq ?_
    refine G.region [.loc, .loc, .loc, .loc, .gen, .loc, .loc, .loc] (.take 0 (.take 1 (.take 2 (.take 3 (.take 4 (.take 5 (.take 6 (.take 7 .done)))))))) rfl ?_
    refine GP.take rfl rfl (Does.move rfl ?_)
    refine GP.take rfl rfl (Does.move rfl ?_)
    refine GP.take rfl rfl (Does.move rfl ?_)
    refine GP.take rfl rfl (Does.add rfl rfl (r := ((items.length + k : Nat) : Int)) (wrc_i64 (by omega) (by omega) (by omega)) ?_)
    refine GP.take rfl rfl (Does.callN (.cons rfl .nil) cb19 (digits_nd (items.length + k) (by omega)) (fun _ _ => trivial) ?_)
    rintro _ _ ⟨rfl, rfl⟩
    simp only [List.append_nil]
    refine GP.take rfl rfl (Does.add rfl rfl (r := ((pushMost items.length k + nd (items.length + k) : Nat) : Int)) (wrc_i64 (by omega) (by omega) (by omega)) ?_)
    refine GP.take rfl rfl (Does.add rfl rfl (r := ((pushMost items.length (k + 1) : Nat) : Int)) (wrc_i64 (by rw [pushMost_snoc]; omega) (by omega) (by omega)) ?_)
    refine GP.take rfl rfl (Does.assign rfl ?_)
    refine GP.keep [(0, _), (3, _), (4, _), (5, _), (6, _), (7, _), (9, _), (10, _)] (.cons rfl (.cons rfl (.cons rfl (.cons rfl (.cons rfl (.cons rfl (.cons rfl (.cons rfl .nil)))))))) ?_
    refine G.inBlock ?_
    repeat refine G.seq ?_
    refine G.region [.loc, .loc, .loc] (.take 0 (.take 1 (.take 2 .done))) rfl ?_
    refine GP.take rfl rfl (Does.move rfl ?_)
    refine GP.take rfl rfl (Does.add rfl rfl (r := ((k + 1 : Nat) : Int)) (wrc_i64 (by omega) (by omega) (by omega)) ?_)
    refine GP.take rfl rfl (Does.assign rfl ?_)
    refine GP.keep [(0, _), (3, _), (4, _), (5, _), (6, _), (7, _), (9, _), (10, _)] (.cons rfl (.cons rfl (.cons rfl (.cons rfl (.cons rfl (.cons rfl (.cons rfl (.cons rfl .nil)))))))) ?_
    exact IHk (k + 1) (by omega) (by omega)
  intro hk1
  clear hk1
  repeat refine G.seq ?_
  refine G.region [.loc, .loc] (.take 0 (.take 1 .done)) rfl ?_
  refine GP.take rfl rfl (Does.eql rfl rfl rfl ?_)
  refine GP.take rfl rfl (Does.assign rfl ?_)
  refine GP.keep [(0, _), (3, _), (4, _), (5, _), (6, _), (7, _), (8, _), (9, _), (37, _), (66, _)] (.cons rfl (.cons rfl (.cons rfl (.cons rfl (.cons rfl (.cons rfl (.cons rfl (.cons rfl (.cons rfl (.cons rfl .nil)))))))))) ?_
  repeat refine G.seq ?_
  refine G.cond rfl ?_ ?_
  · intro hk1
    clear hk1
    repeat refine G.seq ?_
    refine G.region [.loc, .gen] (.take 0 (.take 1 .done)) rfl ?_
    refine GP.take rfl rfl (Does.move rfl ?_)
    refine GP.take rfl rfl (Does.callF [(b6, _), (cb, _)] C0 (.cons rfl .nil) cb21 rfl (peek1 hb items came C0 hrep) (fun _ _ => trivial) ?_)
    rintro _ C9 ⟨rfl, hC9⟩
    obtain rfl := hC9.symm
    simp only [List.cons_append, List.nil_append]
    refine GP.keep [(0, _), (3, _), (4, _), (5, _), (9, _)] (.cons rfl (.cons rfl (.cons rfl (.cons rfl (.cons rfl .nil))))) ?_
    exact (key (items, came, C0, 0, 0) ⟨hrep, hhd, hic, by simp only; omega, by simp only; omega, by simp only; omega⟩)
  intro hk1
  clear hk1
  repeat refine G.seq ?_
  refine G.region [.loc, .loc] (.take 0 (.take 1 .done)) rfl ?_
  refine GP.take rfl rfl (Does.eql rfl rfl rfl ?_)
  refine GP.take rfl rfl (Does.assign rfl ?_)
  refine GP.keep [(0, _), (3, _), (4, _), (5, _), (6, _), (7, _), (8, _), (9, _), (37, _), (70, _)] (.cons rfl (.cons rfl (.cons rfl (.cons rfl (.cons rfl (.cons rfl (.cons rfl (.cons rfl (.cons rfl (.cons rfl .nil)))))))))) ?_
  repeat refine G.seq ?_
  refine G.cond rfl ?_ ?_
  · intro hk1
    clear hk1
    repeat refine G.seq ?_
    refine G.region [.loc, .loc, .loc, .loc] (.take 0 (.take 1 (.take 2 (.take 3 .done)))) rfl ?_
    refine GP.take rfl rfl (Does.move rfl ?_)
    refine GP.take rfl rfl (Does.mul rfl rfl (r := ((2 * nd items.length : Nat) : Int)) (wrc_i64 (by omega) (by omega) (by omega)) ?_)
    refine GP.take rfl rfl (Does.add rfl rfl (r := ((2 * nd items.length + 2 : Nat) : Int)) (wrc_i64 (by omega) (by omega) (by omega)) ?_)
    refine GP.take rfl rfl (Does.assign rfl ?_)
    refine GP.keep [(0, _), (3, _), (4, _), (5, _), (7, _), (9, _)] (.cons rfl (.cons rfl (.cons rfl (.cons rfl (.cons rfl (.cons rfl .nil)))))) ?_
    repeat refine G.seq ?_
    refine G.region [.loc, .gen, .loc, .loc, .loc, .alloc, .gen, .loc] (.take 0 (.take 1 (.take 2 (.take 3 (.take 4 (.take 5 (.take 6 (.take 7 .done)))))))) rfl ?_
    refine GP.take rfl rfl (Does.move rfl ?_)
    refine GP.take rfl rfl (Does.callP ([(b6, cel 38 [.int .i64 t.kind, .int .i64 t.which, .slice t.ad t.l.length t.cap])]) (C0 ++ cntE cb 0) (.cons rfl .nil) cb17 (by classical exact List.perm_iff_count.2 fun q => by simp only [cntE, List.count_append, List.count_cons, List.count_nil, wrap_zero]; omega) (pop1 (costs1_ok cb) hb items came C0 hrep 0 (by omega)) (fun _ _ => trivial) ?_)
    rintro _ _ ⟨rfl, C1, hrep1, rfl⟩
    refine ⟨([(b6, cel 38 [.int .i64 t.kind, .int .i64 t.which, .slice t.ad t.l.length t.cap])]) ++ ((cb, cel 3 [.int .i64 (IntKind.i64.wrap ((0 + (popF cmpK items).2 : Nat) : Int))]) :: C1), (by classical exact List.perm_iff_count.2 fun q => by simp only [cntE, List.count_append, List.count_cons, List.count_nil, wrap_zero]; omega), ?_⟩
    simp only [List.cons_append, List.nil_append]
    refine GP.take rfl rfl (Does.move rfl ?_)
    refine GP.take rfl rfl (Does.extract rfl rfl ?_)
    refine GP.take rfl rfl (Does.extract rfl rfl ?_)
    refine GP.take rfl rfl (Does.alloc zl31 fun b11 Nb11 hb11 nb11 => ?_)
    refine GP.take0 rfl (Does.storeA rfl rfl sz31 (by first | exact .head | exact .tail .head | exact .tail (.tail .head) | exact .tail (.tail (.tail .head)) | exact .tail (.tail (.tail (.tail .head))) | exact .tail (.tail (.tail (.tail (.tail .head))))) (.cons rfl .head (.cons rfl (.tail .head) .nil)) ?_)
    refine GP.take rfl rfl (Does.assign rfl ?_)
    refine GP.keep [(0, _), (3, _), (4, _), (5, _), (7, _), (9, _), (12, _)] (.cons rfl (.cons rfl (.cons rfl (.cons rfl (.cons rfl (.cons rfl (.cons rfl .nil))))))) ?_
    repeat refine G.seq ?_
    have hcost : (popF cmpK items).2 ≤ 2 * nd items.length := popF_cost cmpK items
    have hpl : (popF cmpK items).1.length = items.length - 1 := popF_length cmpK items
    rw [wrap_nat _ (by omega)]
    have hemp : (!items.isEmpty) = decide ((items.length : Int) > 0) := by cases items <;> simp <;> omega
    refine G.region [.loc, .loc, .loc, .loc] (.take 0 (.take 1 (.take 2 (.take 3 .done)))) rfl ?_
    refine GP.take rfl rfl (Does.move rfl ?_)
    refine GP.take rfl rfl (Does.move rfl ?_)
    refine GP.take rfl rfl (Does.gtr rfl rfl rfl ?_)
    refine GP.take rfl rfl (Does.neqB rfl rfl Try.underlying4 (show (!((!items.isEmpty) == decide ((items.length : Int) > 0))) = false by rw [hemp]; simp) ?_)
    refine GP.keep [(0, _), (3, _), (4, _), (5, _), (7, _), (9, _), (12, _), (83, _)] (.cons rfl (.cons rfl (.cons rfl (.cons rfl (.cons rfl (.cons rfl (.cons rfl (.cons rfl .nil)))))))) ?_
    repeat refine G.seq ?_
    refine G.condF rfl ?_
    refine G.skip ?_
    exact (G.sub (key ((popF cmpK items).1, came, C1, (popF cmpK items).2, 2 * nd items.length + 2) ⟨hrep1, popF_hd lawK hhd, by simp only; omega, by simp only; omega, by simp only; omega, by simp only; omega⟩) .split1).weak (.cons rfl (.cons rfl (.cons rfl (.cons rfl (.cons rfl .nil)))))
  intro hk1
  clear hk1
  repeat refine G.seq ?_
  refine G.region [.loc, .loc] (.take 0 (.take 1 .done)) rfl ?_
  refine GP.take rfl rfl (Does.eql rfl rfl rfl ?_)
  refine GP.take rfl rfl (Does.assign rfl ?_)
  refine GP.keep [(0, _), (3, _), (4, _), (5, _), (6, _), (7, _), (8, _), (9, _), (37, _), (84, _)] (.cons rfl (.cons rfl (.cons rfl (.cons rfl (.cons rfl (.cons rfl (.cons rfl (.cons rfl (.cons rfl (.cons rfl .nil)))))))))) ?_
  repeat refine G.seq ?_
  refine G.cond rfl ?_ ?_
  · intro hk1
    clear hk1
    repeat refine G.seq ?_
    refine G.region [.loc, .loc, .loc, .loc] (.take 0 (.take 1 (.take 2 (.take 3 .done)))) rfl ?_
    refine GP.take rfl rfl (Does.move rfl ?_)
    refine GP.take rfl rfl (Does.mul rfl rfl (r := ((2 * nd items.length : Nat) : Int)) (wrc_i64 (by omega) (by omega) (by omega)) ?_)
    refine GP.take rfl rfl (Does.add rfl rfl (r := ((2 * nd items.length + 2 : Nat) : Int)) (wrc_i64 (by omega) (by omega) (by omega)) ?_)
    refine GP.take rfl rfl (Does.assign rfl ?_)
    refine GP.keep [(0, _), (3, _), (4, _), (5, _), (6, _), (7, _), (9, _)] (.cons rfl (.cons rfl (.cons rfl (.cons rfl (.cons rfl (.cons rfl (.cons rfl .nil))))))) ?_
    repeat refine G.seq ?_
    refine G.region [.loc, .loc, .gen, .gen, .gen] (.take 0 (.take 1 (.take 2 (.take 3 (.take 4 .done))))) rfl ?_
    refine GP.take rfl rfl (Does.move rfl ?_)
    refine GP.take rfl rfl (Does.fieldAddr rfl fo38_2 ?_)
    refine GP.take rfl rfl (Does.load1 rfl ft34 (CellIn.own (by first | exact .head _ | exact .tail _ (.head _) | exact .tail _ (.tail _ (.head _)) | exact .tail _ (.tail _ (.tail _ (.head _))) | exact .tail _ (.tail _ (.tail _ (.tail _ (.head _)))) | exact .tail _ (.tail _ (.tail _ (.tail _ (.tail _ (.head _)))))) rfl) ?_)
    refine GP.take rfl rfl (Does.callN (.cons rfl .nil) cb23 (one_ct t.l t.ad t.cap t.b t.o htad) (fun w hs i u hi => RowIn.old (vs := t.l.flatMap enc1) (C := []) (by simp) (fun i v h => htat i v h) w (hs.sub .nil) i u hi) ?_)
    rintro _ _ ⟨rfl, rfl⟩
    simp only [List.append_nil]
    refine GP.take rfl rfl (Does.callP [(b6, cel 38 [.int .i64 t.kind, .int .i64 t.which, .slice t.ad t.l.length t.cap])] (C0 ++ cntE cb 0) (.cons rfl (.cons rfl .nil)) cb22 (by classical exact List.perm_iff_count.2 fun q => by simp only [cntE, List.count_append, List.count_cons, List.count_nil, wrap_zero]; omega) (swap1 (costs1_ok cb) hb items came C0 hrep 0 (t.l.headD (0, 0)) (by omega) (by omega)) (fun _ _ => trivial) ?_)
    rintro _ _ ⟨rfl, C1, hrep1, rfl⟩
    refine ⟨(b6, cel 38 [.int .i64 t.kind, .int .i64 t.which, .slice t.ad t.l.length t.cap]) :: ((cb, cel 3 [.int .i64 (IntKind.i64.wrap ((0 + (swapF cmpK items came (t.l.headD (0, 0))).2.2 : Nat) : Int))]) :: C1), (by classical exact List.perm_iff_count.2 fun q => by simp only [cntE, List.count_append, List.count_cons, List.count_nil, wrap_zero]; omega), ?_⟩
    refine GP.keep [(0, _), (3, _), (4, _), (5, _), (7, _), (9, _)] (.cons rfl (.cons rfl (.cons rfl (.cons rfl (.cons rfl (.cons rfl .nil)))))) ?_
    repeat refine G.seq ?_
    have hcost := swapF_cost cmpK items came (t.l.headD (0, 0))
    obtain ⟨hpl, hpc⟩ := swapF_length cmpK items came (t.l.headD (0, 0))
    rw [wrap_nat _ (by omega)]
    refine G.region [.loc, .gen, .loc, .loc, .loc] (.take 0 (.take 1 (.take 2 (.take 3 (.take 4 .done))))) rfl ?_
    refine GP.take rfl rfl (Does.move rfl ?_)
    refine GP.take rfl rfl (Does.callF ([(b6, _), (cb, _)]) (C1) (.cons rfl .nil) cb15 rfl (len1 hb (swapF cmpK items came (t.l.headD (0, 0))).1 (swapF cmpK items came (t.l.headD (0, 0))).2.1 C1 hrep1) (fun _ _ => trivial) ?_)
    rintro _ C9 ⟨rfl, hC9⟩
    obtain rfl := hC9.symm
    simp only [List.cons_append, List.nil_append]
    refine GP.take rfl rfl (Does.move rfl ?_)
    refine GP.take rfl rfl (Does.max rfl rfl (r := ((max items.length 1 : Nat) : Int)) (by split <;> omega) ?_)
    refine GP.take rfl rfl (Does.neq rfl rfl (show (!decide (((swapF cmpK items came (t.l.headD (0, 0))).1.length : Int) = ((max items.length 1 : Nat) : Int))) = false by rw [hpl]; simp) ?_)
    refine GP.keep [(0, _), (3, _), (4, _), (5, _), (7, _), (9, _), (98, _)] (.cons rfl (.cons rfl (.cons rfl (.cons rfl (.cons rfl (.cons rfl (.cons rfl .nil))))))) ?_
    repeat refine G.seq ?_
    refine G.condF rfl ?_
    refine G.skip ?_
    exact (key ((swapF cmpK items came (t.l.headD (0, 0))).1, (swapF cmpK items came (t.l.headD (0, 0))).2.1, C1, (swapF cmpK items came (t.l.headD (0, 0))).2.2, 2 * nd items.length + 2) ⟨hrep1, swapF_hd lawK hhd _ _, by simp only; omega, by simp only; omega, by simp only; omega, by simp only; omega⟩).weak (.cons rfl (.cons rfl (.cons rfl (.cons rfl (.cons rfl .nil)))))
  intro hk1
  clear hk1
  refine G.skip ?_
  exact (key (items, came, C0, 0, 0) ⟨hrep, hhd, hic, by simp only; omega, by simp only; omega, by simp only; omega⟩).weak (.cons rfl (.cons rfl (.cons rfl (.cons rfl (.cons rfl .nil)))))
set_option maxRecDepth 100000 in
theorem heapCosts_contract (H : Type) (enc : TypeId × Value → H) (W : World) (base : Nat) (args : Array Value) (ds gs : List (DataW H)) (before : List MemPlace)
    (hval : ∀ (j : Nat) t v, Try.f5.params[j]? = some t → args[j]? = some v → Value.okWide Try.prog W .any base t v)
    (hW : DataW.Whole enc Try.prog Try.f5.params.toList Rows.heapCostsSpec.vars false W args.toList ds gs before) (hk : Rows.uptoSmall H (ds ++ gs) = true) :
    Calls Try.prog 5 args W fun e W' => ∃ v, e = .returned v ∧ Rows.heapCostsSpec.post enc Try.prog Try.f5 false true false false W args v W' := by
  have hW0 := hW
  obtain ⟨p, q, hA, -, -, -, -⟩ := hW
  have hsm : Rows.uptoBulkAll (ds ++ gs) ≤ 1048576 := of_decide_eq_true hk
  obtain ⟨v, vs, d, ds', p1, q1, n, hargs, rfl, rfl, h1, h2⟩ := trodAll_split (t := 27) (ts := []) hA
  obtain ⟨rfl, rfl, rfl⟩ := trodAll_end h2
  obtain rfl : args = #[v] := by cases args; simpa using hargs
  obtain ⟨a0, len, cap, rfl⟩ := Go.WideShapes.okWide_slice Try.underlying27 (hval 0 27 _ rfl rfl)
  obtain ⟨l, ad, cap', b, o, e1, e2, e3, e4, e5, e6⟩ := inv_turns h1
  have e1' : [Value.slice a0 len cap] = [.slice ad l.length cap'] := e1
  simp only [List.cons.injEq, Value.slice.injEq, and_true] at e1'
  obtain ⟨rfl, rfl, rfl⟩ := e1'
  have hbd : Rows.uptoBulk d + Rows.uptoBulkAll gs ≤ 1048576 := hsm
  have e6' : (l.map fun t => t.l.length + 1).sum + 1 ≤ Rows.uptoBulk d := e6
  refine (costs_walk l a0 cap b o e3 (by omega) W (by simp) (by simp) ⟨e4, e5⟩).mono ?_
  rintro e W' ⟨_, rfl, C', ⟨rfl, rfl⟩, hst⟩
  exact ⟨_, rfl, law_post laid maps full (by decide +kernel) rfl (fun ds hds => by match ds, hds with | [d], _ => rfl) rfl Try.underlying4 hW0 hst.mods.below⟩
set_option maxRecDepth 100000 in
theorem heapCosts_lifted (os : Os) (started : os.Started) (H : Type) (enc : TypeId × Value → H) (F : Stop.Interp) :
    ReturnsInHanded {} Try.checked os 5 .any ((Rows.OpenSpec.upto Rows.heapCostsSpec).pre6 enc Try.prog Try.f5 Rows.heapCostsUptoRow.domain false) (((Rows.OpenSpec.upto Rows.heapCostsSpec).at F).post enc Try.prog Try.f5 false true false false) := by
  refine returnsInHanded_of_cond (C := Try.checked) (s := Rows.OpenSpec.upto Rows.heapCostsSpec) (k := Rows.uptoSmall) rfl own started (by kernel_rfl) Try.func5
    (OpenSpec.witness (enc := enc) (C := Try.checked) (s := Rows.OpenSpec.upto Rows.heapCostsSpec) (k := Rows.uptoSmall) rfl false ⟨#[], #[.slice none 0 0], []⟩ 8 (by kernel_rfl) (by kernel_rfl) (by kernel_rfl)
      (x := ([.nil], [], [])) (by kernel_rfl) rfl (by kernel_rfl)) ?_
  intro W base args ds gs before hval hW _ hk _
  exact heapCosts_contract H enc W base args ds gs before hval hW hk

/-- THE STATEMENT. -/
theorem heapCosts_holds : Rows.HeapCostsUptoSaid :=
  OpenClaim.holds_of_cond 5 Try.f5 rfl rfl rfl rfl rfl rfl rfl ⟨rfl, rfl, rfl, rfl, rfl⟩ rfl rfl rfl rfl rfl (by kernel_rfl) Try.func5 (by kernel_rfl)
    (of_decide_eq_true (by kernel_rfl)) (by unfold Func.isWrapper; first | (rw [if_pos (by decide +kernel)]; kernel_rfl) | (rw [if_neg (by decide +kernel)]; exact ⟨rfl, rfl⟩))
    (fun os started H enc _ F => heapCosts_lifted os started H enc F)

end Go.Proofs.Ytcgenmfnlocbbaa.T
