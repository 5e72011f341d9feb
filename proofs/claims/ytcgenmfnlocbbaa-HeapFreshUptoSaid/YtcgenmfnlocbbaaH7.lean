/- One call on a heap beside the document's list: what it answers is the document's, and the heap holds the list behind it. Nothing is claimed of a law here. -/
import Derived.Test.YtcgenmfnlocbbaaH4
import Derived.Test.YtcgenmfnlocbbaaH6
namespace Go.Proofs.Ytcgenmfnlocbbaa.T
open Go.Lg Go.Hp Go.RowKit
theorem fo38_0 : fieldOff Try.prog 38 0 = some 0 := by kernel_rfl
theorem fo38_2 : fieldOff Try.prog 38 2 = some 2 := by kernel_rfl
theorem ft34 : flatT Try.prog 34 = true := by kernel_rfl
theorem dig_nd : ∀ (f n : Nat), n ≤ f → dig f n = nd n := by
  intro f
  induction f with
  | zero => intro n h; obtain rfl : n = 0 := by omega
            rfl
  | succ f ih =>
    intro n h
    simp only [dig]
    by_cases h0 : n = 0
    · rw [if_pos h0, h0]; rfl
    · rw [if_neg h0, ih _ (by omega), ← nd_pos n (by omega)]
theorem nd_le (n : Nat) : nd n ≤ n := by
  induction n using Nat.strongRecOn with
  | _ n ih =>
    by_cases h0 : n = 0
    · subst h0; simp [nd_zero]
    · rw [nd_pos n (by omega)]; have := ih (n / 2) (by omega); omega
theorem digits_nd (n : Nat) (hn : n ≤ 4611686018427387904) : Ct Try.prog 19 [.int .i64 (n : Int)].toArray (fun _ => True) [] (fun v C' => v = .int .i64 ((nd n : Nat) : Int) ∧ C' = []) := by
  have := digits_ct n hn
  rw [dig_nd n n (Nat.le_refl _)] at this
  exact this
theorem pushMost_snoc : ∀ (k n : Nat), pushMost n (k + 1) = pushMost n k + nd (n + k) + 1 := by
  intro k
  induction k with
  | zero => intro n; simp [pushMost]
  | succ k ih =>
    intro n
    have := ih (n + 1)
    simp only [pushMost] at this ⊢
    rw [this, show n + 1 + k = n + (k + 1) by omega]; omega
theorem pushMost_le : ∀ (k n : Nat), pushMost n k ≤ k * (n + k + 1) := by
  intro k
  induction k with
  | zero => intro n; simp [pushMost]
  | succ k ih =>
    intro n
    rw [pushMost_snoc]
    have h1 := ih n
    have h2 := nd_le (n + k)
    have h3 : k * (n + k + 1) ≤ k * (n + (k + 1) + 1) := Nat.mul_le_mul_left _ (by omega)
    rw [Nat.add_mul]; omega
theorem turn_row {X : Cx} {C : Chunks} {b o : Nat} {ts : List Tn} (hb : b ∉ X.B0) (h : ∀ i u, (ts.flatMap rowT)[i]? = some u → X.w0.cell? ⟨b, o + i, none⟩ = some u) (j : Nat) (t : Tn) (hj : ts[j]? = some t) : RowIn X C b (o + j * 3) [.int .i64 t.kind, .int .i64 t.which, .slice t.ad t.l.length t.cap] :=
  RowIn.old hb fun i v hv => by
    obtain ⟨hjl, rfl⟩ := List.getElem?_eq_some_iff.1 hj
    rw [Nat.add_assoc]; exact h _ _ (flat_get rowT 3 rowT_length ts j hjl i v hv)
/-- how many things come in the first i turns, at the most -/
def tot (ts : List Tn) (i : Nat) : Nat := ((ts.take i).map fun t => t.l.length + 1).sum
theorem tot_succ (ts : List Tn) (i : Nat) (t : Tn) (h : ts[i]? = some t) : tot ts (i + 1) = tot ts i + t.l.length + 1 := by
  unfold tot
  rw [List.take_add_one, h]
  simp; omega
theorem tot_le (ts : List Tn) (i : Nat) : tot ts i ≤ (ts.map fun t => t.l.length + 1).sum := by
  unfold tot
  conv => rhs; rw [← List.take_append_drop i ts]
  rw [List.map_append, List.sum_append]; omega
theorem len_le_sum (ts : List Tn) : ts.length ≤ (ts.map fun t => t.l.length + 1).sum := by
  induction ts with
  | nil => simp
  | cons t ts ih => simp only [List.length_cons, List.map_cons, List.sum_cons]; omega
theorem lawK : Law cmpK := by
  constructor
  · rintro ⟨⟨a, _⟩, n⟩ ⟨⟨b, _⟩, m⟩ ⟨⟨c, _⟩, q⟩ h1 h2
    simp only [Le, ahB, cmpK, Bool.or_eq_false_iff, Bool.and_eq_false_iff, decide_eq_false_iff_not] at *
    (repeat' split at h1) <;> (repeat' split at h2) <;> (repeat' split) <;> omega
  · rintro ⟨⟨a, _⟩, n⟩ ⟨⟨b, _⟩, m⟩
    simp only [Le, ahB, cmpK, Bool.or_eq_false_iff, Bool.and_eq_false_iff, decide_eq_false_iff_not]
    (repeat' split) <;> omega
theorem cmpK_le {x y : Int × Int} {n m : Nat} (h : Le cmpK (x, n) (y, m)) : x.1 ≤ y.1 := by
  simp only [Le, ahB, cmpK, Bool.or_eq_false_iff, Bool.and_eq_false_iff, decide_eq_false_iff_not] at h
  (repeat' split at h) <;> omega
theorem swapF_length {α : Type} [Inhabited α] (cmp : α → α → Int) (l : List (α × Nat)) (came : Nat) (x : α) : (swapF cmp l came x).1.length = max l.length 1 ∧ (swapF cmp l came x).2.1 = came + 1 := by
  unfold swapF
  split
  · rename_i h; subst h
    have := pushF_length cmp [x] [] came
    simpa using this
  · rename_i h
    have hpos : 0 < l.length := List.length_pos_iff.2 h
    refine ⟨?_, rfl⟩
    simp [downF_length]; omega
theorem first_mem {items : List ((Int × Int) × Nat)} (h : items ≠ []) : at_ items 0 ∈ items := by
  have hpos : 0 < items.length := List.length_pos_iff.2 h
  rw [at_eq _ _ hpos]; exact List.getElem_mem _
theorem least_of {items : List ((Int × Int) × Nat)} (h : Hd cmpK items) : ∀ x ∈ (popF cmpK items).1, (firstF items).1 ≤ x.1.1 := by
  intro x hx
  by_cases hne : items = []
  · subst hne; simp [popF] at hx
  · have hm : x ∈ items := (popF_perm cmpK items hne).mem_iff.1 (List.mem_cons_of_mem _ hx)
    exact cmpK_le (n := (at_ items 0).2) (m := x.2) (h.root' lawK x hm)
theorem wrap_nat (c : Nat) (h : c ≤ 9223372036854775807) : IntKind.i64.wrap ((0 + c : Nat) : Int) = (c : Int) := by
  rw [Nat.zero_add]; exact wr_i64 (by omega) (by omega)

theorem law0 : Law cmp0 := by
  constructor
  · rintro ⟨_, n⟩ ⟨_, m⟩ ⟨_, q⟩ h1 h2
    simp [Le, ahB, cmp0] at *
    omega
  · rintro ⟨_, n⟩ ⟨_, m⟩
    simp [Le, ahB, cmp0]
    omega
/-- the document's order, by its flag -/
def AllOk (all : Bool) (cmp : Int × Int → Int × Int → Int) : Prop := (all = false ∧ cmp = cmpK) ∨ (all = true ∧ cmp = cmp0)
theorem AllOk.law {all : Bool} {cmp : Int × Int → Int × Int → Int} (h : AllOk all cmp) : Law cmp := by
  rcases h with ⟨_, rfl⟩ | ⟨_, rfl⟩
  · exact lawK
  · exact law0
theorem fstI_of {all : Bool} {cmp : Int × Int → Int × Int → Int} (h : AllOk all cmp) {l : List (Int × Int)} {i : Nat} (hf : IsFst cmp l i) : fstI all l l.length = some i := by
  obtain ⟨hi, h1, h2⟩ := hf
  have h1' : ∀ j, j < i → bef (l.getD i (0, 0)) (l.getD j (0, 0)) all = true := by
    intro j hj
    have := h1 j l[j] l[i] hj (by simp [show j < l.length by omega]) (by simp [hi])
    simp only [List.getD_eq_getElem?_getD, List.getElem?_eq_getElem hi, List.getElem?_eq_getElem (show j < l.length by omega), Option.getD_some]
    rcases h with ⟨rfl, rfl⟩ | ⟨rfl, rfl⟩
    · simp only [cmpK] at this
      simp only [bef, Bool.not_false, Bool.true_and, decide_eq_true_eq]
      (repeat' split at this) <;> omega
    · simp [cmp0] at this
  have h2' : ∀ j, i < j → j < l.length → bef (l.getD j (0, 0)) (l.getD i (0, 0)) all = false := by
    intro j hj hjl
    have := h2 j l[j] l[i] hj (by simp [hjl]) (by simp [hi])
    simp only [List.getD_eq_getElem?_getD, List.getElem?_eq_getElem hi, List.getElem?_eq_getElem hjl, Option.getD_some]
    rcases h with ⟨rfl, rfl⟩ | ⟨rfl, rfl⟩
    · simp only [cmpK] at this
      simp only [bef, Bool.not_false, Bool.true_and, decide_eq_false_iff_not]
      intro hlt; rw [if_pos hlt] at this; exact this (by decide)
    · simp [bef]
  have key : ∀ n, n ≤ l.length → i < n → fstI all l n = some i := by
    intro n
    induction n with
    | zero => intro _ h; omega
    | succ n ih =>
      intro hn hin
      rw [fstI_succ]
      by_cases he : i = n
      · subst he
        cases hf : fstI all l i with
        | none => rfl
        | some j => simp only; rw [if_pos (h1' j (fstI_lt _ _ _ _ hf))]
      · rw [ih (by omega) (by omega)]
        simp only
        rw [if_neg (by rw [h2' n (by omega) (by omega)]; simp)]
  exact key _ (Nat.le_refl _) hi
theorem took_first {all : Bool} {cmp : Int × Int → Int × Int → Int} (L : Law cmp) (h : AllOk all cmp) {items : List ((Int × Int) × Nat)} {came : Nat} {l : List (Int × Int)} (hh : Hd cmp items) (hc : Coming items came l) : tookB (firstF items) (!items.isEmpty) l all = true := by
  by_cases hne : items = []
  · subst hne
    have hl : l = [] := List.eq_nil_of_length_eq_zero hc.length.symm
    subst hl
    have h1 : fstI all [] 0 = none := rfl
    simp only [tookB, List.length_nil, h1]
    rfl
  · obtain ⟨i, h1, h2, -⟩ := hc.pop L hh hne
    have h3 := fstI_of h h1
    have h4 : (!items.isEmpty) = true := by simpa using hne
    simp only [tookB, h3, h4, Bool.true_and, List.getD_eq_getElem?_getD, h2, Option.getD_some, decide_true]
theorem LRep.full {l : List (Int × Int)} {sv : Value} {C : Chunks} (h : LRep l sv C) (hne : l ≠ []) : ∃ b cap sp, sv = .slice (some ⟨b, 0, none⟩) l.length cap ∧ C = [(b, cel 31 (l.flatMap enc1 ++ sp))] ∧ l.length ≤ cap ∧ sp.length = (cap - l.length) * 2 := by
  unfold LRep at h
  generalize hn : l.length = n at h ⊢
  generalize hf : l.flatMap enc1 = fl at h ⊢
  cases h with
  | nil => exact absurd (List.eq_nil_of_length_eq_zero hn) hne
  | @blk sb n cap old sp _ _ h h1 h2 h3 =>
    obtain rfl := take_nil h
    exact ⟨sb, cap, sp, rfl, rfl, h3, h2⟩
theorem _root_.Go.Lg.G.subP {X : Cx} {L : Env} {ds : List Deferred} {C A : Chunks} {k : List Item} (R : Chunks) (hp : (A ++ R).Perm C) (h : G X k L ds A) : G X k L ds C := fun a w hs => h a w (hs.with (hs.st.perm hp).left)

/-- a heap and the document's list of what is in it -/
def HL (g : FuncId) (cmp : Int × Int → Int × Int → Int) (hb : Nat) (l : List (Int × Int)) (items : List ((Int × Int) × Nat)) (came : Nat) (C0 : Chunks) : Prop :=
  HRep 71 73 row1 3 hb (.func (.func g) #[] #[]) items came C0 ∧ Hd cmp items ∧ Coming items came l
theorem turn_ct {g : FuncId} {cmp : Int × Int → Int × Int → Int} {all : Bool} (hc : CmpOk Try.prog g #[] #[] (fun _ => []) enc1 cmp) (hall : AllOk all cmp) (hb : Nat) (l : List (Int × Int)) (sv : Value) (Cl : Chunks) (items : List ((Int × Int) × Nat)) (came : Nat) (C0 : Chunks) (t : Tn)
    (hl : LRep l sv Cl) (hh : HL g cmp hb l items came C0) (hb1 : l.length + t.l.length ≤ 16777216) (hb2 : came + t.l.length ≤ 4294967296) (htc : t.l.length ≤ t.cap) (htad : t.l ≠ [] → t.ad = some ⟨t.b, t.o, none⟩) (htb : t.l ≠ [] → t.b ∉ (Cl ++ C0).map Prod.fst) :
    Ct Try.prog 16 [.pointer (some ⟨hb, 0, none⟩), sv, .agg (rowT t).toArray, .bool all].toArray (fun w => At w t.b t.o (t.l.flatMap enc1)) (Cl ++ C0)
      (fun v C' => ∃ l' sv' Cl' items' came' C0', v = .tuple #[sv', .bool true] ∧ LRep l' sv' Cl' ∧ HL g cmp hb l' items' came' C0' ∧ C' = Cl' ++ C0' ∧ l'.length ≤ l.length + t.l.length + 1 ∧ came' ≤ came + t.l.length + 1 ∧ (t.kind = 3 → l'.length = l.length - 1)) := by
  obtain ⟨hrep, hhd, hcom⟩ := hh
  have L := hall.law
  have hlen := hcom.length
  have htook := took_first L hall hhd hcom
  obtain ⟨ad, cap, lb, hsv, had, hcap, hmem, hrow⟩ := hl.form
  subst hsv
  unfold rowT
  refine ct_of_walk (fn := Try.f16) Try.func16 rfl rfl fun w0 hpre hst => ?_
  clear hst
  repeat refine G.seq ?_
  refine G.region [.alloc, .loc, .loc] (.take 0 (.take 1 (.take 2 .done))) rfl ?_
  refine GP.take rfl rfl (Does.box (T := 38) rfl rfl fun b6 Nb6 hb6 nb6 => ?_)
  refine GP.take rfl rfl (Does.assign rfl ?_)
  refine GP.take rfl rfl (Does.assign rfl ?_)
  refine GP.keep [(0, _), (1, _), (2, _), (3, _), (6, _), (8, _), (9, _)] (.cons rfl (.cons rfl (.cons rfl (.cons rfl (.cons rfl (.cons rfl (.cons rfl .nil))))))) ?_
  repeat refine G.seq ?_
  refine G.region [.loc, .loc, .gen, .loc] (.take 0 (.take 1 (.take 2 (.take 3 .done)))) rfl ?_
  refine GP.take rfl rfl (Does.move rfl ?_)
  refine GP.take rfl rfl (Does.move rfl ?_)
  refine GP.take rfl rfl (Does.callN (.cons rfl (.cons rfl .nil)) cb26 (first_ct l all ad cap lb 0 had (by omega)) (fun w hs i u hi => by have := hrow _ [_] (C0) w hs i u hi; simpa using this) ?_)
  rintro _ _ ⟨rfl, rfl⟩
  simp only [List.append_nil]
  refine GP.take rfl rfl (Does.assign rfl ?_)
  refine GP.keep [(0, _), (1, _), (3, _), (6, _), (10, _)] (.cons rfl (.cons rfl (.cons rfl (.cons rfl (.cons rfl .nil))))) ?_
  repeat refine G.seq ?_
  refine G.region [.loc, .gen] (.take 0 (.take 1 .done)) rfl ?_
  refine GP.take rfl rfl (Does.fieldAddr rfl fo38_0 ?_)
  refine GP.take rfl rfl (Does.load1 rfl ft3 (CellIn.own (by first | exact .head _ | exact .tail _ (.head _) | exact .tail _ (.tail _ (.head _)) | exact .tail _ (.tail _ (.tail _ (.head _))) | exact .tail _ (.tail _ (.tail _ (.tail _ (.head _)))) | exact .tail _ (.tail _ (.tail _ (.tail _ (.tail _ (.head _)))))) rfl) ?_)
  refine GP.keep [(0, _), (1, _), (3, _), (6, _), (10, _), (29, _)] (.cons rfl (.cons rfl (.cons rfl (.cons rfl (.cons rfl (.cons rfl .nil)))))) ?_
  repeat refine G.seq ?_
  refine G.block ?_
  repeat refine G.seq ?_
  refine G.region [.loc, .loc] (.take 0 (.take 1 .done)) rfl ?_
  refine GP.take rfl rfl (Does.eql rfl rfl rfl ?_)
  refine GP.take rfl rfl (Does.assign rfl ?_)
  refine GP.keep [(0, _), (1, _), (3, _), (6, _), (10, _), (29, _), (30, _)] (.cons rfl (.cons rfl (.cons rfl (.cons rfl (.cons rfl (.cons rfl (.cons rfl .nil))))))) ?_
  repeat refine G.seq ?_
  refine G.cond rfl ?_ ?_
  · intro hk
    repeat refine G.seq ?_
    refine G.region [.loc] (.take 0 .done) rfl ?_
    refine GP.take rfl rfl (Does.assign rfl ?_)
    refine GP.keep [(0, _), (1, _), (6, _), (11, _)] (.cons rfl (.cons rfl (.cons rfl (.cons rfl .nil)))) ?_
    repeat refine G.seq ?_
    refine G.region [.loc, .loc, .gen, .gen, .loc] (.take 0 (.take 1 (.take 2 (.take 3 (.take 4 .done))))) rfl ?_
    refine GP.take rfl rfl (Does.move rfl ?_)
    refine GP.take rfl rfl (Does.fieldAddr rfl fo38_2 ?_)
    refine GP.take rfl rfl (Does.load1 rfl ft34 (CellIn.own (by first | exact .head _ | exact .tail _ (.head _) | exact .tail _ (.tail _ (.head _)) | exact .tail _ (.tail _ (.tail _ (.head _))) | exact .tail _ (.tail _ (.tail _ (.tail _ (.head _)))) | exact .tail _ (.tail _ (.tail _ (.tail _ (.tail _ (.head _)))))) rfl) ?_)
    refine GP.take rfl rfl (Does.appendT rfl (l := []) (xs := t.l) (ad2 := t.ad) (mc := t.cap) [] [] ((b6, cel 38 [.int .i64 t.kind, .int .i64 t.which, .slice t.ad t.l.length t.cap]) :: (Cl ++ C0)) rfl rfl rfl LRep.nil (fun hne => ⟨t.b, t.o, htad hne, RowIn.old (by simpa using htb hne) (fun i v h => hpre i v h)⟩) (by simp; omega) ?_)
    intro sv1 F1 h1
    simp only [List.nil_append] at h1 ⊢
    refine GP.take rfl rfl (Does.assign rfl ?_)
    refine GP.keep [(0, _), (1, _), (6, _), (11, _)] (.cons rfl (.cons rfl (.cons rfl (.cons rfl .nil)))) ?_
    repeat refine G.seq ?_
    have hfull : ∀ x ∈ ([(-1, -7)] : List (Int × Int)), x = (-1, -7) := by simp
    refine G.region [.loc, .loc, .alloc, .gen, .loc] (.take 0 (.take 1 (.take 2 (.take 3 (.take 4 .done))))) rfl ?_
    refine GP.take rfl rfl (Does.move rfl ?_)
    refine GP.take rfl rfl (Does.build (r := [_, _]) (.cons rfl (.cons rfl .nil)) sp31 zl31 rfl ?_)
    refine GP.take rfl rfl (Does.buildSlice (r := [_, _]) (.cons rfl .nil) sl34 zl31 (by decide) rfl fun b38 N38 h38 n38 => ?_)
    refine GP.take rfl rfl (Does.appendT rfl (l := t.l) (xs := [(-1, -7)]) (mc := 1) [(b38, cel 31 [.int .i64 (-1), .int .i64 (-7)])] F1 ((b6, cel 38 [.int .i64 t.kind, .int .i64 t.which, .slice t.ad t.l.length t.cap]) :: (Cl ++ C0)) rfl rfl rfl h1 (fun _ => ⟨b38, 0, rfl, RowIn.own (.head _) rfl⟩) (by simp; omega) ?_)
    intro sv2 F2 h2
    refine GP.take rfl rfl (Does.assign rfl ?_)
    refine GP.keep [(0, _), (1, _), (6, _), (11, _)] (.cons rfl (.cons rfl (.cons rfl (.cons rfl .nil)))) ?_
    repeat refine G.seq ?_
    obtain ⟨fb, fcap, sp, rfl, rfl, hfc, hsp⟩ := h2.full (by simp)
    have hfl : (t.l ++ [((-1 : Int), (-7 : Int))]).length = t.l.length + 1 := by simp
    rw [hfl] at hfc hsp ⊢
    refine G.subP [(b38, cel 31 [.int .i64 (-1), .int .i64 (-7)])] (A := (fb, cel 31 ((t.l ++ [((-1 : Int), (-7 : Int))]).flatMap enc1 ++ sp)) :: (b6, cel 38 [.int .i64 t.kind, .int .i64 t.which, .slice t.ad t.l.length t.cap]) :: (Cl ++ C0)) (by classical exact List.perm_iff_count.2 fun q => by simp only [enc1, List.count_append, List.count_cons, List.count_nil]; omega) ?_
    refine G.region [.loc, .loc, .gen, .loc, .loc, .loc] (.take 0 (.take 1 (.take 2 (.take 3 (.take 4 (.take 5 .done)))))) rfl ?_
    refine GP.take rfl rfl (Does.move rfl ?_)
    refine GP.take rfl rfl (Does.fieldAddr rfl fo38_2 ?_)
    refine GP.take rfl rfl (Does.load1 rfl ft34 (CellIn.own (by first | exact .head _ | exact .tail _ (.head _) | exact .tail _ (.tail _ (.head _)) | exact .tail _ (.tail _ (.tail _ (.head _))) | exact .tail _ (.tail _ (.tail _ (.tail _ (.head _)))) | exact .tail _ (.tail _ (.tail _ (.tail _ (.tail _ (.head _)))))) rfl) ?_)
    refine GP.take rfl rfl (Does.len rfl is34 ?_)
    refine GP.take rfl rfl (Does.sliceTo t.l.length rfl rfl sl34 rfl (by omega) ?_)
    refine GP.take rfl rfl (Does.assign rfl ?_)
    refine GP.keep [(0, _), (1, _), (6, _), (11, _), (12, _)] (.cons rfl (.cons rfl (.cons rfl (.cons rfl (.cons rfl .nil))))) ?_
    repeat refine G.seq ?_
    refine G.fact (p := fb ∉ (C0 ++ []).map Prod.fst) (fun w hst hm => ?_) fun hfb => ?_
    · have hnd := hst.nd
      simp only [List.map_cons, List.nodup_cons, List.mem_cons, List.map_append, List.mem_append, not_or] at hnd
      exact hnd.1.2.2 (by simpa using hm)
    refine G.region [.loc, .loc, .gen] (.take 0 (.take 1 (.take 2 .done))) rfl ?_
    refine GP.take rfl rfl (Does.move rfl ?_)
    refine GP.take rfl rfl (Does.move rfl ?_)
    refine GP.take rfl rfl (Does.callP ((fb, cel 31 ((t.l ++ [((-1 : Int), (-7 : Int))]).flatMap enc1 ++ sp)) :: (b6, cel 38 [.int .i64 t.kind, .int .i64 t.which, .slice t.ad t.l.length t.cap]) :: Cl) (C0 ++ []) (.cons rfl (.cons rfl .nil)) cb20 (by classical exact List.perm_iff_count.2 fun q => by simp only [enc1, List.count_append, List.count_cons, List.count_nil]; omega) (push1 hc hb items came C0 hrep 0 t.l (some ⟨fb, 0, none⟩) fcap fb 0 (fun _ => rfl) (fun _ => hfb) (by omega) (by omega)) (fun w hs i u hi => RowIn.own (o := 0) (vs := t.l.flatMap enc1) (l := (t.l ++ [((-1 : Int), (-7 : Int))]).flatMap enc1 ++ sp) (.head _) (by simp [List.flatMap_append]) w hs i u hi) ?_)
    rintro _ _ ⟨rfl, C1, hrep1, rfl⟩
    refine ⟨(fb, cel 31 ((t.l ++ [((-1 : Int), (-7 : Int))]).flatMap enc1 ++ sp)) :: (b6, cel 38 [.int .i64 t.kind, .int .i64 t.which, .slice t.ad t.l.length t.cap]) :: (Cl ++ C1), (by classical exact List.perm_iff_count.2 fun q => by simp only [enc1, List.count_append, List.count_cons, List.count_nil]; omega), ?_⟩
    refine GP.keep [(0, _), (1, _), (6, _), (11, _), (12, _)] (.cons rfl (.cons rfl (.cons rfl (.cons rfl (.cons rfl .nil))))) ?_
    repeat refine G.seq ?_
    refine G.region [.loc, .loc, .gen, .gen, .loc, .loc, .loc, .gen, .loc, .loc, .gen, .loc, .loc, .loc, .loc] (.take 0 (.take 1 (.take 2 (.take 3 (.take 4 (.take 5 (.take 6 (.take 7 (.take 8 (.take 9 (.take 10 (.take 11 (.take 12 (.take 13 (.take 14 .done))))))))))))))) rfl ?_
    refine GP.take rfl rfl (Does.move rfl ?_)
    refine GP.take rfl rfl (Does.fieldAddr rfl fo38_2 ?_)
    refine GP.take rfl rfl (Does.load1 rfl ft34 (CellIn.own (by first | exact .head _ | exact .tail _ (.head _) | exact .tail _ (.tail _ (.head _)) | exact .tail _ (.tail _ (.tail _ (.head _))) | exact .tail _ (.tail _ (.tail _ (.tail _ (.head _)))) | exact .tail _ (.tail _ (.tail _ (.tail _ (.tail _ (.head _)))))) rfl) ?_)
    refine GP.take rfl rfl (Does.callN (.cons rfl (.cons rfl .nil)) cb29 (sames_ct t.l t.l (some ⟨fb, 0, none⟩) t.ad fcap t.cap fb 0 t.b t.o (fun _ => rfl) htad (by omega)) (fun w hs => ⟨fun i u hi => RowIn.own (o := 0) (vs := t.l.flatMap enc1) (l := (t.l ++ [((-1 : Int), (-7 : Int))]).flatMap enc1 ++ sp) (.head _) (by simp [List.flatMap_append]) w hs i u hi, fun i u hi => by
        have hne : t.l ≠ [] := by rintro h0; rw [h0] at hi; simp at hi
        exact RowIn.old (vs := t.l.flatMap enc1) (C := []) (by simpa using htb hne) (fun i v h => hpre i v h) w (hs.sub .nil) i u hi⟩) ?_)
    rintro _ _ ⟨rfl, rfl⟩
    simp only [List.append_nil, decide_true]
    refine GP.take rfl rfl (Does.move rfl ?_)
    refine GP.takeG rfl rfl rfl rfl (Does.move rfl ?_)
    refine GP.takeG rfl rfl rfl rfl (Does.fieldAddr rfl fo38_2 ?_)
    refine GP.takeG rfl rfl rfl rfl (Does.load1 rfl ft34 (CellIn.own (by first | exact .head _ | exact .tail _ (.head _) | exact .tail _ (.tail _ (.head _)) | exact .tail _ (.tail _ (.tail _ (.head _))) | exact .tail _ (.tail _ (.tail _ (.tail _ (.head _)))) | exact .tail _ (.tail _ (.tail _ (.tail _ (.tail _ (.head _)))))) rfl) ?_)
    refine GP.takeG rfl rfl rfl rfl (Does.len rfl is34 ?_)
    refine GP.takeG rfl rfl rfl rfl (Does.indexAddr t.l.length rfl rfl sl34 rfl (by omega) ?_)
    refine GP.takeG rfl rfl rfl rfl (Does.loadA (vs := [.int .i64 (-1), .int .i64 (-7)]) rfl ag31 (RowIn.own (l := (t.l ++ [((-1 : Int), (-7 : Int))]).flatMap enc1 ++ sp) (.head _) (by have := flat_row enc1 2 enc1_length (t.l ++ [((-1 : Int), (-7 : Int))]) sp t.l.length (by simp); simpa using this)) ?_)
    refine GP.takeG rfl rfl rfl rfl (Does.build (r := [_, _]) (.cons rfl (.cons rfl .nil)) sp31 zl31 rfl ?_)
    refine GP.takeG rfl rfl rfl rfl (Does.eqlA (t := true) rfl rfl gd31 (fun w => eq31 (-1, -7) (-1, -7) w) (by decide) ?_)
    refine GP.take rfl rfl (Does.pickT rfl rfl ?_)
    refine GP.take rfl rfl (Does.assign rfl ?_)
    refine GP.keep [(0, _), (1, _), (6, _), (11, _), (12, _), (13, _)] (.cons rfl (.cons rfl (.cons rfl (.cons rfl (.cons rfl (.cons rfl .nil)))))) ?_
    repeat refine G.seq ?_
    refine G.region [.loc, .loc, .loc] (.take 0 (.take 1 (.take 2 .done))) rfl ?_
    refine GP.take rfl rfl (Does.move rfl ?_)
    refine GP.take rfl rfl (Does.len rfl is34 ?_)
    refine GP.take rfl rfl (Does.move rfl ?_)
    refine GP.keep [(1, _), (6, _), (11, _), (13, _), (63, _), (64, _)] (.cons rfl (.cons rfl (.cons rfl (.cons rfl (.cons rfl (.cons rfl .nil)))))) ?_
    repeat refine G.seq ?_
    refine G.block ?_
    refine G.loop (S := List (Int × Int) × Nat) (fun s => [(1, .slice ad l.length cap), (6, .pointer (some ⟨b6, 0, none⟩)), (11, .slice (some ⟨fb, 0, none⟩) (t.l.length + 1) fcap), (13, .bool true), (63, .int .i64 ((t.l.length + 1 : Nat) : Int)), (64, .int .i64 (s.2 : Int))]) (fun s => (fb, cel 31 (s.1.flatMap enc1 ++ sp)) :: (b6, cel 38 [.int .i64 t.kind, .int .i64 t.which, .slice t.ad t.l.length t.cap]) :: (Cl ++ C1))
      (fun s => s.1.length = t.l.length + 1 ∧ s.2 ≤ t.l.length + 1) (fun s => t.l.length + 1 - s.2) (t.l ++ [((-1 : Int), (-7 : Int))], 0) ⟨hfl, Nat.zero_le _⟩ (.cons rfl (.cons rfl (.cons rfl (.cons rfl (.cons rfl (.cons rfl .nil)))))) .all ?_
    rintro ⟨q, k⟩ ⟨hq, hkk⟩ IH
    simp only at hq hkk IH ⊢
    repeat refine G.seq ?_
    refine G.region [.loc] (.take 0 .done) rfl ?_
    refine GP.take rfl rfl (Does.lss rfl rfl rfl ?_)
    refine GP.keep [(1, _), (6, _), (11, _), (13, _), (63, _), (64, _), (65, _)] (.cons rfl (.cons rfl (.cons rfl (.cons rfl (.cons rfl (.cons rfl (.cons rfl .nil))))))) ?_
    repeat refine G.seq ?_
    refine G.cond rfl ?_ ?_
    case refine_2 =>
      intro hz
      refine G.exit rfl ?_
      repeat refine G.seq ?_
      refine G.region [.loc] (.take 0 .done) rfl ?_
      refine GP.take rfl rfl (Does.assign rfl ?_)
      refine GP.keep [(1, _), (6, _), (13, _), (15, _)] (.cons rfl (.cons rfl (.cons rfl (.cons rfl .nil)))) ?_
      repeat refine G.seq ?_
      refine G.region [.loc, .loc, .gen, .loc] (.take 0 (.take 1 (.take 2 (.take 3 .done)))) rfl ?_
      refine GP.take rfl rfl (Does.move rfl ?_)
      refine GP.take rfl rfl (Does.move rfl ?_)
      refine GP.take rfl rfl (Does.appendT rfl (l := []) (xs := l) (ad2 := ad) (mc := cap) [] [] ((fb, cel 31 (q.flatMap enc1 ++ sp)) :: (b6, cel 38 [.int .i64 t.kind, .int .i64 t.which, .slice t.ad t.l.length t.cap]) :: (Cl ++ C1)) rfl rfl rfl LRep.nil (fun hne => ⟨lb, 0, had hne, hrow _ [_, _] C1⟩) (by simp; omega) ?_)
      intro sv3 F3 h3
      simp only [List.nil_append] at h3 ⊢
      refine GP.take rfl rfl (Does.assign rfl ?_)
      refine GP.keep [(1, _), (6, _), (13, _), (15, _)] (.cons rfl (.cons rfl (.cons rfl (.cons rfl .nil)))) ?_
      repeat refine G.seq ?_
      refine G.region [.loc, .loc, .gen, .gen, .loc, .loc, .loc] (.take 0 (.take 1 (.take 2 (.take 3 (.take 4 (.take 5 (.take 6 .done))))))) rfl ?_
      refine GP.take rfl rfl (Does.move rfl ?_)
      refine GP.take rfl rfl (Does.fieldAddr rfl fo38_2 ?_)
      refine GP.take rfl rfl (Does.load1 rfl ft34 (CellIn.own (List.mem_append_right _ (.tail _ (.head _))) rfl) ?_)
      refine GP.take rfl rfl (Does.appendT rfl (l := l) (xs := t.l) (ad2 := t.ad) (mc := t.cap) [] F3 ((fb, cel 31 (q.flatMap enc1 ++ sp)) :: (b6, cel 38 [.int .i64 t.kind, .int .i64 t.which, .slice t.ad t.l.length t.cap]) :: (Cl ++ C1)) rfl rfl rfl h3 (fun hne => ⟨t.b, t.o, htad hne, RowIn.old (by simpa using htb hne) (fun i v h => hpre i v h)⟩) (by omega) ?_)
      intro sv4 F4 h4
      simp only [List.nil_append] at h4 ⊢
      refine GP.take rfl rfl (Does.move rfl ?_)
      refine GP.take rfl rfl (Does.assign rfl ?_)
      refine GP.take rfl rfl (Does.assign rfl ?_)
      refine GP.keep [(8, _), (9, _)] (.cons rfl (.cons rfl .nil)) ?_
      refine G.subP ((fb, cel 31 (q.flatMap enc1 ++ sp)) :: (b6, cel 38 [.int .i64 t.kind, .int .i64 t.which, .slice t.ad t.l.length t.cap]) :: Cl) (A := F4 ++ C1) (by classical exact List.perm_iff_count.2 fun q => by simp only [enc1, List.count_append, List.count_cons, List.count_nil]; omega) ?_
      exact fin_ret (fn := Try.f16) (R := []) Try.func16 (res2 rfl rfl rfl) .all ⟨l ++ t.l, sv4, F4, _, _, C1, rfl, h4, ⟨hrep1, pushF_hd L _ hhd _, by rw [(pushF_length cmp t.l items came).2]; exact hcom.push cmp t.l⟩, rfl, by simp only [List.length_append]; omega, by rw [(pushF_length cmp t.l items came).2]; omega, fun e => absurd (hk.symm.trans e) (by decide)⟩
    intro hz
    refine G.skip ?_
    repeat refine G.seq ?_
    refine G.block ?_
    repeat refine G.seq ?_
    refine G.region [.loc, .loc] (.take 0 (.take 1 .done)) rfl ?_
    refine GP.take rfl rfl (Does.move rfl ?_)
    refine GP.take rfl rfl (Does.assign rfl ?_)
    refine GP.keep [(1, _), (6, _), (11, _), (13, _), (14, _), (63, _), (64, _)] (.cons rfl (.cons rfl (.cons rfl (.cons rfl (.cons rfl (.cons rfl (.cons rfl .nil))))))) ?_
    repeat refine G.seq ?_
    refine G.region [.loc, .loc, .loc, .loc, .gen] (.take 0 (.take 1 (.take 2 (.take 3 (.take 4 .done))))) rfl ?_
    refine GP.take rfl rfl (Does.move rfl ?_)
    refine GP.take rfl rfl (Does.move rfl ?_)
    refine GP.take rfl rfl (Does.build (r := [_, _]) (.cons rfl (.cons rfl .nil)) sp31 zl31 rfl ?_)
    refine GP.take rfl rfl (Does.indexAddr k rfl rfl sl34 rfl (by omega) ?_)
    refine GP.take0 rfl (Does.storeA rfl rfl sz31 .head (flat_set enc1 2 enc1_length enc1_one q sp k (by omega) (99, -8)) ?_)
    refine GP.keep [(1, _), (6, _), (11, _), (13, _), (63, _), (64, _)] (.cons rfl (.cons rfl (.cons rfl (.cons rfl (.cons rfl (.cons rfl .nil)))))) ?_
    refine G.inBlock ?_
    repeat refine G.seq ?_
    refine G.region [.loc, .loc] (.take 0 (.take 1 .done)) rfl ?_
    refine GP.take rfl rfl (Does.add rfl rfl (r := ((k + 1 : Nat) : Int)) (wrc_i64 (by omega) (by omega) (by omega)) ?_)
    refine GP.take rfl rfl (Does.move rfl ?_)
    refine GP.keep [(1, _), (6, _), (11, _), (13, _), (63, _), (64, _)] (.cons rfl (.cons rfl (.cons rfl (.cons rfl (.cons rfl (.cons rfl .nil)))))) ?_
    exact IH (q.set k (99, -8), k + 1) ⟨by simpa using hq, by simp only; omega⟩ (by simp only; omega)
  intro hk1
  repeat refine G.seq ?_
  refine G.region [.loc, .loc] (.take 0 (.take 1 .done)) rfl ?_
  refine GP.take rfl rfl (Does.eql rfl rfl rfl ?_)
  refine GP.take rfl rfl (Does.assign rfl ?_)
  refine GP.keep [(0, _), (1, _), (3, _), (6, _), (10, _), (29, _), (80, _)] (.cons rfl (.cons rfl (.cons rfl (.cons rfl (.cons rfl (.cons rfl (.cons rfl .nil))))))) ?_
  repeat refine G.seq ?_
  refine G.cond rfl ?_ ?_
  · intro hk
    repeat refine G.seq ?_
    refine G.region [.loc, .gen, .loc, .loc, .loc, .alloc, .gen, .loc] (.take 0 (.take 1 (.take 2 (.take 3 (.take 4 (.take 5 (.take 6 (.take 7 .done)))))))) rfl ?_
    refine GP.take rfl rfl (Does.move rfl ?_)
    refine GP.take rfl rfl (Does.callP ((b6, cel 38 [.int .i64 t.kind, .int .i64 t.which, .slice t.ad t.l.length t.cap]) :: Cl) C0 (.cons rfl .nil) cb21 (by classical exact List.perm_iff_count.2 fun q => by simp only [enc1, List.count_append, List.count_cons, List.count_nil]; omega) (peek1 hb items came C0 hrep) (fun _ _ => trivial) ?_)
    rintro _ C9 ⟨rfl, hC9⟩
    obtain rfl := hC9.symm
    refine ⟨(b6, cel 38 [.int .i64 t.kind, .int .i64 t.which, .slice t.ad t.l.length t.cap]) :: (Cl ++ C0), (by classical exact List.perm_iff_count.2 fun q => by simp only [enc1, List.count_append, List.count_cons, List.count_nil]; omega), ?_⟩
    refine GP.take rfl rfl (Does.move rfl ?_)
    refine GP.take rfl rfl (Does.extract rfl rfl ?_)
    refine GP.take rfl rfl (Does.extract rfl rfl ?_)
    refine GP.take rfl rfl (Does.alloc zl31 fun b16 Nb16 hb16 nb16 => ?_)
    refine GP.take0 rfl (Does.storeA rfl rfl sz31 (by first | exact .head | exact .tail .head | exact .tail (.tail .head) | exact .tail (.tail (.tail .head)) | exact .tail (.tail (.tail (.tail .head))) | exact .tail (.tail (.tail (.tail (.tail .head))))) (.cons rfl .head (.cons rfl (.tail .head) .nil)) ?_)
    refine GP.take rfl rfl (Does.assign rfl ?_)
    refine GP.keep [(0, _), (1, _), (3, _), (6, _), (16, _), (17, _)] (.cons rfl (.cons rfl (.cons rfl (.cons rfl (.cons rfl (.cons rfl .nil)))))) ?_
    repeat refine G.seq ?_
    refine G.region [.loc, .gen, .loc, .loc, .loc, .gen, .loc, .loc] (.take 0 (.take 1 (.take 2 (.take 3 (.take 4 (.take 5 (.take 6 (.take 7 .done)))))))) rfl ?_
    refine GP.take rfl rfl (Does.move rfl ?_)
    refine GP.take rfl rfl (Does.loadA (vs := enc1 (firstF items)) rfl ag31 (RowIn.own (by first | exact .head _ | exact .tail _ (.head _) | exact .tail _ (.tail _ (.head _)) | exact .tail _ (.tail _ (.tail _ (.head _))) | exact .tail _ (.tail _ (.tail _ (.tail _ (.head _)))) | exact .tail _ (.tail _ (.tail _ (.tail _ (.tail _ (.head _)))))) rfl) ?_)
    refine GP.take rfl rfl (Does.move rfl ?_)
    refine GP.take rfl rfl (Does.move rfl ?_)
    refine GP.take rfl rfl (Does.move rfl ?_)
    refine GP.take rfl rfl (Does.callN (.cons rfl (.cons rfl (.cons rfl (.cons rfl .nil)))) cb25 (took_ct (firstF items) (!items.isEmpty) l all ad cap lb 0 had (by omega)) (fun w hs i u hi => by have := hrow _ [_, _] (C0) w hs i u hi; simpa using this) ?_)
    rintro _ _ ⟨rfl, rfl⟩
    rw [htook]
    simp only [List.append_nil]
    refine GP.take rfl rfl (Does.assign rfl ?_)
    refine GP.take rfl rfl (Does.assign rfl ?_)
    refine GP.keep [(8, _), (9, _)] (.cons rfl (.cons rfl .nil)) ?_
    refine G.subP ((b16, cel 31 (enc1 (firstF items))) :: (b6, cel 38 [.int .i64 t.kind, .int .i64 t.which, .slice t.ad t.l.length t.cap]) :: []) (A := Cl ++ C0) (by classical exact List.perm_iff_count.2 fun q => by simp only [enc1, List.count_append, List.count_cons, List.count_nil]; omega) ?_
    exact fin_ret (fn := Try.f16) (R := []) Try.func16 (res2 rfl rfl rfl) .all ⟨l, _, Cl, items, came, C0, rfl, hl, ⟨hrep, hhd, hcom⟩, rfl, by omega, by omega, fun e => absurd (hk.symm.trans e) (by decide)⟩
  intro hk2
  repeat refine G.seq ?_
  refine G.region [.loc, .loc] (.take 0 (.take 1 .done)) rfl ?_
  refine GP.take rfl rfl (Does.eql rfl rfl rfl ?_)
  refine GP.take rfl rfl (Does.assign rfl ?_)
  refine GP.keep [(0, _), (1, _), (3, _), (6, _), (10, _), (29, _), (93, _)] (.cons rfl (.cons rfl (.cons rfl (.cons rfl (.cons rfl (.cons rfl (.cons rfl .nil))))))) ?_
  repeat refine G.seq ?_
  refine G.cond rfl ?_ ?_
  · intro hk
    repeat refine G.seq ?_
    refine G.region [.loc, .gen, .loc, .loc, .loc, .alloc, .gen, .loc] (.take 0 (.take 1 (.take 2 (.take 3 (.take 4 (.take 5 (.take 6 (.take 7 .done)))))))) rfl ?_
    refine GP.take rfl rfl (Does.move rfl ?_)
    refine GP.take rfl rfl (Does.callP ((b6, cel 38 [.int .i64 t.kind, .int .i64 t.which, .slice t.ad t.l.length t.cap]) :: Cl) (C0 ++ []) (.cons rfl .nil) cb17 (by classical exact List.perm_iff_count.2 fun q => by simp only [enc1, List.count_append, List.count_cons, List.count_nil]; omega) (pop1 hc hb items came C0 hrep 0 (by omega)) (fun _ _ => trivial) ?_)
    rintro _ _ ⟨rfl, C1, hrep1, rfl⟩
    refine ⟨(b6, cel 38 [.int .i64 t.kind, .int .i64 t.which, .slice t.ad t.l.length t.cap]) :: (Cl ++ C1), (by classical exact List.perm_iff_count.2 fun q => by simp only [enc1, List.count_append, List.count_cons, List.count_nil]; omega), ?_⟩
    refine GP.take rfl rfl (Does.move rfl ?_)
    refine GP.take rfl rfl (Does.extract rfl rfl ?_)
    refine GP.take rfl rfl (Does.extract rfl rfl ?_)
    refine GP.take rfl rfl (Does.alloc zl31 fun b18 Nb18 hb18 nb18 => ?_)
    refine GP.take0 rfl (Does.storeA rfl rfl sz31 (by first | exact .head | exact .tail .head | exact .tail (.tail .head) | exact .tail (.tail (.tail .head)) | exact .tail (.tail (.tail (.tail .head))) | exact .tail (.tail (.tail (.tail (.tail .head))))) (.cons rfl .head (.cons rfl (.tail .head) .nil)) ?_)
    refine GP.take rfl rfl (Does.assign rfl ?_)
    refine GP.keep [(0, _), (1, _), (3, _), (6, _), (10, _), (18, _), (19, _)] (.cons rfl (.cons rfl (.cons rfl (.cons rfl (.cons rfl (.cons rfl (.cons rfl .nil))))))) ?_
    repeat refine G.seq ?_
    refine G.region [.gen, .loc, .loc, .loc, .gen, .loc] (.take 0 (.take 1 (.take 2 (.take 3 (.take 4 (.take 5 .done)))))) rfl ?_
    refine GP.take rfl rfl (Does.loadA (vs := enc1 (firstF items)) rfl ag31 (RowIn.own (by first | exact .head _ | exact .tail _ (.head _) | exact .tail _ (.tail _ (.head _)) | exact .tail _ (.tail _ (.tail _ (.head _))) | exact .tail _ (.tail _ (.tail _ (.tail _ (.head _)))) | exact .tail _ (.tail _ (.tail _ (.tail _ (.tail _ (.head _)))))) rfl) ?_)
    refine GP.take rfl rfl (Does.move rfl ?_)
    refine GP.take rfl rfl (Does.move rfl ?_)
    refine GP.take rfl rfl (Does.move rfl ?_)
    refine GP.take rfl rfl (Does.callN (.cons rfl (.cons rfl (.cons rfl (.cons rfl .nil)))) cb25 (took_ct (firstF items) (!items.isEmpty) l all ad cap lb 0 had (by omega)) (fun w hs i u hi => by have := hrow _ [_, _] (C1) w hs i u hi; simpa using this) ?_)
    rintro _ _ ⟨rfl, rfl⟩
    rw [htook]
    simp only [List.append_nil]
    refine GP.take rfl rfl (Does.assign rfl ?_)
    refine GP.keep [(1, _), (10, _), (20, _)] (.cons rfl (.cons rfl (.cons rfl .nil))) ?_
    repeat refine G.seq ?_
    refine G.region [.loc, .loc] (.take 0 (.take 1 .done)) rfl ?_
    refine GP.take rfl rfl (Does.move rfl ?_)
    refine GP.take rfl rfl (Does.geq rfl rfl rfl ?_)
    refine GP.keep [(1, _), (10, _), (20, _), (106, _)] (.cons rfl (.cons rfl (.cons rfl (.cons rfl .nil)))) ?_
    repeat refine G.seq ?_
    by_cases hne : items = []
    · have hl0 : l = [] := List.eq_nil_of_length_eq_zero (by rw [← hlen, hne]; rfl)
      have hf : fstI all l l.length = none := by rw [hl0]; rfl
      rw [hf]
      refine G.condF rfl ?_
      refine G.skip ?_
      repeat refine G.seq ?_
      refine G.region [.loc, .loc, .loc, .loc] (.take 0 (.take 1 (.take 2 (.take 3 .done)))) rfl ?_
      refine GP.take rfl rfl (Does.move rfl ?_)
      refine GP.take rfl rfl (Does.move rfl ?_)
      refine GP.take rfl rfl (Does.assign rfl ?_)
      refine GP.take rfl rfl (Does.assign rfl ?_)
      refine GP.keep [(8, _), (9, _)] (.cons rfl (.cons rfl .nil)) ?_
      refine G.subP ((b18, cel 31 (enc1 (firstF items))) :: (b6, cel 38 [.int .i64 t.kind, .int .i64 t.which, .slice t.ad t.l.length t.cap]) :: []) (A := Cl ++ C1) (by classical exact List.perm_iff_count.2 fun q => by simp only [enc1, List.count_append, List.count_cons, List.count_nil]; omega) ?_
      exact fin_ret (fn := Try.f16) (R := []) Try.func16 (res2 rfl rfl rfl) .all ⟨l, _, Cl, _, came, C1, rfl, hl, ⟨hrep1, popF_hd L hhd, by rw [show (popF cmp items).1 = items by simp [popF, hne]]; exact hcom⟩, rfl, by omega, by omega, fun _ => by rw [hl0]; rfl⟩
    · obtain ⟨i, hfst, hli, hcom1⟩ := hcom.pop L hhd hne
      have hil : i < l.length := hfst.1
      have hf := fstI_of hall hfst
      rw [hf]
      have hnn : decide (plc (some i) ≥ 0) = true := decide_eq_true (by simp only [plc]; omega)
      have hlne : l ≠ [] := by rintro h0; rw [h0] at hil; simp at hil
      obtain rfl := had hlne
      refine G.condT (by rw [← hnn]; rfl) ?_
      repeat refine G.seq ?_
      refine G.region [.loc, .loc, .gen, .loc] (.take 0 (.take 1 (.take 2 (.take 3 .done)))) rfl ?_
      refine GP.take rfl rfl (Does.move rfl ?_)
      refine GP.take rfl rfl (Does.move rfl ?_)
      refine GP.take rfl rfl (Does.callN (.cons rfl (.cons rfl .nil)) cb27 (without_ct l i hil cap lb 0 hcap (by omega)) (fun w hs i u hi => by have := hrow _ [_, _] (C1) w hs i u hi; simpa using this) ?_)
      intro svw Cw hw
      refine GP.take rfl rfl (Does.assign rfl ?_)
      refine GP.keep [(1, _), (20, _)] (.cons rfl (.cons rfl .nil)) ?_
      repeat refine G.seq ?_
      refine G.region [.loc, .loc, .loc, .loc] (.take 0 (.take 1 (.take 2 (.take 3 .done)))) rfl ?_
      refine GP.take rfl rfl (Does.move rfl ?_)
      refine GP.take rfl rfl (Does.move rfl ?_)
      refine GP.take rfl rfl (Does.assign rfl ?_)
      refine GP.take rfl rfl (Does.assign rfl ?_)
      refine GP.keep [(8, _), (9, _)] (.cons rfl (.cons rfl .nil)) ?_
      refine G.subP ((b18, cel 31 (enc1 (firstF items))) :: (b6, cel 38 [.int .i64 t.kind, .int .i64 t.which, .slice t.ad t.l.length t.cap]) :: Cl) (A := Cw ++ C1) (by classical exact List.perm_iff_count.2 fun q => by simp only [enc1, List.count_append, List.count_cons, List.count_nil]; omega) ?_
      exact fin_ret (fn := Try.f16) (R := []) Try.func16 (res2 rfl rfl rfl) .all ⟨l.eraseIdx i, svw, Cw, _, came, C1, rfl, hw, ⟨hrep1, popF_hd L hhd, hcom1⟩, rfl, by rw [List.length_eraseIdx_of_lt hil]; omega, by omega, fun _ => by rw [List.length_eraseIdx_of_lt hil]⟩
  intro hk3
  repeat refine G.seq ?_
  refine G.region [.loc, .loc] (.take 0 (.take 1 .done)) rfl ?_
  refine GP.take rfl rfl (Does.eql rfl rfl rfl ?_)
  refine GP.take rfl rfl (Does.assign rfl ?_)
  refine GP.keep [(0, _), (1, _), (3, _), (6, _), (10, _), (29, _), (112, _)] (.cons rfl (.cons rfl (.cons rfl (.cons rfl (.cons rfl (.cons rfl (.cons rfl .nil))))))) ?_
  repeat refine G.seq ?_
  refine G.cond rfl ?_ ?_
  · intro hk
    repeat refine G.seq ?_
    refine G.region [.loc, .loc, .gen, .gen, .gen, .loc, .loc, .loc, .alloc, .gen, .loc] (.take 0 (.take 1 (.take 2 (.take 3 (.take 4 (.take 5 (.take 6 (.take 7 (.take 8 (.take 9 (.take 10 .done))))))))))) rfl ?_
    refine GP.take rfl rfl (Does.move rfl ?_)
    refine GP.take rfl rfl (Does.fieldAddr rfl fo38_2 ?_)
    refine GP.take rfl rfl (Does.load1 rfl ft34 (CellIn.own (by first | exact .head _ | exact .tail _ (.head _) | exact .tail _ (.tail _ (.head _)) | exact .tail _ (.tail _ (.tail _ (.head _))) | exact .tail _ (.tail _ (.tail _ (.tail _ (.head _)))) | exact .tail _ (.tail _ (.tail _ (.tail _ (.tail _ (.head _)))))) rfl) ?_)
    refine GP.take rfl rfl (Does.callN (.cons rfl .nil) cb23 (one_ct t.l t.ad t.cap t.b t.o htad) (fun w hs i u hi => by
        have hne : t.l ≠ [] := by rintro h0; rw [h0] at hi; simp at hi
        exact RowIn.old (vs := t.l.flatMap enc1) (C := []) (by simpa using htb hne) (fun i v h => hpre i v h) w (hs.sub .nil) i u hi) ?_)
    rintro _ _ ⟨rfl, rfl⟩
    simp only [List.append_nil]
    refine GP.take rfl rfl (Does.callP ((b6, cel 38 [.int .i64 t.kind, .int .i64 t.which, .slice t.ad t.l.length t.cap]) :: Cl) (C0 ++ []) (.cons rfl (.cons rfl .nil)) cb22 (by classical exact List.perm_iff_count.2 fun q => by simp only [enc1, List.count_append, List.count_cons, List.count_nil]; omega) (swap1 hc hb items came C0 hrep 0 (t.l.headD (0, 0)) (by omega) (by omega)) (fun _ _ => trivial) ?_)
    rintro _ _ ⟨rfl, C1, hrep1, rfl⟩
    refine ⟨(b6, cel 38 [.int .i64 t.kind, .int .i64 t.which, .slice t.ad t.l.length t.cap]) :: (Cl ++ C1), (by classical exact List.perm_iff_count.2 fun q => by simp only [enc1, List.count_append, List.count_cons, List.count_nil]; omega), ?_⟩
    refine GP.take rfl rfl (Does.move rfl ?_)
    refine GP.take rfl rfl (Does.extract rfl rfl ?_)
    refine GP.take rfl rfl (Does.extract rfl rfl ?_)
    refine GP.take rfl rfl (Does.alloc zl31 fun b21 Nb21 hb21 nb21 => ?_)
    refine GP.take0 rfl (Does.storeA rfl rfl sz31 (by first | exact .head | exact .tail .head | exact .tail (.tail .head) | exact .tail (.tail (.tail .head)) | exact .tail (.tail (.tail (.tail .head))) | exact .tail (.tail (.tail (.tail (.tail .head))))) (.cons rfl .head (.cons rfl (.tail .head) .nil)) ?_)
    refine GP.take rfl rfl (Does.assign rfl ?_)
    refine GP.keep [(0, _), (1, _), (3, _), (6, _), (10, _), (21, _), (22, _)] (.cons rfl (.cons rfl (.cons rfl (.cons rfl (.cons rfl (.cons rfl (.cons rfl .nil))))))) ?_
    repeat refine G.seq ?_
    refine G.region [.gen, .loc, .loc, .loc, .gen, .loc] (.take 0 (.take 1 (.take 2 (.take 3 (.take 4 (.take 5 .done)))))) rfl ?_
    refine GP.take rfl rfl (Does.loadA (vs := enc1 (firstF items)) rfl ag31 (RowIn.own (by first | exact .head _ | exact .tail _ (.head _) | exact .tail _ (.tail _ (.head _)) | exact .tail _ (.tail _ (.tail _ (.head _))) | exact .tail _ (.tail _ (.tail _ (.tail _ (.head _)))) | exact .tail _ (.tail _ (.tail _ (.tail _ (.tail _ (.head _)))))) rfl) ?_)
    refine GP.take rfl rfl (Does.move rfl ?_)
    refine GP.take rfl rfl (Does.move rfl ?_)
    refine GP.take rfl rfl (Does.move rfl ?_)
    refine GP.take rfl rfl (Does.callN (.cons rfl (.cons rfl (.cons rfl (.cons rfl .nil)))) cb25 (took_ct (firstF items) (!items.isEmpty) l all ad cap lb 0 had (by omega)) (fun w hs i u hi => by have := hrow _ [_, _] (C1) w hs i u hi; simpa using this) ?_)
    rintro _ _ ⟨rfl, rfl⟩
    rw [htook]
    simp only [List.append_nil]
    refine GP.take rfl rfl (Does.assign rfl ?_)
    refine GP.keep [(1, _), (6, _), (10, _), (23, _)] (.cons rfl (.cons rfl (.cons rfl (.cons rfl .nil)))) ?_
    repeat refine G.seq ?_
    refine G.region [.loc] (.take 0 .done) rfl ?_
    refine GP.take rfl rfl (Does.assign rfl ?_)
    refine GP.keep [(1, _), (6, _), (10, _), (23, _), (24, _)] (.cons rfl (.cons rfl (.cons rfl (.cons rfl (.cons rfl .nil))))) ?_
    repeat refine G.seq ?_
    refine G.region [.loc, .loc, .gen, .loc] (.take 0 (.take 1 (.take 2 (.take 3 .done)))) rfl ?_
    refine GP.take rfl rfl (Does.move rfl ?_)
    refine GP.take rfl rfl (Does.move rfl ?_)
    refine GP.take rfl rfl (Does.appendT rfl (l := []) (xs := l) (ad2 := ad) (mc := cap) [] [] ((b21, cel 31 (enc1 (firstF items))) :: (b6, cel 38 [.int .i64 t.kind, .int .i64 t.which, .slice t.ad t.l.length t.cap]) :: (Cl ++ C1)) rfl rfl rfl LRep.nil (fun hne => ⟨lb, 0, had hne, hrow _ [_, _] C1⟩) (by simp; omega) ?_)
    intro sv3 F3 h3
    simp only [List.nil_append] at h3 ⊢
    refine GP.take rfl rfl (Does.assign rfl ?_)
    refine GP.keep [(1, _), (6, _), (10, _), (23, _), (24, _)] (.cons rfl (.cons rfl (.cons rfl (.cons rfl (.cons rfl .nil))))) ?_
    repeat refine G.seq ?_
    refine G.region [.loc, .loc] (.take 0 (.take 1 .done)) rfl ?_
    refine GP.take rfl rfl (Does.move rfl ?_)
    refine GP.take rfl rfl (Does.geq rfl rfl rfl ?_)
    refine GP.keep [(1, _), (6, _), (10, _), (23, _), (24, _), (131, _)] (.cons rfl (.cons rfl (.cons rfl (.cons rfl (.cons rfl (.cons rfl .nil)))))) ?_
    repeat refine G.seq ?_
    by_cases hne : items = []
    · have hl0 : l = [] := List.eq_nil_of_length_eq_zero (by rw [← hlen, hne]; rfl)
      have hf : fstI all l l.length = none := by rw [hl0]; rfl
      rw [hf]
      have hsw : swapF cmp items came (t.l.headD (0, 0)) = pushF cmp items came [t.l.headD (0, 0)] := by simp [swapF, hne]
      rw [hsw] at hrep1
      refine G.condF rfl ?_
      refine G.skip ?_
      repeat refine G.seq ?_
      refine G.region [.loc, .loc, .gen, .gen, .alloc, .gen, .loc, .loc, .loc] (.take 0 (.take 1 (.take 2 (.take 3 (.take 4 (.take 5 (.take 6 (.take 7 (.take 8 .done))))))))) rfl ?_
      refine GP.take rfl rfl (Does.move rfl ?_)
      refine GP.take rfl rfl (Does.fieldAddr rfl fo38_2 ?_)
      refine GP.take rfl rfl (Does.load1 rfl ft34 (CellIn.own (List.mem_append_right _ (.tail _ (.head _))) rfl) ?_)
      refine GP.take rfl rfl (Does.callN (.cons rfl .nil) cb23 (one_ct t.l t.ad t.cap t.b t.o htad) (fun w hs i u hi => by
        have hne : t.l ≠ [] := by rintro h0; rw [h0] at hi; simp at hi
        exact RowIn.old (vs := t.l.flatMap enc1) (C := []) (by simpa using htb hne) (fun i v h => hpre i v h) w (hs.sub .nil) i u hi) ?_)
      rintro _ _ ⟨rfl, rfl⟩
      simp only [List.append_nil]
      refine GP.take rfl rfl (Does.buildSlice (r := [_, _]) (.cons rfl .nil) sl34 zl31 (by decide) rfl fun b139 N139 h139 n139 => ?_)
      refine GP.take rfl rfl (Does.appendT rfl (l := l) (xs := [(t.l.headD (0, 0))]) (mc := 1) [(b139, cel 31 (enc1 (t.l.headD (0, 0))))] F3 ((b21, cel 31 (enc1 (firstF items))) :: (b6, cel 38 [.int .i64 t.kind, .int .i64 t.which, .slice t.ad t.l.length t.cap]) :: (Cl ++ C1)) rfl rfl rfl h3 (fun _ => ⟨b139, 0, rfl, RowIn.own (.head _) rfl⟩) (by simp; omega) ?_)
      intro sv5 F5 h5
      refine GP.take rfl rfl (Does.move rfl ?_)
      refine GP.take rfl rfl (Does.assign rfl ?_)
      refine GP.take rfl rfl (Does.assign rfl ?_)
      refine GP.keep [(8, _), (9, _)] (.cons rfl (.cons rfl .nil)) ?_
      refine G.subP ((b139, cel 31 (enc1 (t.l.headD (0, 0)))) :: (b21, cel 31 (enc1 (firstF items))) :: (b6, cel 38 [.int .i64 t.kind, .int .i64 t.which, .slice t.ad t.l.length t.cap]) :: Cl) (A := F5 ++ C1) (by classical exact List.perm_iff_count.2 fun q => by simp only [enc1, List.count_append, List.count_cons, List.count_nil]; omega) ?_
      exact fin_ret (fn := Try.f16) (R := []) Try.func16 (res2 rfl rfl rfl) .all ⟨l ++ [t.l.headD (0, 0)], sv5, F5, _, _, C1, rfl, h5, ⟨hrep1, pushF_hd L _ hhd _, by rw [(pushF_length cmp [t.l.headD (0, 0)] items came).2]; exact hcom.push cmp _⟩, rfl, by simp, by rw [(pushF_length cmp [t.l.headD (0, 0)] items came).2]; simp, fun e => absurd (hk.symm.trans e) (by decide)⟩
    · obtain ⟨i, hfst, hli, hcom1⟩ := hcom.swap L hhd hne (t.l.headD (0, 0))
      have hil : i < l.length := hfst.1
      have hf := fstI_of hall hfst
      rw [hf]
      have hnn : decide (plc (some i) ≥ 0) = true := decide_eq_true (by simp only [plc]; omega)
      have hlne : l ≠ [] := by rintro h0; rw [h0] at hil; simp at hil
      obtain rfl := had hlne
      have hsl := swapF_length cmp items came (t.l.headD (0, 0))
      refine G.condT (by rw [← hnn]; rfl) ?_
      repeat refine G.seq ?_
      refine G.region [.loc, .loc, .gen, .loc] (.take 0 (.take 1 (.take 2 (.take 3 .done)))) rfl ?_
      refine GP.take rfl rfl (Does.move rfl ?_)
      refine GP.take rfl rfl (Does.move rfl ?_)
      refine GP.take rfl rfl (Does.callN (.cons rfl (.cons rfl .nil)) cb27 (without_ct l i hil cap lb 0 hcap (by omega)) (fun w hs j u hj => by have := hrow _ [_, _] C1 w (hs.sub (Split.tail F3 _)) j u hj; simpa using this) ?_)
      intro svw Cw hw
      simp only [List.append_assoc, List.cons_append]
      refine GP.take rfl rfl (Does.assign rfl ?_)
      refine GP.keep [(6, _), (23, _), (24, _)] (.cons rfl (.cons rfl (.cons rfl .nil))) ?_
      repeat refine G.seq ?_
      refine G.subP F3 (A := Cw ++ ((b21, cel 31 (enc1 (firstF items))) :: (b6, cel 38 [.int .i64 t.kind, .int .i64 t.which, .slice t.ad t.l.length t.cap]) :: (Cl ++ C1))) (by classical exact List.perm_iff_count.2 fun q => by simp only [enc1, List.count_append, List.count_cons, List.count_nil]; omega) ?_
      refine G.region [.loc, .loc, .gen, .gen, .alloc, .gen, .loc, .loc, .loc] (.take 0 (.take 1 (.take 2 (.take 3 (.take 4 (.take 5 (.take 6 (.take 7 (.take 8 .done))))))))) rfl ?_
      refine GP.take rfl rfl (Does.move rfl ?_)
      refine GP.take rfl rfl (Does.fieldAddr rfl fo38_2 ?_)
      refine GP.take rfl rfl (Does.load1 rfl ft34 (CellIn.own (List.mem_append_right _ (.tail _ (.head _))) rfl) ?_)
      refine GP.take rfl rfl (Does.callN (.cons rfl .nil) cb23 (one_ct t.l t.ad t.cap t.b t.o htad) (fun w hs i u hi => by
        have hne : t.l ≠ [] := by rintro h0; rw [h0] at hi; simp at hi
        exact RowIn.old (vs := t.l.flatMap enc1) (C := []) (by simpa using htb hne) (fun i v h => hpre i v h) w (hs.sub .nil) i u hi) ?_)
      rintro _ _ ⟨rfl, rfl⟩
      simp only [List.append_nil]
      refine GP.take rfl rfl (Does.buildSlice (r := [_, _]) (.cons rfl .nil) sl34 zl31 (by decide) rfl fun b139 N139 h139 n139 => ?_)
      refine GP.take rfl rfl (Does.appendT rfl (l := (l.eraseIdx i)) (xs := [(t.l.headD (0, 0))]) (mc := 1) [(b139, cel 31 (enc1 (t.l.headD (0, 0))))] Cw ((b21, cel 31 (enc1 (firstF items))) :: (b6, cel 38 [.int .i64 t.kind, .int .i64 t.which, .slice t.ad t.l.length t.cap]) :: (Cl ++ C1)) rfl rfl rfl hw (fun _ => ⟨b139, 0, rfl, RowIn.own (.head _) rfl⟩) (by rw [List.length_eraseIdx_of_lt hil]; simp; omega) ?_)
      intro sv5 F5 h5
      refine GP.take rfl rfl (Does.move rfl ?_)
      refine GP.take rfl rfl (Does.assign rfl ?_)
      refine GP.take rfl rfl (Does.assign rfl ?_)
      refine GP.keep [(8, _), (9, _)] (.cons rfl (.cons rfl .nil)) ?_
      refine G.subP ((b139, cel 31 (enc1 (t.l.headD (0, 0)))) :: (b21, cel 31 (enc1 (firstF items))) :: (b6, cel 38 [.int .i64 t.kind, .int .i64 t.which, .slice t.ad t.l.length t.cap]) :: Cl) (A := F5 ++ C1) (by classical exact List.perm_iff_count.2 fun q => by simp only [enc1, List.count_append, List.count_cons, List.count_nil]; omega) ?_
      exact fin_ret (fn := Try.f16) (R := []) Try.func16 (res2 rfl rfl rfl) .all ⟨l.eraseIdx i ++ [t.l.headD (0, 0)], sv5, F5, _, _, C1, rfl, h5, ⟨hrep1, swapF_hd L hhd _ _, by rw [hsl.2]; exact hcom1⟩, rfl, by rw [List.length_append, List.length_eraseIdx_of_lt hil]; simp; omega, by rw [hsl.2]; omega, fun e => absurd (hk.symm.trans e) (by decide)⟩
  intro hk4
  repeat refine G.seq ?_
  refine G.region [.loc, .loc] (.take 0 (.take 1 .done)) rfl ?_
  refine GP.take rfl rfl (Does.eql rfl rfl rfl ?_)
  refine GP.take rfl rfl (Does.assign rfl ?_)
  refine GP.keep [(0, _), (1, _), (3, _), (6, _), (10, _), (29, _), (142, _)] (.cons rfl (.cons rfl (.cons rfl (.cons rfl (.cons rfl (.cons rfl (.cons rfl .nil))))))) ?_
  repeat refine G.seq ?_
  refine G.cond rfl ?_ ?_
  · intro hk
    repeat refine G.seq ?_
    refine G.region [.loc, .loc, .gen, .loc, .loc, .loc, .loc, .loc] (.take 0 (.take 1 (.take 2 (.take 3 (.take 4 (.take 5 (.take 6 (.take 7 .done)))))))) rfl ?_
    refine GP.take rfl rfl (Does.move rfl ?_)
    refine GP.take rfl rfl (Does.move rfl ?_)
    refine GP.take rfl rfl (Does.callP ((b6, cel 38 [.int .i64 t.kind, .int .i64 t.which, .slice t.ad t.l.length t.cap]) :: Cl) C0 (.cons rfl .nil) cb15 (by classical exact List.perm_iff_count.2 fun q => by simp only [enc1, List.count_append, List.count_cons, List.count_nil]; omega) (len1 hb items came C0 hrep) (fun _ _ => trivial) ?_)
    rintro _ C9 ⟨rfl, hC9⟩
    obtain rfl := hC9.symm
    refine ⟨(b6, cel 38 [.int .i64 t.kind, .int .i64 t.which, .slice t.ad t.l.length t.cap]) :: (Cl ++ C0), (by classical exact List.perm_iff_count.2 fun q => by simp only [enc1, List.count_append, List.count_cons, List.count_nil]; omega), ?_⟩
    refine GP.take rfl rfl (Does.move rfl ?_)
    refine GP.take rfl rfl (Does.len rfl is34 ?_)
    refine GP.take rfl rfl (Does.eql rfl rfl (show decide ((items.length : Int) = (l.length : Int)) = true by rw [hlen]; simp) ?_)
    refine GP.take rfl rfl (Does.assign rfl ?_)
    refine GP.take rfl rfl (Does.assign rfl ?_)
    refine GP.keep [(8, _), (9, _)] (.cons rfl (.cons rfl .nil)) ?_
    refine G.subP ((b6, cel 38 [.int .i64 t.kind, .int .i64 t.which, .slice t.ad t.l.length t.cap]) :: []) (A := Cl ++ C0) (by classical exact List.perm_iff_count.2 fun q => by simp only [enc1, List.count_append, List.count_cons, List.count_nil]; omega) ?_
    exact fin_ret (fn := Try.f16) (R := []) Try.func16 (res2 rfl rfl rfl) .all ⟨l, _, Cl, items, came, C0, rfl, hl, ⟨hrep, hhd, hcom⟩, rfl, by omega, by omega, fun e => absurd (hk.symm.trans e) (by decide)⟩
  intro hk5
  refine G.skip ?_
  refine G.inBlock ?_
  repeat refine G.seq ?_
  refine G.region [.loc, .loc, .loc] (.take 0 (.take 1 (.take 2 .done))) rfl ?_
  refine GP.take rfl rfl (Does.move rfl ?_)
  refine GP.take rfl rfl (Does.assign rfl ?_)
  refine GP.take rfl rfl (Does.assign rfl ?_)
  refine GP.keep [(8, _), (9, _)] (.cons rfl (.cons rfl .nil)) ?_
  refine G.subP ((b6, cel 38 [.int .i64 t.kind, .int .i64 t.which, .slice t.ad t.l.length t.cap]) :: []) (A := Cl ++ C0) (by classical exact List.perm_iff_count.2 fun q => by simp only [enc1, List.count_append, List.count_cons, List.count_nil]; omega) ?_
  exact fin_ret (fn := Try.f16) (R := []) Try.func16 (res2 rfl rfl rfl) .all ⟨l, _, Cl, items, came, C0, rfl, hl, ⟨hrep, hhd, hcom⟩, rfl, by omega, by omega, fun e => absurd e hk3⟩
end Go.Proofs.Ytcgenmfnlocbbaa.T
