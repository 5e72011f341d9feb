/- Drain, what it gives, and Sort, walked. Nothing is claimed of a law here. -/
import Derived.Test.YtcgenmfnlocbbaaH4
import Derived.Test.YtcgenmfnlocbbaaH5
import Derived.Test.YtcgenmfnlocbbaaL8
namespace Go.Proofs.Ytcgenmfnlocbbaa.T
open Go.Lg Go.Hp
theorem cb43 : callable Try.prog 43 = true := by kernel_rfl
theorem ft28 : flatT Try.prog 28 = true := by kernel_rfl
theorem ft34 : flatT Try.prog 34 = true := by kernel_rfl
theorem sz34 : sizeT Try.prog 34 = some 1 := by kernel_rfl
theorem zl34 : zeroL Try.prog 34 = some [.slice none 0 0] := by kernel_rfl
theorem drain_ct (hb : Nat) : Ct Try.prog 24 [.pointer (some ⟨hb, 0, none⟩)].toArray (fun _ => True) [] (fun v C' => ∃ bx, v = .func (.func 43) #[] #[.pointer (some ⟨bx, 0, none⟩)] ∧ C' = [(bx, cel 28 [.pointer (some ⟨hb, 0, none⟩)])]) := by
  refine ct_of_walk (fn := Try.f24) Try.func24 rfl rfl fun w0 hpre hst => ?_
  clear hst
  repeat refine G.seq ?_
  refine G.region [.alloc, .loc] (.take 0 (.take 1 .done)) rfl ?_
  refine GP.take rfl rfl (Does.box (T := 28) rfl rfl fun b1 Nb1 hb1 nb1 => ?_)
  refine GP.take rfl rfl (Does.assign rfl ?_)
  refine GP.keep [(0, _), (1, _), (2, _)] (.cons rfl (.cons rfl (.cons rfl .nil))) ?_
  repeat refine G.seq ?_
  refine G.region [.loc, .loc] (.take 0 (.take 1 .done)) rfl ?_
  refine GP.take rfl rfl (Does.makeFunc .nil (.cons rfl .nil) ?_)
  refine GP.take rfl rfl (Does.assign rfl ?_)
  refine GP.keep [(0, _), (1, _), (2, _)] (.cons rfl (.cons rfl (.cons rfl .nil))) ?_
  exact fin_ret (fn := Try.f24) (R := []) Try.func24 (res1 rfl rfl) .all ⟨_, rfl, rfl⟩
/-- THE DRAIN, whatever the loop's body does: S: the states between two rounds. -/
theorem drain1_ct {g : FuncId} {fs cs : Array Value} {E : Nat → Chunks} {cmp : Int × Int → Int × Int → Int} (hc : CmpOk Try.prog g fs cs E enc1 cmp) (hb bx l : Nat) {S : Type} (it : S → List ((Int × Int) × Nat)) (cm : S → Nat) (C0 : S → Chunks) (cn : S → Nat) (CB : S → Chunks) (Φ Ψ : S → Prop) (μ : S → Nat) {preD preY : World → Prop} {lim : Nat} (s0 : S)
    (hrep : ∀ s, Φ s → HRep 71 73 row1 3 hb (.func (.func g) fs cs) (it s) (cm s) (C0 s)) (hbig : ∀ s, Φ s → (it s).length ≤ 4294967296)
    (hy : ∀ s, Φ s → it s ≠ [] → ∀ C1, HRep 71 73 row1 3 hb (.func (.func g) fs cs) (popF cmp (it s)).1 (cm s) C1 → (∀ c ∈ C1, lim ≤ c.1) →
      Yt Try.prog l [.agg (enc1 (firstF (it s))).toArray] preY (C1 ++ (E (cn s + (popF cmp (it s)).2) ++ CB s)) (fun r C' => ∃ s' b, r = .bool b ∧ C' = C0 s' ++ (E (cn s') ++ CB s') ∧ (b = true → Φ s' ∧ μ s' < μ s) ∧ (b = false → Ψ s')))
    (h0 : Φ s0) (hpre : ∀ w1 w C', preD w1 → St w1 (((bx, cel 28 [Value.pointer (some ⟨hb, 0, none⟩)]) :: (C0 s0 ++ (E (cn s0) ++ CB s0))).map Prod.fst) C' w → preY w)
    (hlim : ∀ w, preD w → lim ≤ w.heap.size) (hfr0 : ∀ c ∈ (bx, cel 28 [Value.pointer (some ⟨hb, 0, none⟩)]) :: (C0 s0 ++ (E (cn s0) ++ CB s0)), lim ≤ c.1) :
    Ct Try.prog 43 [.func (.yield l) #[] #[], .pointer (some ⟨bx, 0, none⟩)].toArray preD ((bx, cel 28 [.pointer (some ⟨hb, 0, none⟩)]) :: (C0 s0 ++ (E (cn s0) ++ CB s0)))
      (fun v C' => v = .tuple #[] ∧ ∃ s, (Φ s ∧ it s = [] ∧ ∃ C1, HRep 71 73 row1 3 hb (.func (.func g) fs cs) [] (cm s) C1 ∧ C' = (bx, cel 28 [.pointer (some ⟨hb, 0, none⟩)]) :: (C1 ++ (E (cn s) ++ CB s))) ∨ (Ψ s ∧ C' = (bx, cel 28 [.pointer (some ⟨hb, 0, none⟩)]) :: (C0 s ++ (E (cn s) ++ CB s)))) := by
  refine ct_of_walk (fn := Try.f43) Try.func43 rfl rfl fun w0 hpd hst => ?_
  have hpre' := fun w C' => hpre w0 w C' hpd
  have hlm := hlim w0 hpd
  clear hst hpre
  repeat refine G.seq ?_
  refine G.block ?_
  refine G.loop (S := S) (fun s => [(0, .func (.yield l) #[] #[]), (1, .pointer (some ⟨bx, 0, none⟩))]) (fun s => (bx, cel 28 [.pointer (some ⟨hb, 0, none⟩)]) :: (C0 s ++ (E (cn s) ++ CB s))) Φ μ s0 h0 (.cons rfl (.cons rfl .nil)) .all ?_
  intro s hs IH
  have hr := hrep s hs
  have hbg := hbig s hs
  have hy1 := hy s hs
  repeat refine G.seq ?_
  refine G.block ?_
  repeat refine G.seq ?_
  refine G.region [.gen, .gen, .loc, .loc, .loc, .alloc, .gen, .loc] (.take 0 (.take 1 (.take 2 (.take 3 (.take 4 (.take 5 (.take 6 (.take 7 .done)))))))) rfl ?_
  refine GP.take rfl rfl (Does.load1 rfl ft28 (CellIn.own (.head _) rfl) ?_)
  refine GP.take rfl rfl (Does.callP ((bx, cel 28 [.pointer (some ⟨hb, 0, none⟩)]) :: CB s) (C0 s ++ E (cn s)) (.cons rfl .nil) cb17 (by classical exact List.perm_iff_count.2 fun q => by simp only [enc1, List.append_eq, List.nil_append, List.cons_append, List.count_append, List.count_cons, List.count_nil] <;> omega) (pop1 hc hb (it s) (cm s) (C0 s) hr (cn s) hbg) (fun _ _ => trivial) ?_)
  rintro _ _ ⟨rfl, C1, hrep1, rfl⟩
  refine ⟨(bx, cel 28 [.pointer (some ⟨hb, 0, none⟩)]) :: (C1 ++ (E (cn s + (popF cmp (it s)).2) ++ CB s)), (by classical exact List.perm_iff_count.2 fun q => by simp only [enc1, List.append_eq, List.nil_append, List.cons_append, List.count_append, List.count_cons, List.count_nil] <;> omega), ?_⟩
  refine GP.take rfl rfl (Does.move rfl ?_)
  refine GP.take rfl rfl (Does.extract rfl rfl ?_)
  refine GP.take rfl rfl (Does.extract rfl rfl ?_)
  refine GP.take rfl rfl (Does.alloc zl31 fun b3 Nb3 hb3 nb3 => ?_)
  refine GP.take0 rfl (Does.storeA rfl rfl sz31 (by first | exact .head | exact .tail .head | exact .tail (.tail .head) | exact .tail (.tail (.tail .head)) | exact .tail (.tail (.tail (.tail .head))) | exact .tail (.tail (.tail (.tail (.tail .head))))) (.cons rfl .head (.cons rfl (.tail .head) .nil)) ?_)
  refine GP.take rfl rfl (Does.assign rfl ?_)
  refine GP.keep [(0, _), (1, _), (3, _), (4, _)] (.cons rfl (.cons rfl (.cons rfl (.cons rfl .nil)))) ?_
  repeat refine G.seq ?_
  by_cases hne : it s = []
  · have hemp : (!(it s).isEmpty) = false := by rw [hne]; rfl
    rw [hemp]
    refine G.region [.loc, .loc, .loc, .loc, .gen, .gen, .loc, .loc] (.take 0 (.take 1 (.take 2 (.take 3 (.take 4 (.take 5 (.take 6 (.take 7 .done)))))))) rfl ?_
    refine GP.take rfl rfl (Does.move rfl ?_)
    refine GP.take rfl rfl (Does.not rfl rfl ?_)
    refine GP.take rfl rfl (Does.move rfl ?_)
    refine GP.pass rfl rfl rfl rfl rfl ?_
    refine GP.pass rfl rfl rfl rfl rfl ?_
    refine GP.pass rfl rfl rfl rfl rfl ?_
    refine GP.pass rfl rfl rfl rfl rfl ?_
    refine GP.take rfl rfl (Does.pickT rfl rfl ?_)
    refine GP.keep [(17, _)] (.cons rfl .nil) ?_
    repeat refine G.seq ?_
    refine G.condT rfl ?_
    have hp0 : (popF cmp (it s)).1 = [] ∧ (popF cmp (it s)).2 = 0 := by rw [hne]; exact ⟨rfl, rfl⟩
    rw [hp0.1] at hrep1
    rw [hp0.2, Nat.add_zero]
    exact fin_ret (fn := Try.f43) Try.func43 (res0 rfl) .split1 ⟨rfl, s, .inl ⟨hs, hne, C1, hrep1, rfl⟩⟩
  · have hemp : (!(it s).isEmpty) = true := by simpa using hne
    rw [hemp]
    refine G.fact (p := ∀ c ∈ C1, lim ≤ c.1) (fun w hst c hc => ?_) fun hC1 => ?_
    · rcases hst.new c (by simp only [List.mem_append, List.mem_cons]; simp [hc]) with h1 | h1
      · obtain ⟨x, hx, he⟩ := List.mem_map.1 h1
        exact he ▸ hfr0 x hx
      · exact Nat.le_trans hlm h1
    refine G.region [.loc, .loc, .loc, .loc, .gen, .gen, .loc, .loc] (.take 0 (.take 1 (.take 2 (.take 3 (.take 4 (.take 5 (.take 6 (.take 7 .done)))))))) rfl ?_
    refine GP.take rfl rfl (Does.move rfl ?_)
    refine GP.take rfl rfl (Does.not rfl rfl ?_)
    refine GP.take rfl rfl (Does.move rfl ?_)
    refine GP.takeG rfl rfl rfl rfl (Does.move rfl ?_)
    refine GP.takeG rfl rfl rfl rfl (Does.loadA (vs := enc1 (firstF (it s))) rfl ag31 (RowIn.own (.head _) rfl) ?_)
    refine GP.takeG rfl rfl rfl rfl (Does.yield [(b3, cel 31 (enc1 (firstF (it s)))), (bx, cel 28 [.pointer (some ⟨hb, 0, none⟩)])] (C1 ++ (E (cn s + (popF cmp (it s)).2) ++ CB s)) rfl (.cons rfl .nil) (by classical exact List.perm_iff_count.2 fun q => by simp only [enc1, List.append_eq, List.nil_append, List.cons_append, List.count_append, List.count_cons, List.count_nil] <;> omega) (hy1 hne C1 hrep1 hC1) (fun w hw => hpre' w _ hw) ?_)
    rintro _ _ ⟨s1, bb, rfl, rfl, hbt, hbf⟩
    refine ⟨(b3, cel 31 (enc1 (firstF (it s)))) :: (bx, cel 28 [.pointer (some ⟨hb, 0, none⟩)]) :: (C0 s1 ++ (E (cn s1) ++ CB s1)), (by classical exact List.perm_iff_count.2 fun q => by simp only [enc1, List.append_eq, List.nil_append, List.cons_append, List.count_append, List.count_cons, List.count_nil] <;> omega), ?_⟩
    refine GP.takeG rfl rfl rfl rfl (Does.not rfl rfl ?_)
    refine GP.take rfl rfl (Does.pickF rfl rfl ?_)
    refine GP.keep [(0, _), (1, _), (17, _)] (.cons rfl (.cons rfl (.cons rfl .nil))) ?_
    repeat refine G.seq ?_
    cases bb with
    | true =>
      refine G.condF rfl ?_
      refine G.skip ?_
      refine G.inBlock ?_
      exact (G.sub (IH s1 (hbt rfl).1 (hbt rfl).2) .split1).weak (.cons rfl (.cons rfl .nil))
    | false =>
      refine G.condT rfl ?_
      exact fin_ret (fn := Try.f43) Try.func43 (res0 rfl) .split1 ⟨rfl, s1, .inr ⟨hbf rfl, rfl⟩⟩
/-- n things are taken out, one by one: they, and how often was compared -/
def popsF {α : Type} [Inhabited α] (cmp : α → α → Int) : Nat → List (α × Nat) → List α × Nat
  | 0, _ => ([], 0)
  | n + 1, items => (firstF items :: (popsF cmp n (popF cmp items).1).1, (popF cmp items).2 + (popsF cmp n (popF cmp items).1).2)
def sortF (cmp : Int × Int → Int × Int → Int) (l : List (Int × Int)) : List (Int × Int) := (popsF cmp l.length (pushF cmp [] 0 l).1).1
def sortC (cmp : Int × Int → Int × Int → Int) (l : List (Int × Int)) : Nat := (pushF cmp [] 0 l).2.2 + (popsF cmp l.length (pushF cmp [] 0 l).1).2
theorem zerosL_length (zs : List Value) (n : Nat) : (zerosL zs n).length = n := by simp [zerosL]
structure SortS where
  items : List ((Int × Int) × Nat)
  C0 : Chunks
  cn : Nat
  out : List (Int × Int)
  sv : Value
  Cn : Chunks
theorem sort_ct {g : FuncId} {fs cs : Array Value} {E : Nat → Chunks} {cmp : Int × Int → Int × Int → Int} (hc : CmpOk Try.prog g fs cs E enc1 cmp) (fnv : Value)
    (hnew : Ct Try.prog 13 [fnv].toArray (fun _ => True) [] (fun v C' => ∃ b, v = .pointer (some ⟨b, 0, none⟩) ∧ HRep 71 73 row1 3 b (.func (.func g) fs cs) [] 0 C')) (l : List (Int × Int)) (ad : Option Addr) (cap b o c : Nat) (had : l ≠ [] → ad = some ⟨b, o, none⟩) (hE : l ≠ [] → b ∉ (E c).map Prod.fst) (hbig : l.length ≤ 16777216) :
    Ct Try.prog 35 [.slice ad l.length cap, fnv].toArray (fun w => At w b o (l.flatMap enc1)) (E c) (fun v C' => ∃ Cs, LRep (sortF cmp l) v Cs ∧ C' = Cs ++ E (c + sortC cmp l)) := by
  refine ct_of_walk (fn := Try.f35) Try.func35 rfl rfl fun w0 hpre hst => ?_
  clear hst
  repeat refine G.seq ?_
  refine G.region [.loc] (.take 0 .done) rfl ?_
  refine GP.take rfl rfl (Does.assign rfl ?_)
  refine GP.keep [(0, _), (1, _), (4, _)] (.cons rfl (.cons rfl (.cons rfl .nil))) ?_
  repeat refine G.seq ?_
  refine G.region [.loc, .gen, .loc] (.take 0 (.take 1 (.take 2 .done))) rfl ?_
  refine GP.take rfl rfl (Does.move rfl ?_)
  refine GP.take rfl rfl (Does.callN (.cons rfl .nil) cb13 hnew (fun _ _ => trivial) ?_)
  rintro _ C0 ⟨hb, rfl, hrep⟩
  refine GP.take rfl rfl (Does.assign rfl ?_)
  refine GP.keep [(0, _), (5, _)] (.cons rfl (.cons rfl .nil)) ?_
  repeat refine G.seq ?_
  refine G.fact (p := l ≠ [] → b ∉ (C0 ++ E c).map Prod.fst) (fun w hst hne hm => ?_) fun hnot => ?_
  · have hlt := At.lt hpre 0 (List.length_pos_iff.2 hne)
    obtain ⟨x, hx, he⟩ := List.mem_map.1 hm
    have hB : b ∉ (E c).map Prod.fst := hE hne
    rcases hst.new x (by
      rcases List.mem_append.1 hx with h | h
      · exact List.mem_append_right _ h
      · exact List.mem_append_left _ h) with h1 | h1
    · exact hB (he ▸ h1)
    · exact absurd hlt (by rw [← he]; exact Nat.not_lt.2 h1)
  refine G.region [.loc, .loc, .gen] (.take 0 (.take 1 (.take 2 .done))) rfl ?_
  refine GP.take rfl rfl (Does.move rfl ?_)
  refine GP.take rfl rfl (Does.move rfl ?_)
  refine GP.take rfl rfl (Does.callP [] (C0 ++ E c) (.cons rfl (.cons rfl .nil)) cb20 (by classical exact List.perm_iff_count.2 fun q => by simp only [enc1, List.append_eq, List.nil_append, List.cons_append, List.count_append, List.count_cons, List.count_nil] <;> omega) (push1 hc hb [] 0 C0 hrep c l ad cap b o had hnot (by simp; omega) (by omega)) (fun w hs i u hi => by
    have hne : l ≠ [] := by rintro h0; rw [h0] at hi; simp at hi
    exact RowIn.old (vs := l.flatMap enc1) (C := []) (hE hne) (fun i v h => hpre i v h) w (hs.sub .nil) i u hi) ?_)
  rintro _ _ ⟨rfl, C1, hrep1, rfl⟩
  refine ⟨C1 ++ E (c + (pushF cmp [] 0 l).2.2), (by classical exact List.perm_iff_count.2 fun q => by simp only [enc1, List.append_eq, List.nil_append, List.cons_append, List.count_append, List.count_cons, List.count_nil] <;> omega), ?_⟩
  refine GP.keep [(0, _), (5, _)] (.cons rfl (.cons rfl .nil)) ?_
  repeat refine G.seq ?_
  refine G.region [.loc, .loc, .gen, .alloc, .gen] (.take 0 (.take 1 (.take 2 (.take 3 (.take 4 .done))))) rfl ?_
  refine GP.take rfl rfl (Does.move rfl ?_)
  refine GP.take rfl rfl (Does.len rfl is34 ?_)
  refine GP.take rfl rfl (Does.makeSlice (l := 0) (c := l.length) rfl rfl si34 zl31 rfl (by decide) (Nat.zero_le _) (by omega) (by omega) fun bm Nm hm nm => ?_)
  refine GP.take rfl rfl (Does.alloc zl34 fun b6 Nb6 hb6 nb6 => ?_)
  refine GP.take0 rfl (Does.store1 rfl rfl sz34 rfl (by first | exact .head | exact .tail .head | exact .tail (.tail .head) | exact .tail (.tail (.tail .head)) | exact .tail (.tail (.tail (.tail .head))) | exact .tail (.tail (.tail (.tail (.tail .head))))) (by first | exact .head | exact .tail .head | exact .tail (.tail .head) | exact .tail (.tail (.tail .head))) ?_)
  refine GP.keep [(5, _), (6, _)] (.cons rfl (.cons rfl .nil)) ?_
  repeat refine G.seq ?_
  refine G.region [.loc, .gen] (.take 0 (.take 1 .done)) rfl ?_
  refine GP.take rfl rfl (Does.move rfl ?_)
  refine GP.take rfl rfl (Does.callN (.cons rfl .nil) cb24 (drain_ct hb) (fun _ _ => trivial) ?_)
  rintro _ _ ⟨bx, rfl, rfl⟩
  refine GP.keep [(6, _), (17, _)] (.cons rfl (.cons rfl .nil)) ?_
  repeat refine G.seq ?_
  have hlen0 : (pushF cmp [] 0 l).1.length = l.length := by have := (pushF_length cmp l [] 0).1; simpa using this
  have hcm0 : (pushF cmp [] 0 l).2.1 = l.length := by have := (pushF_length cmp l [] 0).2; simpa using this
  rw [hcm0] at hrep1
  refine G.block ?_
  refine G.dropP [] (A := (bx, cel 28 [.pointer (some ⟨hb, 0, none⟩)]) :: (C1 ++ (E (c + (pushF cmp [] 0 l).2.2) ++ [(b6, cel 34 [.slice (some ⟨bm, 0, none⟩) 0 l.length]), (bm, cel 31 (zerosL [.int .i64 0, .int .i64 0] (l.length * 2)))]))) (by classical exact List.perm_iff_count.2 fun q => by simp only [enc1, List.append_eq, List.nil_append, List.cons_append, List.count_append, List.count_cons, List.count_nil] <;> omega) ?_
  refine G.rangeFunc (pre := fun _ => True) [] ((bx, cel 28 [.pointer (some ⟨hb, 0, none⟩)]) :: (C1 ++ (E (c + (pushF cmp [] 0 l).2.2) ++ [(b6, cel 34 [.slice (some ⟨bm, 0, none⟩) 0 l.length]), (bm, cel 31 (zerosL [.int .i64 0, .int .i64 0] (l.length * 2)))]))) (κ' := fun D lo tm v C' => ∃ sv Cn C9 r, LRep (sortF cmp l) sv Cn ∧ r.state ≠ .busy ∧ r.pending = none ∧ C' = (bx, cel 28 [.pointer (some ⟨hb, 0, none⟩)]) :: (C9 ++ (E (c + sortC cmp l) ++ ((lo, Obj.loop r) :: (b6, cel 34 [sv]) :: Cn)))) rfl rfl cb43 (.refl _) ?_ (fun _ _ _ _ _ => trivial) ?_
  case refine_2 =>
    rintro D lo tm v C' - ⟨sv, Cn, C9, r, hl, hr1, hr2, rfl⟩
    refine ⟨r, (bx, cel 28 [.pointer (some ⟨hb, 0, none⟩)]) :: (C9 ++ (E (c + sortC cmp l) ++ ((b6, cel 34 [sv]) :: Cn))), hr1, (by classical exact List.perm_iff_count.2 fun q => by simp only [enc1, List.append_eq, List.nil_append, List.cons_append, List.count_append, List.count_cons, List.count_nil] <;> omega), ?_⟩
    rw [hr2]
    simp only [Option.map_none, Option.toList_none, List.nil_append]
    refine G.dropP [] (A := (b6, cel 34 [sv]) :: (D, .deferred (some [])) :: (bx, cel 28 [.pointer (some ⟨hb, 0, none⟩)]) :: (C9 ++ (E (c + sortC cmp l) ++ Cn))) (by classical exact List.perm_iff_count.2 fun q => by simp only [enc1, List.append_eq, List.nil_append, List.cons_append, List.count_append, List.count_cons, List.count_nil] <;> omega) ?_
    refine G.inBlock ?_
    repeat refine G.seq ?_
    refine G.region [.gen, .loc] (.take 0 (.take 1 .done)) rfl ?_
    refine GP.take rfl rfl (Does.load1 rfl ft34 (CellIn.own (.head _) rfl) ?_)
    refine GP.take rfl rfl (Does.assign rfl ?_)
    refine GP.keep [(4, _)] (.cons rfl .nil) ?_
    exact fin_retD [D] (fn := Try.f35) (A := Cn ++ E (c + sortC cmp l)) (R := (b6, cel 34 [sv]) :: (bx, cel 28 [.pointer (some ⟨hb, 0, none⟩)]) :: C9) Try.func35 (res1D rfl rfl) (by classical exact List.perm_iff_count.2 fun q => by simp only [List.map_cons, List.map_nil, List.count_append, List.count_cons, List.count_nil]; omega) ⟨Cn, hl, rfl⟩
  intro D lo tm htm hsz _ _
  have ht6 : tm[6]? = some (.pointer (some ⟨b6, 0, none⟩)) := htm 6 _ rfl
  clear htm
  generalize hrec : Loop.mk _ _ _ _ _ _ _ _ = rec
  have hback : ({ ({ rec with state := .busy } : Loop) with state := .ready, pending := none } : Loop) = rec := by rw [← hrec]
  have hst0 : rec.state = .ready := by rw [← hrec]
  refine Ct.mono (pre := fun _ => True) (Ct.perm ?_ (drain1_ct (lim := 0) (preD := fun _ => True) (preY := fun _ => True) hc hb bx lo (S := SortS) SortS.items (fun _ => l.length) SortS.C0 SortS.cn (fun s => (lo, Obj.loop rec) :: (b6, cel 34 [s.sv]) :: s.Cn)
    (fun s => HRep 71 73 row1 3 hb (.func (.func g) fs cs) s.items l.length s.C0 ∧ LRep s.out s.sv s.Cn ∧ s.out.length + s.items.length = l.length ∧ s.out ++ (popsF cmp s.items.length s.items).1 = sortF cmp l ∧ s.cn + (popsF cmp s.items.length s.items).2 = c + sortC cmp l) (fun _ => False) (fun s => s.items.length)
    ⟨(pushF cmp [] 0 l).1, C1, c + (pushF cmp [] 0 l).2.2, [], .slice (some ⟨bm, 0, none⟩) 0 l.length, [(bm, cel 31 (zerosL [.int .i64 0, .int .i64 0] (l.length * 2)))]⟩ (fun s hs => hs.1) (fun s hs => by have := hs.2.2.1; omega) ?_ ?_ (fun _ _ _ _ _ => trivial) (fun _ _ => Nat.zero_le _) (fun _ _ => Nat.zero_le _))) (fun _ h => h) ?_
  · exact (by classical exact List.perm_iff_count.2 fun q => by simp only [enc1, List.append_eq, List.nil_append, List.cons_append, List.count_append, List.count_cons, List.count_nil] <;> omega)
  · -- a round
    rintro ⟨items, C0', cn, out, sv, Cn⟩ ⟨h1, h2, h3, h4, h5⟩ hne C2 hrep2 -
    simp only at h1 h2 h3 h4 h5 hne hrep2 ⊢
    have hpos : 0 < items.length := List.length_pos_iff.2 hne
    have hpl : (popF cmp items).1.length = items.length - 1 := popF_length cmp items
    obtain ⟨m, hm⟩ : ∃ m, items.length = m + 1 := ⟨items.length - 1, by omega⟩
    have hpm : (popF cmp items).1.length = m := by omega
    rw [hm] at h4 h5
    simp only [popsF] at h4 h5
    refine yt_of_walk (L := [(6, .pointer (some ⟨b6, 0, none⟩))]) (n := Try.f35.ntmps) (p := 18) (r := rec) (List.mem_append_right _ (List.mem_append_right _ (.head _))) (by rw [← hrec]) (fun s u hu => ?_) (by rw [← hrec]; exact hsz) (by decide) fun w _ => ?_
    · by_cases e : 6 = s
      · subst e; rw [look_cons_same] at hu; cases hu; rw [← hrec]; exact ht6
      · rw [look_cons_ne e] at hu; cases hu
    have hA : rec.assign = _ := congrArg Loop.assign hrec.symm
    have hB : rec.body = _ := congrArg Loop.body hrec.symm
    rw [hA, hB]
    dsimp only
    clear hA hB
    refine G.dropP [] (A := (lo, Obj.loop rec) :: (b6, cel 34 [sv]) :: (Cn ++ (C2 ++ E (cn + (popF cmp items).2)))) (by classical exact List.perm_iff_count.2 fun q => by simp only [enc1, List.append_eq, List.nil_append, List.cons_append, List.count_append, List.count_cons, List.count_nil] <;> omega) ?_
    refine G.region [.alloc, .gen] (.take 0 (.take 1 .done)) rfl ?_
    refine GP.take rfl rfl (Does.alloc zl31 fun b7 Nb7 hb7 nb7 => ?_)
    refine GP.take0 rfl (Does.storeA rfl rfl sz31 (by first | exact .head | exact .tail .head | exact .tail (.tail .head) | exact .tail (.tail (.tail .head)) | exact .tail (.tail (.tail (.tail .head))) | exact .tail (.tail (.tail (.tail (.tail .head))))) (.cons rfl .head (.cons rfl (.tail .head) .nil)) ?_)
    refine GP.keep [(6, _), (7, _)] (.cons rfl (.cons rfl .nil)) ?_
    refine G.dropP [] (A := (lo, Obj.loop rec) :: (b7, cel 31 (enc1 (firstF items))) :: (b6, cel 34 [sv]) :: (Cn ++ (C2 ++ E (cn + (popF cmp items).2)))) (by classical exact List.perm_iff_count.2 fun q => by simp only [enc1, List.append_eq, List.nil_append, List.cons_append, List.count_append, List.count_cons, List.count_nil] <;> omega) ?_
    refine G.beginRound rfl hst0 .head ?_
    refine G.block ?_
    obtain ⟨ad2, cap2, _, hsv, -, -, -, -⟩ := h2.form
    refine G.region [.gen, .gen, .alloc, .gen, .gen] (.take 0 (.take 1 (.take 2 (.take 3 (.take 4 .done))))) rfl ?_
    refine GP.take rfl rfl (Does.load1 rfl ft34 (CellIn.own (.tail _ (.tail _ (.head _))) rfl) ?_)
    refine GP.take rfl rfl (Does.loadA (vs := enc1 (firstF items)) rfl ag31 (RowIn.own (.tail _ (.head _)) rfl) ?_)
    refine GP.take rfl rfl (Does.buildSlice (r := [_, _]) (.cons rfl .nil) sl34 zl31 (by decide) rfl fun b21 N21 h21 n21 => ?_)
    refine GP.take rfl rfl (Does.appendT rfl (l := out) (xs := [firstF items]) (mc := 1) [(b21, cel 31 (enc1 (firstF items))), (lo, Obj.loop { rec with state := .busy }), (b7, cel 31 (enc1 (firstF items))), (b6, cel 34 [sv])] Cn (C2 ++ E (cn + (popF cmp items).2)) rfl rfl rfl h2 (fun _ => ⟨b21, 0, rfl, RowIn.own (.head _) rfl⟩) (by simp; omega) ?_)
    intro sv2 Cn2 h6
    refine GP.take0 rfl (Does.store1 rfl rfl sz34 (by obtain ⟨_, _, _, e, -⟩ := h6.form; rw [e]; rfl) (.tail (.tail (.tail .head))) .head ?_)
    refine GP.keep [(6, _)] (.cons rfl .nil) ?_
    refine G.inBlock ?_
    refine G.dropP [(b21, cel 31 (enc1 (firstF items))), (b7, cel 31 (enc1 (firstF items)))] (A := (lo, Obj.loop { rec with state := .busy }) :: (C2 ++ (E (cn + (popF cmp items).2) ++ ((b6, cel 34 [sv2]) :: Cn2)))) (by classical exact List.perm_iff_count.2 fun q => by simp only [enc1, List.append_eq, List.nil_append, List.cons_append, List.count_append, List.count_cons, List.count_nil] <;> omega) ?_
    refine fin_roundP (C2 := C2 ++ (E (cn + (popF cmp items).2) ++ ((lo, Obj.loop rec) :: (b6, cel 34 [sv2]) :: Cn2))) .head (by rw [hback]; exact (by classical exact List.perm_iff_count.2 fun q => by simp only [enc1, List.append_eq, List.nil_append, List.cons_append, List.count_append, List.count_cons, List.count_nil] <;> omega)) ⟨⟨(popF cmp items).1, C2, cn + (popF cmp items).2, out ++ [firstF items], sv2, Cn2⟩, true, rfl, rfl, fun _ => ⟨⟨hrep2, h6, by simp only [List.length_append, List.length_cons, List.length_nil]; omega, ?_, ?_⟩, by simp only; omega⟩, fun h => by cases h⟩
    · simp only [hpm]; rw [← h4]; simp
    · simp only [hpm]; omega
  · refine ⟨hrep1, ?_, by simp only [List.length_nil, hlen0]; omega, ?_, ?_⟩
    · exact Owns.blk .head rfl (by simp [zerosL]) (Nat.zero_le _)
    · simp only [List.nil_append, hlen0]; rfl
    · simp only [hlen0]; unfold sortC; omega
  · rintro v C' ⟨-, s, ⟨⟨h1, h2, h3, h4, h5⟩, hi, C9, -, rfl⟩ | ⟨hF, -⟩⟩
    · rw [hi] at h4 h5
      simp only [List.length_nil, popsF, List.append_nil, Nat.add_zero] at h4 h5
      rw [h4] at h2
      rw [h5]
      exact ⟨s.sv, s.Cn, C9, rec, h2, by rw [hst0]; decide, by rw [← hrec], rfl⟩
    · exact hF.elim
end Go.Proofs.Ytcgenmfnlocbbaa.T
