/- The document's Sort and Least, and 'listed', walked. Nothing is claimed of a law here. -/
import Derived.Test.YtcgenmfnlocbbaaHp
namespace Go.Proofs.Ytcgenmfnlocbbaa.T
open Go.Lg Go.Hp
theorem cb28 : callable Try.prog 28 = true := by kernel_rfl
/-- a list of things that can be read, wherever it lies -/
def LIn (X : Cx) (l : List (Int × Int)) (sv : Value) (Cl : Chunks) : Prop := ∃ ad cap b o, sv = .slice ad l.length cap ∧ (l ≠ [] → ad = some ⟨b, o, none⟩) ∧ l.length ≤ cap ∧ ∀ pre post, RowIn X (pre ++ (Cl ++ post)) b o (l.flatMap enc1)
theorem LIn.of_rep {X : Cx} {l : List (Int × Int)} {sv : Value} {Cl : Chunks} (h : LRep l sv Cl) : LIn X l sv Cl := by
  obtain ⟨ad, cap, b, h1, h2, h3, -, h4⟩ := h.form
  exact ⟨ad, cap, b, 0, h1, h2, h3, h4 X⟩
theorem LIn.of_old {X : Cx} {l : List (Int × Int)} {ad : Option Addr} {cap b o : Nat} (hB : X.B0 = []) (had : l ≠ [] → ad = some ⟨b, o, none⟩) (hcap : l.length ≤ cap) (h : At X.w0 b o (l.flatMap enc1)) : LIn X l (.slice ad l.length cap) [] :=
  ⟨ad, cap, b, o, rfl, had, hcap, fun _ _ => At.row (by rw [hB]; simp) h⟩
theorem LRep.take {l : List (Int × Int)} {sv : Value} {C : Chunks} (h : LRep l sv C) (hne : l ≠ []) (k : Nat) (hk : k ≤ l.length) : ∃ b cap, sv = .slice (some ⟨b, 0, none⟩) l.length cap ∧ l.length ≤ cap ∧ LRep (l.take k) (.slice (some ⟨b, 0, none⟩) k cap) C := by
  obtain ⟨b, cap, sp, h1, rfl, h3, h4⟩ := h.full hne
  refine ⟨b, cap, h1, h3, ?_⟩
  show Owns 31 2 _ (l.take k).length ((l.take k).flatMap enc1) _ _
  have e : (l.take k).length = k := by rw [List.length_take]; omega
  have e2 : l.flatMap enc1 ++ sp = (l.take k).flatMap enc1 ++ ((l.drop k).flatMap enc1 ++ sp) := by
    rw [← List.append_assoc, ← List.flatMap_append, List.take_append_drop]
  rw [e, e2]
  refine .blk .head (by rw [flat_length enc1 2 enc1_length, e]) ?_ (by omega)
  rw [List.length_append, flat_length enc1 2 enc1_length, List.length_drop, h4, ← Nat.add_mul]
  congr 1; omega
theorem docF_length (all : Bool) : ∀ (n : Nat) (l : List (Int × Int)), l.length = n → (docF all n l).length = n := by
  intro n
  induction n with
  | zero => intro l _; rfl
  | succ n ih =>
    intro l hl
    simp only [docF]
    cases hf : fstI all l l.length with
    | none => have := fstI_none _ _ _ hf; omega
    | some i =>
      have hi := fstI_lt _ _ _ _ hf
      simp only [List.length_cons]
      rw [ih _ (by rw [List.length_eraseIdx_of_lt hi]; omega)]
structure DsS where
  l : List (Int × Int)
  sv : Value
  Cl : Chunks
  out : List (Int × Int)
  svo : Value
  Co : Chunks
theorem docSort_ct (l : List (Int × Int)) (all : Bool) (ad : Option Addr) (cap b o : Nat) (had : l ≠ [] → ad = some ⟨b, o, none⟩) (hcap : l.length ≤ cap) (hbig : l.length ≤ 16777216) :
    Ct Try.prog 30 [.slice ad l.length cap, .bool all].toArray (fun w => At w b o (l.flatMap enc1)) [] (fun v C' => LRep (docF all l.length l) v C') := by
  refine ct_of_walk (fn := Try.f30) Try.func30 rfl rfl fun w0 hpre hst => ?_
  clear hst
  repeat refine G.seq ?_
  refine G.region [.loc] (.take 0 .done) rfl ?_
  refine GP.take rfl rfl (Does.assign rfl ?_)
  refine GP.keep [(0, _), (1, _), (4, _)] (.cons rfl (.cons rfl (.cons rfl .nil))) ?_
  repeat refine G.seq ?_
  refine G.region [.loc] (.take 0 .done) rfl ?_
  refine GP.take rfl rfl (Does.assign rfl ?_)
  refine GP.keep [(0, _), (1, _), (4, _), (5, _)] (.cons rfl (.cons rfl (.cons rfl (.cons rfl .nil)))) ?_
  repeat refine G.seq ?_
  refine G.block ?_
  refine G.loop (S := DsS) (fun s => [(0, s.sv), (1, .bool all), (5, s.svo)]) (fun s => s.Cl ++ s.Co) (fun s => LIn (cxF Try.prog 30 Try.f30.ntmps w0 (List.map Prod.fst ([] : Chunks)) fun v C' => LRep (docF all l.length l) v C') s.l s.sv s.Cl ∧ LRep s.out s.svo s.Co ∧ s.out.length + s.l.length = l.length ∧ s.out ++ docF all s.l.length s.l = docF all l.length l) (fun s => s.l.length)
    ⟨l, .slice ad l.length cap, [], [], .slice none 0 0, []⟩ ⟨.of_old rfl had hcap hpre, LRep.nil, by simp, rfl⟩ (.cons rfl (.cons rfl (.cons rfl .nil))) .all ?_
  rintro ⟨q, sv, Cl, out, svo, Co⟩ ⟨h1, h2, h3, h4⟩ IH
  simp only at h1 h2 h3 h4 IH ⊢
  obtain ⟨ad, cap, b, o, rfl, had, hcap, hrow⟩ := h1
  repeat refine G.seq ?_
  refine G.region [.loc, .loc, .loc] (.take 0 (.take 1 (.take 2 .done))) rfl ?_
  refine GP.take rfl rfl (Does.move rfl ?_)
  refine GP.take rfl rfl (Does.len rfl is34 ?_)
  refine GP.take rfl rfl (Does.gtr rfl rfl rfl ?_)
  refine GP.keep [(0, _), (1, _), (5, _), (9, _)] (.cons rfl (.cons rfl (.cons rfl (.cons rfl .nil)))) ?_
  repeat refine G.seq ?_
  refine G.cond rfl ?_ ?_
  case refine_2 =>
    intro hz
    obtain rfl : q = [] := List.eq_nil_of_length_eq_zero (by omega)
    simp only [docF, List.length_nil, List.append_nil] at h4
    rw [h4] at h2
    refine G.exit rfl ?_
    repeat refine G.seq ?_
    refine G.region [.loc, .loc] (.take 0 (.take 1 .done)) rfl ?_
    refine GP.take rfl rfl (Does.move rfl ?_)
    refine GP.take rfl rfl (Does.assign rfl ?_)
    refine GP.keep [(0, _), (1, _), (4, _), (5, _), (9, _)] (.cons rfl (.cons rfl (.cons rfl (.cons rfl (.cons rfl .nil))))) ?_
    exact fin_ret (fn := Try.f30) Try.func30 (res1 rfl rfl) (Split.tail Cl Co) h2
  intro hz
  have hpos : 0 < q.length := by omega
  have hne : q ≠ [] := List.length_pos_iff.1 hpos
  obtain rfl := had hne
  obtain ⟨i, hf⟩ : ∃ i, fstI all q q.length = some i := by
    cases hf : fstI all q q.length with
    | none => have := fstI_none _ _ _ hf; omega
    | some i => exact ⟨i, rfl⟩
  have hi := fstI_lt _ _ _ _ hf
  refine G.skip ?_
  repeat refine G.seq ?_
  refine G.block ?_
  repeat refine G.seq ?_
  refine G.region [.loc, .loc, .gen, .loc] (.take 0 (.take 1 (.take 2 (.take 3 .done)))) rfl ?_
  refine GP.take rfl rfl (Does.move rfl ?_)
  refine GP.take rfl rfl (Does.move rfl ?_)
  refine GP.take rfl rfl (Does.callN (.cons rfl (.cons rfl .nil)) cb26 (first_ct q all (some ⟨b, o, none⟩) cap b o (fun _ => rfl) (by omega)) (fun w hs j u hj => hrow [] Co w hs j u hj) ?_)
  rintro _ _ ⟨rfl, rfl⟩
  rw [hf]
  simp only [List.append_nil]
  refine GP.take rfl rfl (Does.assign rfl ?_)
  refine GP.keep [(0, _), (1, _), (5, _), (6, _)] (.cons rfl (.cons rfl (.cons rfl (.cons rfl .nil)))) ?_
  repeat refine G.seq ?_
  refine G.region [.loc, .loc, .loc, .loc, .gen, .alloc, .gen, .loc] (.take 0 (.take 1 (.take 2 (.take 3 (.take 4 (.take 5 (.take 6 (.take 7 .done)))))))) rfl ?_
  refine GP.take rfl rfl (Does.move rfl ?_)
  refine GP.take rfl rfl (Does.move rfl ?_)
  refine GP.take rfl rfl (Does.move rfl ?_)
  refine GP.take rfl rfl (Does.indexAddr i rfl rfl sl34 rfl hi ?_)
  refine GP.take rfl rfl (Does.loadA (vs := enc1 q[i]) rfl ag31 (fun w hs j u hj => by rw [Nat.add_assoc]; exact hrow [] Co w hs _ u (flat_get enc1 2 enc1_length q i hi j u hj)) ?_)
  refine GP.take rfl rfl (Does.buildSlice (r := [_, _]) (.cons rfl .nil) sl34 zl31 (by decide) rfl fun b18 N18 h18 n18 => ?_)
  refine GP.take rfl rfl (Does.appendT rfl (l := out) (xs := [q[i]]) (mc := 1) ((b18, cel 31 (enc1 q[i])) :: Cl) Co [] rfl rfl (by simp) h2 (fun _ => ⟨b18, 0, rfl, RowIn.own (.head _) rfl⟩) (by simp; omega) ?_)
  intro svo2 Co2 h5
  simp only [List.append_nil, List.cons_append]
  refine GP.take rfl rfl (Does.assign rfl ?_)
  refine GP.keep [(0, _), (1, _), (5, _), (6, _)] (.cons rfl (.cons rfl (.cons rfl (.cons rfl .nil)))) ?_
  repeat refine G.seq ?_
  refine G.region [.loc, .loc, .gen, .loc] (.take 0 (.take 1 (.take 2 (.take 3 .done)))) rfl ?_
  refine GP.take rfl rfl (Does.move rfl ?_)
  refine GP.take rfl rfl (Does.move rfl ?_)
  refine GP.take rfl rfl (Does.callN (.cons rfl (.cons rfl .nil)) cb27 (without_ct q i hi cap b o hcap (by omega)) (fun w hs j u hj => hrow [_] Co2 w hs j u hj) ?_)
  intro svw Cw hw
  refine GP.take rfl rfl (Does.assign rfl ?_)
  refine GP.keep [(0, _), (1, _), (5, _)] (.cons rfl (.cons rfl (.cons rfl .nil))) ?_
  refine G.inBlock ?_
  refine G.dropP ((b18, cel 31 (enc1 q[i])) :: Cl) (A := Cw ++ Co2) (by classical exact List.perm_iff_count.2 fun q => by simp only [enc1, List.append_eq, List.nil_append, List.cons_append, List.count_append, List.count_cons, List.count_nil] <;> omega) ?_
  refine IH ⟨q.eraseIdx i, svw, Cw, out ++ [q[i]], svo2, Co2⟩ ⟨.of_rep hw, h5, by simp only [List.length_append, List.length_cons, List.length_nil, List.length_eraseIdx_of_lt hi]; omega, ?_⟩ (by simp only [List.length_eraseIdx_of_lt hi]; omega)
  obtain ⟨k, hk⟩ : ∃ k, q.length = k + 1 := ⟨q.length - 1, by omega⟩
  have e : (q.eraseIdx i).length = k := by rw [List.length_eraseIdx_of_lt hi]; omega
  simp only [e]
  rw [← h4, hk]
  simp only [docF, hf]
  simp [hi]
theorem docLeast_ct (l : List (Int × Int)) (n : Int) (all : Bool) (ad : Option Addr) (cap b o : Nat) (had : l ≠ [] → ad = some ⟨b, o, none⟩) (hcap : l.length ≤ cap) (hbig : l.length ≤ 16777216) :
    Ct Try.prog 31 [.slice ad l.length cap, .int .i64 n, .bool all].toArray (fun w => At w b o (l.flatMap enc1)) [] (fun v C' => LRep ((docF all l.length l).take (max n 0).toNat) v C') := by
  refine ct_of_walk (fn := Try.f31) Try.func31 rfl rfl fun w0 hpre hst => ?_
  clear hst
  repeat refine G.seq ?_
  refine G.region [.loc] (.take 0 .done) rfl ?_
  refine GP.take rfl rfl (Does.assign rfl ?_)
  refine GP.keep [(0, _), (1, _), (2, _), (6, _)] (.cons rfl (.cons rfl (.cons rfl (.cons rfl .nil)))) ?_
  repeat refine G.seq ?_
  refine G.region [.loc, .loc, .gen, .loc] (.take 0 (.take 1 (.take 2 (.take 3 .done)))) rfl ?_
  refine GP.take rfl rfl (Does.move rfl ?_)
  refine GP.take rfl rfl (Does.move rfl ?_)
  refine GP.take rfl rfl (Does.callN (.cons rfl (.cons rfl .nil)) cb30 (docSort_ct l all ad cap b o had hcap hbig) (fun w hs i u hi => RowIn.old (C := []) (vs := l.flatMap enc1) (by simp) (fun i v h => hpre i v h) w (hs.sub .nil) i u hi) ?_)
  intro sv C1 h1
  simp only [List.nil_append]
  refine GP.take rfl rfl (Does.assign rfl ?_)
  refine GP.keep [(1, _), (7, _)] (.cons rfl (.cons rfl .nil)) ?_
  repeat refine G.seq ?_
  refine G.region [.loc, .loc] (.take 0 (.take 1 .done)) rfl ?_
  refine GP.take rfl rfl (Does.move rfl ?_)
  refine GP.take rfl rfl (Does.lss rfl rfl rfl ?_)
  refine GP.keep [(1, _), (7, _), (12, _)] (.cons rfl (.cons rfl (.cons rfl .nil))) ?_
  have hdl := docF_length all l.length l rfl
  generalize docF all l.length l = D at *
  repeat refine G.seq ?_
  refine G.join (S := Unit) (fun _ => [(1, .int .i64 (max n 0)), (7, sv)]) (fun _ => C1) (fun _ => True) ?_ fun key => ?_
  case refine_2 =>
    refine G.cond rfl ?_ ?_
    · intro hn
      refine G.region [.loc] (.take 0 .done) rfl ?_
      refine GP.take rfl rfl (Does.assign rfl ?_)
      refine GP.keep [(1, _), (7, _)] (.cons rfl (.cons rfl .nil)) ?_
      have e : max n 0 = 0 := by omega
      exact (key () trivial).weak (.cons (by rw [e]; rfl) (.cons rfl .nil))
    · intro hn
      have e : max n 0 = n := by omega
      refine G.skip ?_
      exact (key () trivial).weak (.cons (by rw [e]; rfl) (.cons rfl .nil))
  rintro - -
  repeat refine G.seq ?_
  obtain ⟨adD, capD, bD, hsv, -, hcD, -, -⟩ := h1.form
  obtain ⟨m, hm⟩ : ∃ m : Nat, max n 0 = (m : Int) := ⟨(max n 0).toNat, by omega⟩
  rw [hm]
  simp only [Int.toNat_natCast]
  refine G.region [.loc, .loc, .loc, .loc] (.take 0 (.take 1 (.take 2 (.take 3 .done)))) rfl ?_
  refine GP.take rfl rfl (Does.move rfl ?_)
  refine GP.take rfl rfl (Does.move rfl ?_)
  refine GP.take rfl rfl (Does.len (ad := adD) (len := D.length) (cap := capD) (by rw [← hsv]; rfl) is34 ?_)
  refine GP.take rfl rfl (Does.lss rfl rfl rfl ?_)
  refine GP.keep [(1, _), (7, _), (16, _)] (.cons rfl (.cons rfl (.cons rfl .nil))) ?_
  repeat refine G.seq ?_
  refine G.cond rfl ?_ ?_
  · intro hlt
    have hDne : D ≠ [] := by rintro rfl; simp at hlt; omega
    obtain ⟨b2, cap2, e1, e2, e3⟩ := h1.take hDne m (by omega)
    subst e1
    repeat refine G.seq ?_
    refine G.region [.loc, .loc, .loc, .loc] (.take 0 (.take 1 (.take 2 (.take 3 .done)))) rfl ?_
    refine GP.take rfl rfl (Does.move rfl ?_)
    refine GP.take rfl rfl (Does.move rfl ?_)
    refine GP.take rfl rfl (Does.sliceTo m rfl rfl sl34 rfl (by omega) ?_)
    refine GP.take rfl rfl (Does.assign rfl ?_)
    refine GP.keep [(7, _)] (.cons rfl .nil) ?_
    repeat refine G.seq ?_
    refine G.region [.loc, .loc] (.take 0 (.take 1 .done)) rfl ?_
    refine GP.take rfl rfl (Does.move rfl ?_)
    refine GP.take rfl rfl (Does.assign rfl ?_)
    refine GP.keep [(6, _), (7, _)] (.cons rfl (.cons rfl .nil)) ?_
    exact fin_ret (fn := Try.f31) (R := []) Try.func31 (res1 rfl rfl) .all e3
  · intro hge
    refine G.skip ?_
    repeat refine G.seq ?_
    refine G.region [.loc, .loc] (.take 0 (.take 1 .done)) rfl ?_
    refine GP.take rfl rfl (Does.move rfl ?_)
    refine GP.take rfl rfl (Does.assign rfl ?_)
    refine GP.keep [(1, _), (6, _), (7, _), (16, _)] (.cons rfl (.cons rfl (.cons rfl (.cons rfl .nil)))) ?_
    exact fin_ret (fn := Try.f31) (R := []) Try.func31 (res1 rfl rfl) .all (by rw [List.take_of_length_le (by omega)]; exact h1)
theorem listed_ct {g : FuncId} {fs cs : Array Value} {cmp : Cmp1} (hc : CmpOk Try.prog g fs cs (fun _ => []) enc1 cmp) (fnv : Value) (hf : fnv = .func (.func g) fs cs ∨ (fnv = .nilFunc ∧ g = 40 ∧ fs = #[] ∧ cs = #[]))
    (hnew : Ct Try.prog 13 [fnv].toArray (fun _ => True) [] (fun v C' => ∃ b, v = .pointer (some ⟨b, 0, none⟩) ∧ HRep 71 73 row1 3 b (.func (.func g) fs cs) [] 0 C'))
    (l : List (Int × Int)) (n : Int) (ad : Option Addr) (cap b o : Nat) (had : l ≠ [] → ad = some ⟨b, o, none⟩) (hbig : l.length ≤ 8388608) :
    Ct Try.prog 28 [.slice ad l.length cap, .int .i64 n, fnv].toArray (fun w => At w b o (l.flatMap enc1)) [] (fun v C' => ∃ sva svb Ca Cb, v = .tuple #[sva, svb, .bool true] ∧ LRep (sortF cmp l) sva Ca ∧ LRep (leastF cmp l (min n l.length).toNat) svb Cb ∧ C' = Ca ++ Cb) := by
  refine ct_of_walk (fn := Try.f28) Try.func28 rfl rfl fun w0 hpre hst => ?_
  clear hst
  repeat refine G.seq ?_
  refine G.region [.loc, .loc, .loc] (.take 0 (.take 1 (.take 2 .done))) rfl ?_
  refine GP.take rfl rfl (Does.assign rfl ?_)
  refine GP.take rfl rfl (Does.assign rfl ?_)
  refine GP.take rfl rfl (Does.assign rfl ?_)
  refine GP.keep [(0, _), (1, _), (2, _), (6, _), (7, _), (8, _)] (.cons rfl (.cons rfl (.cons rfl (.cons rfl (.cons rfl (.cons rfl .nil)))))) ?_
  repeat refine G.seq ?_
  refine G.region [.loc] (.take 0 .done) rfl ?_
  refine GP.take rfl rfl (Does.assign rfl ?_)
  refine GP.keep [(0, _), (1, _), (2, _), (6, _), (7, _), (8, _), (9, _)] (.cons rfl (.cons rfl (.cons rfl (.cons rfl (.cons rfl (.cons rfl (.cons rfl .nil))))))) ?_
  repeat refine G.seq ?_
  refine G.region [.loc, .loc, .gen, .loc] (.take 0 (.take 1 (.take 2 (.take 3 .done)))) rfl ?_
  refine GP.take rfl rfl (Does.move rfl ?_)
  refine GP.take rfl rfl (Does.move rfl ?_)
  refine GP.take rfl rfl (Does.appendT rfl (l := []) (xs := l) (ad2 := ad) (mc := cap) [] [] [] rfl rfl rfl LRep.nil (fun hne => ⟨b, o, had hne, At.row (by simp) hpre⟩) (by simp; omega) ?_)
  intro sv1 F1 h1
  simp only [List.nil_append, List.append_nil] at h1 ⊢
  refine GP.take rfl rfl (Does.assign rfl ?_)
  refine GP.keep [(0, _), (1, _), (2, _), (9, _)] (.cons rfl (.cons rfl (.cons rfl (.cons rfl .nil)))) ?_
  repeat refine G.seq ?_
  refine G.region [.loc, .loc, .alloc, .gen, .loc] (.take 0 (.take 1 (.take 2 (.take 3 (.take 4 .done))))) rfl ?_
  refine GP.take rfl rfl (Does.move rfl ?_)
  refine GP.take rfl rfl (Does.build (r := [_, _]) (.cons rfl .nil) sp31 zl31 rfl ?_)
  refine GP.take rfl rfl (Does.buildSlice (r := [_, _]) (.cons rfl .nil) sl34 zl31 (by decide) rfl fun b19 N19 h19 n19 => ?_)
  refine GP.take rfl rfl (Does.appendT rfl (l := l) (xs := [(0, -7)]) (mc := 1) [(b19, cel 31 [.int .i64 0, .int .i64 (-7)])] F1 [] rfl rfl (by simp) h1 (fun _ => ⟨b19, 0, rfl, RowIn.own (.head _) rfl⟩) (by simp; omega) ?_)
  intro sv2 F2 h2
  refine GP.take rfl rfl (Does.assign rfl ?_)
  refine GP.keep [(0, _), (1, _), (2, _), (9, _)] (.cons rfl (.cons rfl (.cons rfl (.cons rfl .nil)))) ?_
  repeat refine G.seq ?_
  obtain ⟨fb, fcap, sp, rfl, rfl, hfc, hsp⟩ := h2.full (by simp)
  have hfl : (l ++ [((0 : Int), (-7 : Int))]).length = l.length + 1 := by simp
  rw [hfl] at hfc hsp ⊢
  refine G.dropP [(b19, cel 31 [.int .i64 0, .int .i64 (-7)])] (A := [(fb, cel 31 ((l ++ [((0 : Int), (-7 : Int))]).flatMap enc1 ++ sp))]) (by classical exact List.perm_iff_count.2 fun q => by simp only [enc1, List.append_eq, List.nil_append, List.cons_append, List.count_append, List.count_cons, List.count_nil] <;> omega) ?_
  have hgive : ∀ (X : Cx) (post : Chunks), RowIn X ((fb, cel 31 ((l ++ [((0 : Int), (-7 : Int))]).flatMap enc1 ++ sp)) :: post) fb 0 (l.flatMap enc1) := fun X post => RowIn.own (l := ((l ++ [((0 : Int), (-7 : Int))]).flatMap enc1 ++ sp)) (.head _) (by simp [List.flatMap_append])
  refine G.region [.loc, .loc, .loc, .loc, .loc] (.take 0 (.take 1 (.take 2 (.take 3 (.take 4 .done))))) rfl ?_
  refine GP.take rfl rfl (Does.move rfl ?_)
  refine GP.take rfl rfl (Does.move rfl ?_)
  refine GP.take rfl rfl (Does.len rfl is34 ?_)
  refine GP.take rfl rfl (Does.sliceTo l.length rfl rfl sl34 rfl (by omega) ?_)
  refine GP.take rfl rfl (Does.assign rfl ?_)
  refine GP.keep [(0, _), (1, _), (2, _), (9, _), (10, _)] (.cons rfl (.cons rfl (.cons rfl (.cons rfl (.cons rfl .nil))))) ?_
  repeat refine G.seq ?_
  refine G.region [.loc, .loc, .gen, .loc] (.take 0 (.take 1 (.take 2 (.take 3 .done)))) rfl ?_
  refine GP.take rfl rfl (Does.move rfl ?_)
  refine GP.take rfl rfl (Does.move rfl ?_)
  refine GP.take rfl rfl (Does.callN (.cons rfl (.cons rfl .nil)) cb35 (sort_ct hc fnv hnew l (some ⟨fb, 0, none⟩) fcap fb 0 0 (fun _ => rfl) (by simp) (by omega)) (fun w hs i u hi => hgive _ _ w hs i u hi) ?_)
  rintro sva _ ⟨Ca, hCa, rfl⟩
  simp only [List.append_nil, List.cons_append, List.nil_append]
  refine GP.take rfl rfl (Does.assign rfl ?_)
  refine GP.keep [(0, _), (1, _), (2, _), (9, _), (10, _), (11, _)] (.cons rfl (.cons rfl (.cons rfl (.cons rfl (.cons rfl (.cons rfl .nil)))))) ?_
  repeat refine G.seq ?_
  refine G.region [.loc, .loc, .gen, .loc] (.take 0 (.take 1 (.take 2 (.take 3 .done)))) rfl ?_
  refine GP.take rfl rfl (Does.move rfl ?_)
  refine GP.take rfl rfl (Does.move rfl ?_)
  refine GP.take rfl rfl (Does.callN (.cons rfl (.cons rfl .nil)) cb29 (sames_ct l l (some ⟨fb, 0, none⟩) ad fcap cap fb 0 b o (fun _ => rfl) had (by omega)) (fun w hs => ⟨fun i u hi => hgive _ _ w hs i u hi, fun i u hi => RowIn.old (C := []) (vs := l.flatMap enc1) (by simp) (fun i v h => hpre i v h) w (hs.sub .nil) i u hi⟩) ?_)
  rintro _ _ ⟨rfl, rfl⟩
  simp only [List.append_nil, decide_true]
  refine GP.take rfl rfl (Does.assign rfl ?_)
  refine GP.keep [(0, _), (1, _), (2, _), (9, _), (10, _), (11, _), (12, _)] (.cons rfl (.cons rfl (.cons rfl (.cons rfl (.cons rfl (.cons rfl (.cons rfl .nil))))))) ?_
  repeat refine G.seq ?_
  refine G.region [.loc, .loc, .loc, .gen, .loc] (.take 0 (.take 1 (.take 2 (.take 3 (.take 4 .done))))) rfl ?_
  refine GP.take rfl rfl (Does.move rfl ?_)
  refine GP.take rfl rfl (Does.move rfl ?_)
  refine GP.take rfl rfl (Does.move rfl ?_)
  refine GP.take rfl rfl (Does.callN (.cons rfl (.cons rfl (.cons rfl .nil))) cb33 (least_ct hc fnv hf l n (some ⟨fb, 0, none⟩) fcap fb 0 0 (fun _ => rfl) (by simp) (by omega)) (fun w hs i u hi => hgive _ _ w hs i u hi) ?_)
  rintro svb _ ⟨Cb, hCb, rfl⟩
  simp only [List.append_nil, List.cons_append, List.nil_append]
  refine GP.take rfl rfl (Does.assign rfl ?_)
  refine GP.keep [(0, _), (1, _), (9, _), (10, _), (11, _), (12, _), (13, _)] (.cons rfl (.cons rfl (.cons rfl (.cons rfl (.cons rfl (.cons rfl (.cons rfl .nil))))))) ?_
  repeat refine G.seq ?_
  refine G.draw [.loc, .loc, .loc, .loc, .loc, .loc, .gen, .loc, .loc, .loc, .loc, .loc, .loc, .load, .loc, .loc, .loc, .loc, .loc, .loc] (.take 0 (.take 1 (.take 2 (.take 3 (.take 4 (.take 5 (.alt 6 (.take 7 (.take 8 (.take 9 (.take 10 (.take 11 (.take 12 (.take 14 (.take 17 (.take 18 (.take 13 (.take 15 (.take 16 (.take 19 .done))))))))))))) .stop))))))) (by exact mixed) (by kernel_rfl) ?_
  intro N hN0 hN
  refine GP.take rfl rfl (Does.move rfl ?_)
  refine GP.take rfl rfl (Does.move rfl ?_)
  refine GP.take rfl rfl (Does.move rfl ?_)
  refine GP.take rfl rfl (Does.move rfl ?_)
  refine GP.takeG rfl rfl rfl rfl (Does.move rfl ?_)
  refine GP.takeG rfl rfl rfl rfl (Does.move rfl ?_)
  refine GP.one ?_
  refine GP.takeG rfl rfl rfl rfl (Does.callN (.cons rfl (.cons rfl .nil)) cb29 (sames_ct l l (some ⟨fb, 0, none⟩) ad fcap cap fb 0 b o (fun _ => rfl) had (by omega)) (fun w hs => ⟨fun i u hi => hgive _ _ w hs i u hi, fun i u hi => RowIn.old (C := []) (vs := l.flatMap enc1) (by simp) (fun i v h => hpre i v h) w (hs.sub .nil) i u hi⟩) ?_)
  rintro _ _ ⟨rfl, rfl⟩
  simp only [List.append_nil, decide_true]
  refine GP.take rfl rfl (Does.pickT rfl rfl ?_)
  refine GP.take rfl rfl (Does.move rfl ?_)
  refine GP.takeG rfl rfl rfl rfl (Does.move rfl ?_)
  refine GP.takeG rfl rfl rfl rfl (Does.move rfl ?_)
  refine GP.takeG rfl rfl rfl rfl (Does.len rfl is34 ?_)
  refine GP.takeG rfl rfl rfl rfl (Does.indexAddr l.length rfl rfl sl34 rfl (by omega) ?_)
  refine GP.takeG rfl rfl rfl rfl (Does.build (r := [_, _]) (.cons rfl .nil) sp31 zl31 rfl ?_)
  refine GP.take rfl rfl (Does.assign rfl ?_)
  refine GP.take rfl rfl (Does.assign rfl ?_)
  refine GP.takeG rfl rfl rfl rfl (Does.loadAN (vs := [.int .i64 0, .int .i64 (-7)]) rfl ag31 (hN _ (.head _)) (RowIn.own (l := ((l ++ [((0 : Int), (-7 : Int))]).flatMap enc1 ++ sp)) (.head _) (by have := flat_row enc1 2 enc1_length (l ++ [((0 : Int), (-7 : Int))]) sp l.length (by simp); simpa using this)) ?_)
  refine GP.takeG rfl rfl rfl rfl (Does.eqlA (t := true) rfl rfl gd31 (fun w => eq31 (0, -7) (0, -7) w) (by decide) ?_)
  refine GP.take rfl rfl (Does.pickT rfl rfl ?_)
  refine GP.take rfl rfl (Does.assign rfl ?_)
  refine GP.keep [(6, _), (7, _), (8, _)] (.cons rfl (.cons rfl (.cons rfl .nil))) ?_
  refine G.dropP [(fb, cel 31 ((l ++ [((0 : Int), (-7 : Int))]).flatMap enc1 ++ sp))] (A := Ca ++ Cb) (by classical exact List.perm_iff_count.2 fun q => by simp only [enc1, List.append_eq, List.nil_append, List.cons_append, List.count_append, List.count_cons, List.count_nil] <;> omega) ?_
  exact fin_ret (fn := Try.f28) (R := []) Try.func28 (res3 rfl rfl rfl rfl) .all ⟨sva, svb, Ca, Cb, rfl, hCa, hCb, rfl⟩
end Go.Proofs.Ytcgenmfnlocbbaa.T
