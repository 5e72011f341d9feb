/- What HeapFresh asks for: lists that grow, are marked, and stand. Nothing is claimed of a law here. -/
import Derived.Test.YtcgenmfnlocbbaaHq
namespace Go.Proofs.Ytcgenmfnlocbbaa.T
open Go.Lg Go.Hp

/-- append that keeps what it leaves: the old block stays owned where a new one is made -/
theorem Does.appendK {X : Cx} {L : Env} {ds : List Deferred} {C : Chunks} {N : Nat} {κ : Value → Chunks → Prop} {x y : Operand} {T e sz by_ m mc xb xo n : Nat} {old xs zs : List Value} {sv : Value} {Cr : Chunks}
    (hx : ev L x = some sv) (hy : ev L y = some (.slice (some ⟨xb, xo, none⟩) m mc)) (hT : sliceInfo X.P T = some (e, sz, by_)) (hz : zeroL X.P e = some zs) (ho : Owns e sz sv n old C Cr) (hxs : RowIn X C xb xo xs) (hm : xs.length = m * sz) (h1 : ∀ v ∈ xs, oneC v = true)
    (hm1 : 1 ≤ m) (hzs : zs.length = sz) (hb0 : by_ ≠ 0) (hroom : (2 * (n + m) + 192) * by_ ≤ 281474976710656) 
    (hk : ∀ rb rcap sp Cx, n + m ≤ rcap → sp.length = (rcap - (n + m)) * sz → ((Cx = [] ∧ (n = 0 ∨ sv = .slice (some ⟨rb, 0, none⟩) n rcap)) ∨ ∃ sb cap sp0, sv = .slice (some ⟨sb, 0, none⟩) n cap ∧ Cx = [(sb, cel e (old ++ sp0))]) → κ (.slice (some ⟨rb, 0, none⟩) (n + m) rcap) ((rb, cel e (old ++ xs ++ sp)) :: (Cx ++ Cr))) :
    Does X N (.call ⟨.builtin .append, #[x, y], #[T, T]⟩) .gen L ds C κ := by
  intro ope hop a w hs hN
  obtain ⟨hu, inf, hi, hsz, hby⟩ := sliceInfo_spec hT
  simp only [zeroL, Option.map_eq_some_iff] at hz
  obtain ⟨z, hz, rfl⟩ := hz
  have hload := hxs.load hs.st
  rw [hm] at hload
  have hrun : (execOp a.eval ope).run X.P w = ((Builtin.append_ #[T, T] ope.type #[sv, .slice (some ⟨xb, xo, none⟩) m mc]).run X.P w).andThen fun v w' => .ok (.value v) w' := by
    unfold execOp; rw [hop]
    simp [resolve, invoke, builtin, hs.ev hx, hs.ev hy]
  have hgrow : ∀ cap, cap < n + m → ¬ ((Builtin.nextslicecap (n + m) cap : Nat) * inf.bytes > 281474976710656) := by
    intro cap hc
    have h2 := Nat.mul_le_mul_right by_ (Go.Lg.nextslicecap_le hc)
    rw [hby]; exact Nat.not_lt.2 (Nat.le_trans h2 hroom)
  have hchoose : ∀ cap q, (choose (.appendCap (n + m) cap q)).run X.P w = .ok (Question.cut (.appendCap (n + m) cap q) (w.tape w.drawn (.appendCap (n + m) cap q))) w.drew := by
    intro cap q; rfl
  have hcut : ∀ cap q t, n + m ≤ Question.cut (.appendCap (n + m) cap q) t := by intro cap q t; simp only [Question.cut]; omega
  have hzlen : ∀ q, (Builtin.zeroCells z.cells q).toList.length = q * sz := by
    intro q
    have : z.cells.size = sz := by simpa using hzs
    simp [Builtin.zeroCells, this]
  simp only [opS]
  cases ho with
  | nil =>
    have hn0 : ¬ (m ≤ 0) := by omega
    have hmx : ¬ ((m : Int) > IntKind.i64.max ∧ inf.bytes = 0) := by rw [hby]; exact fun h => hb0 h.2
    have hg := hgrow 0 (by omega)
    have hc := hchoose 0 e
    have hcc := hcut 0 e (w.tape w.drawn (.appendCap (0 + m) 0 e))
    generalize hncap : Question.cut (.appendCap (0 + m) 0 e) (w.tape w.drawn (.appendCap (0 + m) 0 e)) = ncap at hc hcc
    have hload' := hxs.load hs.st.drew
    rw [hm] at hload'
    simp only [Nat.zero_add] at hg hc hcc hncap
    have hap : (Builtin.append_ #[T, T] ope.type #[.slice none 0 0, .slice (some ⟨xb, xo, none⟩) m mc]).run X.P w = .ok (.slice (some ⟨w.heap.size, 0, none⟩) m ncap) (w.drew.alloc (cel e (xs ++ (Builtin.zeroCells z.cells (ncap - m)).toList))) := by
      simp [Builtin.append_, run_ul hu, run_sz hi, Builtin.lenOf, run_ti hi, hg, Builtin.firstCells, hsz, hload', run_zero hz, newRow, newObj, Sem.run, World.alloc_eq]
      rw [if_neg (by omega), if_neg (by rintro ⟨_, h⟩; omega), if_neg (by simp [Question.forced]), hncap]
      simp
      congr 2
      simp
    rw [hrun, hap]
    simp only [Result.andThen]
    refine ⟨by show _ ≤ (w.heap.push _).size; simp; omega, _, ?_, hs.st.drew.alloc _⟩
    have := hk w.drew.heap.size ncap (Builtin.zeroCells z.cells (ncap - m)).toList [] (by omega) (by rw [hzlen]; simp) (.inl ⟨rfl, .inl rfl⟩)
    simpa using this
  | @blk sb _ cap _ sp _ _ htake hl1 hl2 hl3 =>
    have hmem : (sb, cel e (old ++ sp)) ∈ C := (htake.perm.mem_iff).1 (List.mem_cons_self ..)
    by_cases hfit : n + m ≤ cap
    · -- there is room
      obtain ⟨C1, hu1, hperm⟩ := htake.upd (cel e (old ++ xs ++ sp.drop (m * sz)))
      have hsplit : sp = sp.take (m * sz) ++ sp.drop (m * sz) := (List.take_append_drop _ _).symm
      have hspl : m * sz ≤ sp.length := by rw [hl2]; exact Nat.mul_le_mul_right _ (by omega)
      have hu1' : Upd sb (cel e (old ++ sp.take (m * sz) ++ sp.drop (m * sz))) (cel e (old ++ xs ++ sp.drop (m * sz))) C C1 := by
        rw [List.append_assoc, ← hsplit]; exact hu1
      obtain ⟨w', hw', hst', hz'⟩ := run_storeRow (P := X.P) xs old (sp.take (m * sz)) (sp.drop (m * sz)) (n * sz) 0 C C1 w h1 (by omega) (by rw [List.length_take, hm]; omega) hu1' hs.st
      have hap : (Builtin.append_ #[T, T] ope.type #[.slice (some ⟨sb, 0, none⟩) n cap, .slice (some ⟨xb, xo, none⟩) m mc]).run X.P w = .ok (.slice (some ⟨sb, 0, none⟩) (n + m) cap) w' := by
        simp [Builtin.append_, run_ul hu, run_sz hi, Builtin.lenOf, hfit, Builtin.firstCells, hsz, hload, add_at, hw']
      rw [hrun, hap]
      simp only [Result.andThen]
      refine ⟨by rw [hz']; exact hN, _, ?_, hst'.perm hperm⟩
      refine hk sb cap (sp.drop (m * sz)) [] hfit ?_ (.inl ⟨rfl, .inr rfl⟩)
      rw [List.length_drop, hl2, ← Nat.sub_mul]
      congr 1; omega
    · have hmx : ¬ (((n + m : Nat) : Int) > IntKind.i64.max ∧ inf.bytes = 0) := by rw [hby]; exact fun h => hb0 h.2
      have hg := hgrow cap (by omega)
      have hc := hchoose cap e
      have hcc := hcut cap e (w.tape w.drawn (.appendCap (n + m) cap e))
      generalize hncap : Question.cut (.appendCap (n + m) cap e) (w.tape w.drawn (.appendCap (n + m) cap e)) = ncap at hc hcc
      have hload' := hxs.load hs.st.drew
      rw [hm] at hload'
      have hold : (loadCells ⟨sb, 0, none⟩ (n * sz)).run X.P w.drew = .ok old.toArray w.drew := by
        rw [← hl1]
        refine RowIn.load (X := X) (C := C) ?_ hs.st.drew
        exact RowIn.own hmem (by simp)
      have hap : (Builtin.append_ #[T, T] ope.type #[.slice (some ⟨sb, 0, none⟩) n cap, .slice (some ⟨xb, xo, none⟩) m mc]).run X.P w = .ok (.slice (some ⟨w.heap.size, 0, none⟩) (n + m) ncap) (w.drew.alloc (cel e (old ++ xs ++ (Builtin.zeroCells z.cells (ncap - (n + m))).toList))) := by
        simp [Builtin.append_, run_ul hu, run_sz hi, Builtin.lenOf, hfit, run_ti hi, hg, Builtin.firstCells, hsz, hload', hold, run_zero hz, newRow, newObj, Sem.run, World.alloc_eq]
        rw [if_neg (by rintro ⟨_, h⟩; omega), if_neg (by simp [Question.forced]), hncap]
        simp
        congr 2
        simp [← Array.append_assoc]
      rw [hrun, hap]
      simp only [Result.andThen]
      have hst2 := (hs.st.drew.perm htake.perm)
      refine ⟨by show _ ≤ (w.heap.push _).size; simp; omega, _, ?_, hst2.alloc _⟩
      have := hk w.drew.heap.size ncap (Builtin.zeroCells z.cells (ncap - (n + m))).toList [(sb, cel e (old ++ sp))] hcc (hzlen _) (.inr ⟨sb, cap, sp, rfl, rfl⟩)
      simpa using this


/-- a list still lies at a block -/
def Keep (l : List (Int × Int)) (b : Nat) (C : Chunks) : Prop := l ≠ [] → ∃ sp, (b, cel 31 (l.flatMap enc1 ++ sp)) ∈ C
theorem LRep.keep {l : List (Int × Int)} {sv : Value} {C : Chunks} (h : LRep l sv C) : ∃ ad cap b, sv = .slice ad l.length cap ∧ (l ≠ [] → ad = some ⟨b, 0, none⟩) ∧ l.length ≤ cap ∧ Keep l b C := by
  by_cases hne : l = []
  · obtain ⟨ad, cap, b, h1, h2, h3, -, -⟩ := h.form
    exact ⟨ad, cap, b, h1, h2, h3, fun h => absurd hne h⟩
  · obtain ⟨b, cap, sp, rfl, rfl, h3, -⟩ := h.full hne
    exact ⟨_, cap, b, rfl, fun _ => rfl, h3, fun _ => ⟨sp, .head _⟩⟩
theorem Keep.row {l : List (Int × Int)} {b : Nat} {K : Chunks} (h : Keep l b K) (X : Cx) (C1 C2 : Chunks) : RowIn X (C1 ++ (K ++ C2)) b 0 (l.flatMap enc1) := by
  by_cases hne : l = []
  · subst hne; intro w hs i v hi; simp at hi
  · obtain ⟨sp, hm⟩ := h hne
    exact RowIn.own (e := 31) (l := l.flatMap enc1 ++ sp) (fr := (0, 0)) (List.mem_append_right _ (List.mem_append_left _ hm)) (by simp)
theorem LRep.set {q : List (Int × Int)} {b cap : Nat} {sp : List Value} (h : q.length ≤ cap) (hs : sp.length = (cap - q.length) * 2) (n : Nat) (x : Int × Int) : LRep (q.set n x) (.slice (some ⟨b, 0, none⟩) q.length cap) [(b, cel 31 ((q.set n x).flatMap enc1 ++ sp))] := by
  unfold LRep
  rw [List.length_set]
  exact Owns.blk .head (by rw [flat_length enc1 2 enc1_length, List.length_set]) hs h
theorem Does.appendKT {X : Cx} {L : Env} {ds : List Deferred} {C : Chunks} {N : Nat} {κ : Value → Chunks → Prop} {x y : Operand} {mc xb xo : Nat} {l xs : List (Int × Int)} {sv : Value} (hP : X.P = Try.prog) (Cl Cn Cr : Chunks)
    (hx : ev L x = some sv) (hy : ev L y = some (.slice (some ⟨xb, xo, none⟩) xs.length mc)) (hC : C = Cl ++ (Cn ++ Cr)) (ho : LRep l sv Cn)
    (hxs : RowIn X C xb xo (xs.flatMap enc1)) (hne : xs ≠ []) (hroom : l.length + xs.length ≤ 4294967296)
    (hk : ∀ sv' Cn' Cx, LRep (l ++ xs) sv' Cn' → (∀ (b : Nat) (l0 ext : List (Int × Int)), l = l0 ++ ext → Keep l0 b Cn → Keep l0 b (Cn' ++ Cx)) → κ sv' (Cl ++ (Cn' ++ (Cx ++ Cr)))) : Does X N (.call ⟨.builtin .append, #[x, y], #[34, 34]⟩) .gen L ds C κ := by
  have ho2 := Owns.frame ho Cl Cr
  rw [← hC] at ho2
  have hpos : 1 ≤ xs.length := by cases xs with | nil => exact absurd rfl hne | cons _ _ => simp
  refine Does.perm (Does.appendK (m := xs.length) (mc := mc) hx hy (by rw [hP]; exact si34) (by rw [hP]; exact zl31) ho2 hxs (flat_length enc1 2 enc1_length xs) (fun v hv => ?_) hpos rfl (by decide) (by omega) fun rb rcap sp Cx hc hsp hcx => ?_)
  · obtain ⟨b, hb, hv⟩ := List.mem_flatMap.1 hv
    exact enc1_one b v hv
  · refine ⟨Cl ++ ([(rb, cel 31 ((l ++ xs).flatMap enc1 ++ sp))] ++ (Cx ++ Cr)), ?_, hk _ _ _ ?_ ?_⟩
    · rw [List.flatMap_append]
      classical exact List.perm_iff_count.2 fun q => by simp only [List.append_assoc, List.nil_append, List.cons_append, List.count_append, List.count_cons] <;> omega
    · rw [← List.length_append] at hc hsp ⊢
      exact Owns.blk .head (by rw [flat_length enc1 2 enc1_length]) hsp hc
    · rintro b l0 ext rfl hkp hl0
      obtain ⟨sp0, hm⟩ := hkp hl0
      obtain ⟨sb, scap, ssp, rfl, rfl, -, -⟩ := LRep.full ho (by simp [hl0])
      simp only [List.mem_singleton, Prod.mk.injEq] at hm
      obtain ⟨rfl, -⟩ := hm
      have hpl : 0 < l0.length := List.length_pos_iff.2 hl0
      rcases hcx with ⟨rfl, h0 | h0⟩ | ⟨sb2, cap2, sp2, h0, rfl⟩
      · rw [List.length_append] at h0; omega
      · simp only [Value.slice.injEq, Option.some.injEq, Addr.mk.injEq, and_true] at h0
        obtain ⟨rfl, -⟩ := h0
        exact ⟨ext.flatMap enc1 ++ (xs.flatMap enc1 ++ sp), by simp [List.flatMap_append]⟩
      · simp only [Value.slice.injEq, Option.some.injEq, Addr.mk.injEq, and_true] at h0
        obtain ⟨rfl, -⟩ := h0
        exact ⟨ext.flatMap enc1 ++ sp2, by simp [List.flatMap_append]⟩
theorem grown_ct (l : List (Int × Int)) (sv : Value) (Cl : Chunks) (b : Nat) (mk : Int) (hl : LRep l sv Cl) (hkp : Keep l b Cl) (hbig : l.length ≤ 16777216) :
    Ct Try.prog 38 [sv, .int .i64 mk].toArray (fun _ => True) Cl (fun v C' => ∃ C2 Cold, LRep (l ++ List.replicate 64 (mk, mk)) v C2 ∧ Keep l b (C2 ++ Cold) ∧ C' = C2 ++ Cold) := by
  refine ct_of_walk (fn := Try.f38) Try.func38 rfl rfl fun w0 hpre hst => ?_
  clear hst
  repeat refine G.seq ?_
  refine G.region [.loc] (.take 0 .done) rfl ?_
  refine GP.take rfl rfl (Does.assign rfl ?_)
  refine GP.keep [(0, _), (1, _)] (.cons rfl (.cons rfl .nil)) ?_
  repeat refine G.seq ?_
  refine G.region [.loc] (.take 0 .done) rfl ?_
  refine GP.take rfl rfl (Does.assign rfl ?_)
  refine GP.keep [(0, _), (1, _), (5, _)] (.cons rfl (.cons rfl (.cons rfl .nil))) ?_
  repeat refine G.seq ?_
  refine G.block ?_
  refine G.dropP [] (A := Cl ++ []) (by classical exact List.perm_iff_count.2 fun q => by simp only [List.count_append, List.count_nil] <;> omega) ?_
  refine G.loop (S := Nat × Value × Chunks × Chunks) (fun s => [(0, s.2.1), (1, .int .i64 mk), (5, .int .i64 (s.1 : Int))]) (fun s => s.2.2.1 ++ s.2.2.2) (fun s => s.1 ≤ 64 ∧ LRep (l ++ List.replicate s.1 (mk, mk)) s.2.1 s.2.2.1 ∧ Keep l b (s.2.2.1 ++ s.2.2.2)) (fun s => 64 - s.1)
    (0, sv, Cl, []) ⟨Nat.zero_le _, by simpa using hl, by simpa using hkp⟩ (.cons rfl (.cons rfl (.cons rfl .nil))) .all ?_
  rintro ⟨k, s2, C2, Cold⟩ ⟨hk, h2, hkp2⟩ IH
  simp only at hk h2 hkp2 IH ⊢
  repeat refine G.seq ?_
  refine G.region [.loc, .loc] (.take 0 (.take 1 .done)) rfl ?_
  refine GP.take rfl rfl (Does.move rfl ?_)
  refine GP.take rfl rfl (Does.lss rfl rfl rfl ?_)
  refine GP.keep [(0, _), (1, _), (5, _), (7, _)] (.cons rfl (.cons rfl (.cons rfl (.cons rfl .nil)))) ?_
  repeat refine G.seq ?_
  refine G.cond rfl ?_ ?_
  case refine_2 =>
    intro hz
    obtain rfl : k = 64 := by omega
    refine G.exit rfl ?_
    repeat refine G.seq ?_
    refine G.region [.loc, .loc] (.take 0 (.take 1 .done)) rfl ?_
    refine GP.take rfl rfl (Does.move rfl ?_)
    refine GP.take rfl rfl (Does.assign rfl ?_)
    refine GP.keep [(4, _)] (.cons rfl .nil) ?_
    exact fin_ret (fn := Try.f38) (R := []) Try.func38 (res1 rfl rfl) .all ⟨C2, Cold, h2, hkp2, rfl⟩
  intro hz
  refine G.skip ?_
  repeat refine G.seq ?_
  refine G.block ?_
  repeat refine G.seq ?_
  refine G.region [.loc, .loc, .loc, .loc, .alloc, .gen, .loc] (.take 0 (.take 1 (.take 2 (.take 3 (.take 4 (.take 5 (.take 6 .done))))))) rfl ?_
  refine GP.take rfl rfl (Does.move rfl ?_)
  refine GP.take rfl rfl (Does.move rfl ?_)
  refine GP.take rfl rfl (Does.move rfl ?_)
  refine GP.take rfl rfl (Does.build (r := [_, _]) (.cons rfl (.cons rfl .nil)) sp31 zl31 rfl ?_)
  refine GP.take rfl rfl (Does.buildSlice (r := [_, _]) (.cons rfl .nil) sl34 zl31 (by decide) rfl fun b14 N14 h14 n14 => ?_)
  refine GP.take rfl rfl (Does.appendKT rfl (l := l ++ List.replicate k (mk, mk)) (xs := [(mk, mk)]) (mc := 1) [(b14, cel 31 [.int .i64 mk, .int .i64 mk])] C2 Cold rfl rfl rfl h2 (RowIn.own (l := [.int .i64 mk, .int .i64 mk]) (vs := [(mk, mk)].flatMap enc1) (.head _) rfl) (by simp) (by simp only [List.length_append, List.length_replicate, List.length_cons, List.length_nil]; omega) ?_)
  intro s3 C3 Cx h3 hkx
  refine GP.take rfl rfl (Does.assign rfl ?_)
  refine GP.keep [(0, _), (1, _), (5, _)] (.cons rfl (.cons rfl (.cons rfl .nil))) ?_
  refine G.dropP [(b14, cel 31 [.int .i64 mk, .int .i64 mk])] (A := C3 ++ (Cx ++ Cold)) (by classical exact List.perm_iff_count.2 fun q => by simp only [List.nil_append, List.cons_append, List.count_append, List.count_cons, List.count_nil] <;> omega) ?_
  refine G.inBlock ?_
  repeat refine G.seq ?_
  refine G.region [.loc, .loc, .loc] (.take 0 (.take 1 (.take 2 .done))) rfl ?_
  refine GP.take rfl rfl (Does.move rfl ?_)
  refine GP.take rfl rfl (Does.add rfl rfl (r := ((k + 1 : Nat) : Int)) (wrc_i64 (by omega) (by omega) (by omega)) ?_)
  refine GP.take rfl rfl (Does.assign rfl ?_)
  refine GP.keep [(0, _), (1, _), (5, _)] (.cons rfl (.cons rfl (.cons rfl .nil))) ?_
  refine IH (k + 1, s3, C3, Cx ++ Cold) ⟨by simp only; omega, by simp only; rw [List.replicate_succ', ← List.append_assoc]; exact h3, fun hne => ?_⟩ (by simp only; omega)
  simp only
  obtain ⟨sp, hm⟩ := hkp2 hne
  rcases List.mem_append.1 hm with hm | hm
  · obtain ⟨sp', hm'⟩ := hkx b l _ rfl (fun _ => ⟨sp, hm⟩) hne
    refine ⟨sp', ?_⟩
    rw [← List.append_assoc]
    exact List.mem_append_left _ hm'
  · exact ⟨sp, List.mem_append_right _ (List.mem_append_right _ hm)⟩
def mks (mk : Int) (n : Nat) : List (Int × Int) := (List.range n).map fun i : Nat => (mk, mk - (i : Int))
theorem mks_length (mk : Int) (n : Nat) : (mks mk n).length = n := by simp [mks]
theorem mks_at (mk : Int) (n i : Nat) (h : i < n) : (mks mk n)[i]? = some (mk, mk - (i : Int)) := by simp [mks, h]
theorem marked_ct (l : List (Int × Int)) (sv : Value) (Cl : Chunks) (mk : Int) (hm1 : -100000 ≤ mk) (hm2 : mk ≤ 100000) (hl : LRep l sv Cl) (hbig : l.length ≤ 16777216) :
    Ct Try.prog 37 [sv, .int .i64 mk].toArray (fun _ => True) Cl (fun v C' => v = .tuple #[] ∧ LRep (mks mk l.length) sv C') := by
  obtain ⟨ad, cap, b0, hsv, -, -, -, -⟩ := hl.form
  subst hsv
  refine ct_of_walk (fn := Try.f37) Try.func37 rfl rfl fun w0 hpre hst => ?_
  clear hst
  repeat refine G.seq ?_
  refine G.region [.loc, .loc, .loc] (.take 0 (.take 1 (.take 2 .done))) rfl ?_
  refine GP.take rfl rfl (Does.move rfl ?_)
  refine GP.take rfl rfl (Does.len rfl is34 ?_)
  refine GP.take rfl rfl (Does.move rfl ?_)
  refine GP.keep [(0, _), (1, _), (6, _), (7, _)] (.cons rfl (.cons rfl (.cons rfl (.cons rfl .nil)))) ?_
  repeat refine G.seq ?_
  refine G.block ?_
  refine G.loop (S := List (Int × Int) × Chunks × Nat) (fun s => [(0, .slice ad l.length cap), (1, .int .i64 mk), (6, .int .i64 (l.length : Int)), (7, .int .i64 (s.2.2 : Int))]) (fun s => s.2.1) (fun s => s.2.2 ≤ l.length ∧ s.1.length = l.length ∧ LRep s.1 (.slice ad l.length cap) s.2.1 ∧ ∀ j, j < s.2.2 → s.1[j]? = some (mk, mk - (j : Int))) (fun s => l.length - s.2.2)
    (l, Cl, 0) ⟨Nat.zero_le _, rfl, hl, fun j h => absurd h (Nat.not_lt_zero j)⟩ (.cons rfl (.cons rfl (.cons rfl (.cons rfl .nil)))) .all ?_
  rintro ⟨q, C1, i⟩ ⟨hi, hq, h1, hall⟩ IH
  simp only at hi hq h1 hall IH ⊢
  repeat refine G.seq ?_
  refine G.region [.loc] (.take 0 .done) rfl ?_
  refine GP.take rfl rfl (Does.lss rfl rfl rfl ?_)
  refine GP.keep [(0, _), (1, _), (6, _), (7, _), (8, _)] (.cons rfl (.cons rfl (.cons rfl (.cons rfl (.cons rfl .nil))))) ?_
  repeat refine G.seq ?_
  refine G.cond rfl ?_ ?_
  case refine_2 =>
    intro hz
    obtain rfl : i = l.length := by omega
    refine G.exit rfl ?_
    have he : q = mks mk l.length := by
      refine List.ext_getElem? fun j => ?_
      rcases Nat.lt_or_ge j l.length with hj | hj
      · rw [hall j hj, mks_at mk _ j hj]
      · rw [List.getElem?_eq_none (by omega), List.getElem?_eq_none (by rw [mks_length]; omega)]
    rw [he] at h1
    exact fin_end (fn := Try.f37) (R := []) Try.func37 (res0 rfl) .all ⟨rfl, h1⟩
  intro hz
  have hil : i < l.length := by omega
  have hqne : q ≠ [] := by rintro rfl; simp at hq; omega
  obtain ⟨b, cap', sp, e, rfl, hc, hsp⟩ := h1.full hqne
  simp only [Value.slice.injEq] at e
  obtain ⟨rfl, -, rfl⟩ := e
  refine G.skip ?_
  repeat refine G.seq ?_
  refine G.block ?_
  repeat refine G.seq ?_
  refine G.region [.loc, .loc] (.take 0 (.take 1 .done)) rfl ?_
  refine GP.take rfl rfl (Does.move rfl ?_)
  refine GP.take rfl rfl (Does.assign rfl ?_)
  refine GP.keep [(0, _), (1, _), (4, _), (6, _), (7, _)] (.cons rfl (.cons rfl (.cons rfl (.cons rfl (.cons rfl .nil))))) ?_
  repeat refine G.seq ?_
  refine G.region [.loc, .loc, .loc, .loc, .loc, .loc, .loc, .loc, .gen] (.take 0 (.take 1 (.take 2 (.take 3 (.take 4 (.take 5 (.take 6 (.take 7 (.take 8 .done))))))))) rfl ?_
  refine GP.take rfl rfl (Does.move rfl ?_)
  refine GP.take rfl rfl (Does.move rfl ?_)
  refine GP.take rfl rfl (Does.move rfl ?_)
  refine GP.take rfl rfl (Does.move rfl ?_)
  refine GP.take rfl rfl (Does.move rfl ?_)
  refine GP.take rfl rfl (Does.sub rfl rfl (r := mk - (i : Int)) (wr_i64 (by omega) (by omega)) ?_)
  refine GP.take rfl rfl (Does.build (r := [_, _]) (.cons rfl (.cons rfl .nil)) sp31 zl31 rfl ?_)
  refine GP.take rfl rfl (Does.indexAddr i rfl rfl sl34 rfl hil ?_)
  refine GP.take0 rfl (Does.storeA rfl rfl sz31 .head (flat_set enc1 2 enc1_length enc1_one q sp i (by omega) (mk, mk - (i : Int))) ?_)
  refine GP.keep [(0, _), (1, _), (6, _), (7, _)] (.cons rfl (.cons rfl (.cons rfl (.cons rfl .nil)))) ?_
  refine G.inBlock ?_
  repeat refine G.seq ?_
  refine G.region [.loc, .loc] (.take 0 (.take 1 .done)) rfl ?_
  refine GP.take rfl rfl (Does.add rfl rfl (r := ((i + 1 : Nat) : Int)) (wrc_i64 (by omega) (by omega) (by omega)) ?_)
  refine GP.take rfl rfl (Does.move rfl ?_)
  refine GP.keep [(0, _), (1, _), (6, _), (7, _)] (.cons rfl (.cons rfl (.cons rfl (.cons rfl .nil)))) ?_
  refine IH (q.set i (mk, mk - (i : Int)), [(b, cel 31 ((q.set i (mk, mk - (i : Int))).flatMap enc1 ++ sp))], i + 1) ⟨by simp only; omega, by simpa using hq, by have := LRep.set (b := b) hc hsp i (mk, mk - (i : Int)); rw [hq] at this; exact this, fun j hj => ?_⟩ (by simp only; omega)
  simp only at hj ⊢
  by_cases hji : j = i
  · subst hji; rw [List.getElem?_set_self (by omega)]
  · rw [List.getElem?_set_ne (Ne.symm hji)]; exact hall j (by omega)
theorem stands_ct (n : Nat) (mk bh : Int) (hm1 : -100000 ≤ mk) (hm2 : mk ≤ 100000) (ad ad2 : Option Addr) (cap cap2 b b2 : Nat) (had : mks mk n ≠ [] → ad = some ⟨b, 0, none⟩) (had2 : mks mk n ++ List.replicate 64 (bh, bh) ≠ [] → ad2 = some ⟨b2, 0, none⟩) (hbig : n ≤ 16777216) :
    Ct Try.prog 39 [.slice ad (mks mk n).length cap, .slice ad2 (mks mk n ++ List.replicate 64 (bh, bh)).length cap2, .int .i64 mk, .int .i64 bh].toArray (fun w => At w b 0 ((mks mk n).flatMap enc1) ∧ At w b2 0 ((mks mk n ++ List.replicate 64 (bh, bh)).flatMap enc1)) [] (fun v C' => v = .bool true ∧ C' = []) := by
  have hl2 : (mks mk n ++ List.replicate 64 (bh, bh)).length = n + 64 := by rw [List.length_append, mks_length, List.length_replicate]
  have hl2ne : mks mk n ++ List.replicate 64 (bh, bh) ≠ [] := by intro h; rw [h] at hl2; simp at hl2
  obtain rfl := had2 hl2ne
  have hl1 := mks_length mk n
  have hat1 : ∀ i, (h : i < n) → (mks mk n)[i]? = some (mk, mk - (i : Int)) := mks_at mk n
  have hat2 : ∀ i, (h : i < n) → (mks mk n ++ List.replicate 64 (bh, bh))[i]? = some (mk, mk - (i : Int)) := fun i h => by rw [List.getElem?_append_left (by omega)]; exact hat1 i h
  have hat3 : ∀ i, n ≤ i → i < n + 64 → (mks mk n ++ List.replicate 64 (bh, bh))[i]? = some (bh, bh) := fun i h1 h2 => by rw [List.getElem?_append_right (by omega), List.getElem?_replicate, if_pos (by omega)]
  generalize mks mk n ++ List.replicate 64 (bh, bh) = all at *
  generalize mks mk n = l at *
  refine ct_of_walk (fn := Try.f39) Try.func39 rfl rfl fun w0 hpre hst => ?_
  clear hst
  repeat refine G.seq ?_
  obtain ⟨hp1, hp2⟩ := hpre
  rw [hl1, hl2]
  have hrow : ∀ (l : List (Int × Int)) (b i : Nat) (x : Int × Int), At w0 b 0 (l.flatMap enc1) → l[i]? = some x → b < w0.heap.size ∧ ∀ C, RowIn (cxF Try.prog 39 Try.f39.ntmps w0 (List.map Prod.fst ([] : Chunks)) fun v C' => v = .bool true ∧ C' = []) C b (0 + i * 2) (enc1 x) := fun l b i x h hx => by
    obtain ⟨hi, he⟩ := List.getElem?_eq_some_iff.1 hx
    refine ⟨At.lt h i hi, fun C => ?_⟩
    have := At.old (X := cxF Try.prog 39 Try.f39.ntmps w0 (List.map Prod.fst ([] : Chunks)) fun v C' => v = .bool true ∧ C' = []) (C := C) (by simp) h i hi
    rw [he] at this
    exact this
  refine G.region [.loc] (.take 0 .done) rfl ?_
  refine GP.take rfl rfl (Does.assign rfl ?_)
  refine GP.keep [(0, _), (1, _), (2, _), (3, _)] (.cons rfl (.cons rfl (.cons rfl (.cons rfl .nil)))) ?_
  repeat refine G.seq ?_
  refine G.region [.loc, .loc, .loc] (.take 0 (.take 1 (.take 2 .done))) rfl ?_
  refine GP.take rfl rfl (Does.move rfl ?_)
  refine GP.take rfl rfl (Does.len rfl is34 ?_)
  refine GP.take rfl rfl (Does.move rfl ?_)
  refine GP.keep [(0, _), (1, _), (2, _), (3, _), (12, _), (13, _)] (.cons rfl (.cons rfl (.cons rfl (.cons rfl (.cons rfl (.cons rfl .nil)))))) ?_
  repeat refine G.seq ?_
  refine G.block ?_
  refine G.loop (S := Nat) (fun i => [(0, .slice ad n cap), (1, .slice (some ⟨b2, 0, none⟩) (n + 64) cap2), (2, .int .i64 mk), (3, .int .i64 bh), (12, .int .i64 (n : Int)), (13, .int .i64 (i : Int))]) (fun _ => []) (fun i => i ≤ n) (fun i => n - i)
    0 (Nat.zero_le _) (.cons rfl (.cons rfl (.cons rfl (.cons rfl (.cons rfl (.cons rfl .nil)))))) .all ?_
  intro i hi IH
  repeat refine G.seq ?_
  refine G.region [.loc] (.take 0 .done) rfl ?_
  refine GP.take rfl rfl (Does.lss rfl rfl rfl ?_)
  refine GP.keep [(0, _), (1, _), (2, _), (3, _), (12, _), (13, _), (14, _)] (.cons rfl (.cons rfl (.cons rfl (.cons rfl (.cons rfl (.cons rfl (.cons rfl .nil))))))) ?_
  repeat refine G.seq ?_
  refine G.cond rfl ?_ ?_
  case refine_1 =>
    intro hz
    have hil : i < n := by omega
    have hlne : l ≠ [] := by rintro rfl; simp at hl1; omega
    obtain rfl := had hlne
    obtain ⟨hlt1, hr1⟩ := hrow l b i _ hp1 (hat1 i hil)
    obtain ⟨hlt2, hr2⟩ := hrow all b2 i _ hp2 (hat2 i hil)
    refine G.skip ?_
    repeat refine G.seq ?_
    refine G.block ?_
    repeat refine G.seq ?_
    refine G.region [.loc, .loc] (.take 0 (.take 1 .done)) rfl ?_
    refine GP.take rfl rfl (Does.move rfl ?_)
    refine GP.take rfl rfl (Does.assign rfl ?_)
    refine GP.keep [(0, _), (1, _), (2, _), (3, _), (9, _), (12, _), (13, _)] (.cons rfl (.cons rfl (.cons rfl (.cons rfl (.cons rfl (.cons rfl (.cons rfl .nil))))))) ?_
    repeat refine G.seq ?_
    refine G.draw [.loc, .loc, .loc, .load, .loc, .loc, .loc, .loc, .loc, .loc, .loc, .loc, .loc, .loc, .load, .loc, .loc, .loc, .load, .loc, .loc] (.take 0 (.take 1 (.take 2 (.take 4 (.take 5 (.take 6 (.take 7 (.take 8 (.take 3 (.take 9 (.take 10 (.take 11 (.take 12 (.take 13 (.take 15 (.take 16 (.take 17 (.take 14 (.take 18 (.take 19 (.take 20 .done))))))))))))))))))))) (by exact mixed) (by kernel_rfl) ?_
    intro N hN0 hN
    refine GP.take rfl rfl (Does.move rfl ?_)
    refine GP.take rfl rfl (Does.move rfl ?_)
    refine GP.take rfl rfl (Does.indexAddr i rfl rfl sl34 rfl hil ?_)
    refine GP.take rfl rfl (Does.move rfl ?_)
    refine GP.take rfl rfl (Does.move rfl ?_)
    refine GP.take rfl rfl (Does.move rfl ?_)
    refine GP.take rfl rfl (Does.sub rfl rfl (r := mk - (i : Int)) (wr_i64 (by omega) (by omega)) ?_)
    refine GP.take rfl rfl (Does.build (r := [_, _]) (.cons rfl (.cons rfl .nil)) sp31 zl31 rfl ?_)
    refine GP.take rfl rfl (Does.loadAN (vs := enc1 (mk, mk - (i : Int))) rfl ag31 (Nat.lt_of_lt_of_le hlt1 hN0) (hr1 _) ?_)
    refine GP.take rfl rfl (Does.neqA (b := true) rfl rfl gd31 (fun w => by have := eq31 (mk, mk - (i : Int)) (mk, mk - (i : Int)) w; simpa using this) rfl ?_)
    refine GP.take rfl rfl (Does.move rfl ?_)
    refine GP.takeG rfl rfl rfl rfl (Does.move rfl ?_)
    refine GP.takeG rfl rfl rfl rfl (Does.move rfl ?_)
    refine GP.takeG rfl rfl rfl rfl (Does.indexAddr i rfl rfl sl34 rfl (by omega) ?_)
    refine GP.takeG rfl rfl rfl rfl (Does.move rfl ?_)
    refine GP.takeG rfl rfl rfl rfl (Does.move rfl ?_)
    refine GP.takeG rfl rfl rfl rfl (Does.indexAddr i rfl rfl sl34 rfl hil ?_)
    refine GP.takeG rfl rfl rfl rfl (Does.loadAN (vs := enc1 (mk, mk - (i : Int))) rfl ag31 (Nat.lt_of_lt_of_le hlt2 hN0) (hr2 _) ?_)
    refine GP.takeG rfl rfl rfl rfl (Does.loadAN (vs := enc1 (mk, mk - (i : Int))) rfl ag31 (Nat.lt_of_lt_of_le hlt1 hN0) (hr1 _) ?_)
    refine GP.takeG rfl rfl rfl rfl (Does.neqA (b := true) rfl rfl gd31 (fun w => by have := eq31 (mk, mk - (i : Int)) (mk, mk - (i : Int)) w; simpa using this) rfl ?_)
    refine GP.take rfl rfl (Does.pickF rfl rfl ?_)
    refine GP.keep [(0, _), (1, _), (2, _), (3, _), (12, _), (13, _), (36, _)] (.cons rfl (.cons rfl (.cons rfl (.cons rfl (.cons rfl (.cons rfl (.cons rfl .nil))))))) ?_
    refine G.condF rfl ?_
    refine G.skip ?_
    refine G.inBlock ?_
    repeat refine G.seq ?_
    refine G.region [.loc, .loc] (.take 0 (.take 1 .done)) rfl ?_
    refine GP.take rfl rfl (Does.add rfl rfl (r := ((i + 1 : Nat) : Int)) (wrc_i64 (by omega) (by omega) (by omega)) ?_)
    refine GP.take rfl rfl (Does.move rfl ?_)
    refine GP.keep [(0, _), (1, _), (2, _), (3, _), (12, _), (13, _)] (.cons rfl (.cons rfl (.cons rfl (.cons rfl (.cons rfl (.cons rfl .nil)))))) ?_
    exact IH (i + 1) (by omega) (by omega)
  intro hz
  clear IH
  refine G.exit rfl ?_
  repeat refine G.seq ?_
  refine G.region [.loc, .loc, .loc] (.take 0 (.take 1 (.take 2 .done))) rfl ?_
  refine GP.take rfl rfl (Does.move rfl ?_)
  refine GP.take rfl rfl (Does.len rfl is34 ?_)
  refine GP.take rfl rfl (Does.assign rfl ?_)
  refine GP.keep [(0, _), (1, _), (2, _), (3, _), (10, _)] (.cons rfl (.cons rfl (.cons rfl (.cons rfl (.cons rfl .nil))))) ?_
  repeat refine G.seq ?_
  refine G.block ?_
  refine G.loop (S := Nat) (fun i => [(0, .slice ad n cap), (1, .slice (some ⟨b2, 0, none⟩) (n + 64) cap2), (2, .int .i64 mk), (3, .int .i64 bh), (10, .int .i64 (i : Int))]) (fun _ => []) (fun i => n ≤ i ∧ i ≤ n + 64) (fun i => n + 64 - i)
    n ⟨Nat.le_refl _, by omega⟩ (.cons rfl (.cons rfl (.cons rfl (.cons rfl (.cons rfl .nil))))) .all ?_
  clear hz hi i
  intro i hi IH
  repeat refine G.seq ?_
  refine G.region [.loc, .loc, .loc, .loc] (.take 0 (.take 1 (.take 2 (.take 3 .done)))) rfl ?_
  refine GP.take rfl rfl (Does.move rfl ?_)
  refine GP.take rfl rfl (Does.move rfl ?_)
  refine GP.take rfl rfl (Does.len rfl is34 ?_)
  refine GP.take rfl rfl (Does.lss rfl rfl rfl ?_)
  refine GP.keep [(0, _), (1, _), (2, _), (3, _), (10, _), (43, _)] (.cons rfl (.cons rfl (.cons rfl (.cons rfl (.cons rfl (.cons rfl .nil)))))) ?_
  repeat refine G.seq ?_
  refine G.cond rfl ?_ ?_
  case refine_1 =>
    intro hz
    obtain ⟨hlt2, hr2⟩ := hrow all b2 i _ hp2 (hat3 i (by omega) (by omega))
    refine G.skip ?_
    repeat refine G.seq ?_
    refine G.block ?_
    repeat refine G.seq ?_
    refine G.region [.loc, .loc, .loc, .gen, .loc, .loc, .loc, .loc] (.take 0 (.take 1 (.take 2 (.take 3 (.take 4 (.take 5 (.take 6 (.take 7 .done)))))))) rfl ?_
    refine GP.take rfl rfl (Does.move rfl ?_)
    refine GP.take rfl rfl (Does.move rfl ?_)
    refine GP.take rfl rfl (Does.indexAddr i rfl rfl sl34 rfl (by omega) ?_)
    refine GP.take rfl rfl (Does.loadA (vs := enc1 (bh, bh)) rfl ag31 (hr2 _) ?_)
    refine GP.take rfl rfl (Does.move rfl ?_)
    refine GP.take rfl rfl (Does.move rfl ?_)
    refine GP.take rfl rfl (Does.build (r := [_, _]) (.cons rfl (.cons rfl .nil)) sp31 zl31 rfl ?_)
    refine GP.take rfl rfl (Does.neqA (b := true) rfl rfl gd31 (fun w => by have := eq31 (bh, bh) (bh, bh) w; simpa using this) rfl ?_)
    refine GP.keep [(0, _), (1, _), (2, _), (3, _), (10, _), (53, _)] (.cons rfl (.cons rfl (.cons rfl (.cons rfl (.cons rfl (.cons rfl .nil)))))) ?_
    repeat refine G.seq ?_
    refine G.condF rfl ?_
    refine G.skip ?_
    refine G.inBlock ?_
    repeat refine G.seq ?_
    refine G.region [.loc, .loc, .loc] (.take 0 (.take 1 (.take 2 .done))) rfl ?_
    refine GP.take rfl rfl (Does.move rfl ?_)
    refine GP.take rfl rfl (Does.add rfl rfl (r := ((i + 1 : Nat) : Int)) (wrc_i64 (by omega) (by omega) (by omega)) ?_)
    refine GP.take rfl rfl (Does.assign rfl ?_)
    refine GP.keep [(0, _), (1, _), (2, _), (3, _), (10, _)] (.cons rfl (.cons rfl (.cons rfl (.cons rfl (.cons rfl .nil))))) ?_
    exact IH (i + 1) (by omega) (by omega)
  intro hz
  clear IH
  refine G.exit rfl ?_
  repeat refine G.seq ?_
  refine G.region [.loc, .loc, .loc, .loc, .loc, .loc, .loc] (.take 0 (.take 1 (.take 2 (.take 3 (.take 4 (.take 5 (.take 6 .done))))))) rfl ?_
  refine GP.take rfl rfl (Does.move rfl ?_)
  refine GP.take rfl rfl (Does.len rfl is34 ?_)
  refine GP.take rfl rfl (Does.move rfl ?_)
  refine GP.take rfl rfl (Does.len rfl is34 ?_)
  refine GP.take rfl rfl (Does.add rfl rfl (r := ((n + 64 : Nat) : Int)) (wrc_i64 (by omega) (by omega) (by omega)) ?_)
  refine GP.take rfl rfl (Does.eql rfl rfl (show decide (((n + 64 : Nat) : Int) = ((n + 64 : Nat) : Int)) = true by simp) ?_)
  refine GP.take rfl rfl (Does.assign rfl ?_)
  refine GP.keep [(8, _)] (.cons rfl .nil) ?_
  exact fin_ret (fn := Try.f39) Try.func39 (res1 rfl rfl) .nil ⟨rfl, rfl⟩
theorem sortI_keys (l : List (Int × Int)) : (sortF cmpK l).Pairwise (fun a b => a.1 ≤ b.1) := by
  rw [sortF_map, List.pairwise_map]
  exact (sortI_sorted lawK l).imp fun {a b} h => by rw [leK] at h; omega
theorem sort_self (l : List (Int × Int)) (h : l.Pairwise (fun a b => a.1 ≤ b.1)) : sortF cmpK l = l := by
  have hz : (l.zipIdx 0).Pairwise (Le cmpK) := by
    rw [List.pairwise_iff_getElem]
    intro i j hi hj hij
    simp only [List.length_zipIdx] at hi hj
    have := List.pairwise_iff_getElem.1 h i j hi hj hij
    rw [leK]
    simp
    omega
  have he : sortI cmpK l = l.zipIdx 0 := by
    refine List.Perm.eq_of_pairwise (le := Le cmpK) (fun a b ha hb h1 h2 => ?_) (sortI_sorted lawK l) hz (sortI_perm cmpK l)
    have e := antiK a b h1 h2
    have ha' := (sortI_perm cmpK l).mem_iff.1 ha
    have h1 := List.mem_zipIdx_iff_getElem?.1 ha'
    have h2 := List.mem_zipIdx_iff_getElem?.1 hb
    rw [e, h2] at h1
    simp only [Option.some.injEq] at h1
    exact Prod.ext h1.symm e
  rw [sortF_map, he]
  simp
end Go.Proofs.Ytcgenmfnlocbbaa.T
