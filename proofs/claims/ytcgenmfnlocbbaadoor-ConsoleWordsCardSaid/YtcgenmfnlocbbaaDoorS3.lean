/- Append of zeros in the small program logic. Nothing is claimed of the program here. -/
import Derived.Test.YtcgenmfnlocbbaaDoorR1
namespace Go.Lg
theorem Does.appendZ {X : Cx} {L : Env} {ds : List Deferred} {C : Chunks} {N : Nat} {κ : Value → Chunks → Prop} {x y : Operand} {T T2 e sz by_ n : Nat} {old zs : List Value} {sv : Value} {Cr : Chunks} (hT2 : X.P.underlying T2 = some (.int .i64)) (hsz0 : sz ≠ 0) (hone : ∀ j, oneC (zs.toArray[j % zs.toArray.size]!) = true)
    (hx : ev L x = some sv) (hy : ev L y = some (.int .i64 64)) (hT : sliceInfo X.P T = some (e, sz, by_)) (hz : zeroL X.P e = some zs) (ho : Owns e sz sv n old C Cr)
    (hzs : zs.length = sz) (hb0 : by_ ≠ 0) (hroom : (2 * (n + 64) + 192) * by_ ≤ 281474976710656)
    (hk : ∀ rb rcap sp Cx, n + 64 ≤ rcap → sp.length = (rcap - (n + 64)) * sz → ((Cx = [] ∧ (n = 0 ∨ sv = .slice (some ⟨rb, 0, none⟩) n rcap)) ∨ ∃ sb cap sp0, sv = .slice (some ⟨sb, 0, none⟩) n cap ∧ Cx = [(sb, cel e (old ++ sp0))]) → κ (.slice (some ⟨rb, 0, none⟩) (n + 64) rcap) ((rb, cel e (old ++ (zerosL zs (64 * sz)) ++ sp)) :: (Cx ++ Cr))) :
    Does X N (.call ⟨.builtin .append, #[x, y], #[T, T2]⟩) .gen L ds C κ := by
  obtain ⟨m, hmm⟩ : ∃ m, m = 64 := ⟨_, rfl⟩
  obtain ⟨xs, hxx⟩ : ∃ xs, xs = (zerosL zs (64 * sz)) := ⟨_, rfl⟩
  rw [← hxx] at hk
  rw [← hmm] at hroom hk
  intro ope hop a w hs hN
  obtain ⟨hu, inf, hi, hsz, hby⟩ := sliceInfo_spec hT
  simp only [zeroL, Option.map_eq_some_iff] at hz
  obtain ⟨z, hz, rfl⟩ := hz
  have hm : xs.length = m * sz := by rw [hxx, hmm]; simp [zerosL]
  have hm1 : 1 ≤ m := by omega
  have h1 : ∀ v ∈ xs, oneC v = true := fun v hv => by
    rw [hxx] at hv
    obtain ⟨j, -, rfl⟩ := List.mem_map.1 hv
    exact hone j
  have hw64 : IntKind.i64.wrap 64 = 64 := by decide
  have hxz : (Builtin.zeroCells z.cells 64) = xs.toArray := by
    rw [hxx]
    have hsz' : z.cells.size = sz := by simpa using hzs
    apply Array.ext'
    simp [Builtin.zeroCells, zerosL, hsz']
  subst hmm
  have hby1 : 1 ≤ by_ := Nat.one_le_iff_ne_zero.2 hb0
  have hb64 : ¬ (64 * inf.bytes > 281474976710656) := by
    rw [hby]
    exact Nat.not_lt.2 (Nat.le_trans (Nat.mul_le_mul_right by_ (by omega)) hroom)
  have hnm : n + 64 ≤ 281474976710656 := by
    have h9 := Nat.mul_le_mul_left (2 * (n + 64) + 192) hby1
    omega
  have hmax : IntKind.i64.max = 9223372036854775807 := by decide
  have hasi : ∀ w, (asIntOf (Value.int .i64 64)).run X.P w = .ok (IntKind.i64, 64) w := fun _ => rfl
  have hb64i : ¬ ((281474976710656 : Int) < 64 * (inf.bytes : Int)) := by omega
  have hs64 : ¬ (64 * sz = 0) := by omega
  have hrun : (execOp a.eval ope).run X.P w = ((Builtin.append_ #[T, T2] ope.type #[sv, .int .i64 64]).run X.P w).andThen fun v w' => .ok (.value v) w' := by
    unfold execOp; rw [hop]
    simp [resolve, invoke, builtin, hs.ev hx, hs.ev hy]
  have hfo : ∀ (sb cap : Nat) (w : World), (Builtin.firstCells sz n (.slice (some ⟨sb, 0, none⟩) n cap)).run X.P w = (loadCells ⟨sb, 0, none⟩ (n * sz)).run X.P w := fun _ _ _ => rfl
  have hfn : ∀ (w : World), (Builtin.firstCells sz 0 (.slice none 0 0)).run X.P w = .ok #[] w := fun _ => rfl
  have hgrow : ∀ cap, cap < n + 64 → ¬ ((Builtin.nextslicecap (n + 64) cap : Nat) * inf.bytes > 281474976710656) := by
    intro cap hc
    have h2 := Nat.mul_le_mul_right by_ (nextslicecap_le hc)
    rw [hby]; omega
  have hchoose : ∀ cap q, (choose (.appendCap (n + 64) cap q)).run X.P w = .ok (Question.cut (.appendCap (n + 64) cap q) (w.tape w.drawn (.appendCap (n + 64) cap q))) w.drew := by
    intro cap q; rfl
  have hcut : ∀ cap q t, n + 64 ≤ Question.cut (.appendCap (n + 64) cap q) t := by intro cap q t; simp only [Question.cut]; omega
  have hzlen : ∀ q, (Builtin.zeroCells z.cells q).toList.length = q * sz := by
    intro q
    have : z.cells.size = sz := by simpa using hzs
    simp [Builtin.zeroCells, this]
  simp only [opS]
  cases ho with
  | nil =>
    have hn0 : ¬ (64 ≤ 0) := by omega
    have hmx : ¬ (((64 : Nat) : Int) > IntKind.i64.max ∧ inf.bytes = 0) := by rw [hby]; exact fun h => hb0 h.2
    have hg := hgrow 0 (by omega)
    have hc := hchoose 0 e
    have hcc := hcut 0 e (w.tape w.drawn (.appendCap (0 + 64) 0 e))
    generalize hncap : Question.cut (.appendCap (0 + 64) 0 e) (w.tape w.drawn (.appendCap (0 + 64) 0 e)) = ncap at hc hcc
    simp only [Nat.zero_add] at hg hc hcc hncap
    have hap : (Builtin.append_ #[T, T2] ope.type #[.slice none 0 0, .int .i64 64]).run X.P w = .ok (.slice (some ⟨w.heap.size, 0, none⟩) 64 ncap) (w.drew.alloc (cel e (xs ++ (Builtin.zeroCells z.cells (ncap - 64)).toList))) := by
      simp [Builtin.append_, run_ul hu, run_sz hi, Builtin.lenOf, hn0, run_ti hi, hmx, hg, hc, hsz, hfo, hfn, run_ul hT2, hw64, asInt, hxz, hb64, hb64i, hasi, hmax, hs64, run_ti hi, run_zero hz, run_zero hz, newRow, newObj, Sem.run, World.alloc_eq]
      repeat rw [if_neg (by first | omega | (simp [Question.forced]; done))]
      rw [hncap]
      simp
      congr 2
      simp
    rw [hrun, hap]
    simp only [Result.andThen]
    refine ⟨by show _ ≤ (w.heap.push _).size; simp; omega, _, ?_, hs.st.drew.alloc _⟩
    have := hk w.drew.heap.size ncap (Builtin.zeroCells z.cells (ncap - 64)).toList [] (by omega) (by rw [hzlen]) (.inl ⟨rfl, .inl rfl⟩)
    simpa using this
  | @blk sb _ cap _ sp _ _ htake hl1 hl2 hl3 =>
    have hmem : (sb, cel e (old ++ sp)) ∈ C := (htake.perm.mem_iff).1 (List.mem_cons_self ..)
    by_cases hfit : n + 64 ≤ cap
    · -- there is room
      obtain ⟨C1, hu1, hperm⟩ := htake.upd (cel e (old ++ xs ++ sp.drop (64 * sz)))
      have hsplit : sp = sp.take (64 * sz) ++ sp.drop (64 * sz) := (List.take_append_drop _ _).symm
      have hspl : 64 * sz ≤ sp.length := by rw [hl2]; exact Nat.mul_le_mul_right _ (by omega)
      have hu1' : Upd sb (cel e (old ++ sp.take (64 * sz) ++ sp.drop (64 * sz))) (cel e (old ++ xs ++ sp.drop (64 * sz))) C C1 := by
        rw [List.append_assoc, ← hsplit]; exact hu1
      obtain ⟨w', hw', hst', hz'⟩ := run_storeRow (P := X.P) xs old (sp.take (64 * sz)) (sp.drop (64 * sz)) (n * sz) 0 C C1 w h1 (by omega) (by rw [List.length_take, hm]; omega) hu1' hs.st
      have hap : (Builtin.append_ #[T, T2] ope.type #[.slice (some ⟨sb, 0, none⟩) n cap, .int .i64 64]).run X.P w = .ok (.slice (some ⟨sb, 0, none⟩) (n + 64) cap) w' := by
        simp [Builtin.append_, run_ul hu, run_sz hi, Builtin.lenOf, hfit, hsz, hfo, hfn, run_ul hT2, hw64, asInt, hxz, hb64, hb64i, hasi, hmax, hs64, run_ti hi, run_zero hz, add_at, hw']
      rw [hrun, hap]
      simp only [Result.andThen]
      refine ⟨by rw [hz']; exact hN, _, ?_, hst'.perm hperm⟩
      refine hk sb cap (sp.drop (64 * sz)) [] hfit ?_ (.inl ⟨rfl, .inr rfl⟩)
      rw [List.length_drop, hl2, ← Nat.sub_mul]
      congr 1 <;> omega
    · have hmx : ¬ (((n + 64 : Nat) : Int) > IntKind.i64.max ∧ inf.bytes = 0) := by rw [hby]; exact fun h => hb0 h.2
      have hg := hgrow cap (by omega)
      have hc := hchoose cap e
      have hcc := hcut cap e (w.tape w.drawn (.appendCap (n + 64) cap e))
      generalize hncap : Question.cut (.appendCap (n + 64) cap e) (w.tape w.drawn (.appendCap (n + 64) cap e)) = ncap at hc hcc
      have hold : (loadCells ⟨sb, 0, none⟩ (n * sz)).run X.P w.drew = .ok old.toArray w.drew := by
        rw [← hl1]
        refine RowIn.load (X := X) (C := C) ?_ hs.st.drew
        exact RowIn.own hmem (by simp)
      have hap : (Builtin.append_ #[T, T2] ope.type #[.slice (some ⟨sb, 0, none⟩) n cap, .int .i64 64]).run X.P w = .ok (.slice (some ⟨w.heap.size, 0, none⟩) (n + 64) ncap) (w.drew.alloc (cel e (old ++ xs ++ (Builtin.zeroCells z.cells (ncap - (n + 64))).toList))) := by
        simp [Builtin.append_, run_ul hu, run_sz hi, Builtin.lenOf, hfit, run_ti hi, hmx, hg, hc, hsz, hfo, hfn, run_ul hT2, hw64, asInt, hxz, hb64, hb64i, hasi, hmax, hs64, run_ti hi, run_zero hz, hold, run_zero hz, newRow, newObj, Sem.run, World.alloc_eq]
        repeat rw [if_neg (by first | omega | (simp [Question.forced]; done))]
        rw [hncap]
        simp
        congr 2
        simp [← Array.append_assoc]
      rw [hrun, hap]
      simp only [Result.andThen]
      have hst2 := (hs.st.drew.perm htake.perm)
      refine ⟨by show _ ≤ (w.heap.push _).size; simp; omega, _, ?_, hst2.alloc _⟩
      have := hk w.drew.heap.size ncap (Builtin.zeroCells z.cells (ncap - (n + 64))).toList [(sb, cel e (old ++ sp))] hcc (hzlen _) (.inr ⟨sb, cap, sp, rfl, rfl⟩)
      simpa using this

/-- where a list's memory lies, behind an append that may have left it -/
def Left {β : Type} (e : TypeId) (row : β → Value) (l : List β) (sv : Value) (rb rcap : Nat) (Cx : Chunks) : Prop :=
  (Cx = [] ∧ (l = [] ∨ sv = .slice (some ⟨rb, 0, none⟩) l.length rcap)) ∨ ∃ sb cap sp0, sv = .slice (some ⟨sb, 0, none⟩) l.length cap ∧ Cx = [(sb, cel e ((l.flatMap fun x => [row x]) ++ sp0))]
theorem Left.row {β : Type} {e : TypeId} {row : β → Value} {l ext : List β} {rb rcap b cap : Nat} {ad : Option Addr} {sp : List Value} {Cq : Chunks} (h : Left e row l (.slice ad l.length cap) rb rcap Cq) (had : l ≠ [] → ad = some ⟨b, 0, none⟩) (X : Cx) (Cl Cr : Chunks) :
    RowIn X (Cl ++ (((rb, cel e (((l ++ ext).flatMap fun x => [row x]) ++ sp)) :: Cq) ++ Cr)) b 0 (l.flatMap fun x => [row x]) := by
  by_cases hne : l = []
  · subst hne; intro w hs i v hi; simp at hi
  obtain rfl := had hne
  rcases h with ⟨rfl, h | h⟩ | ⟨sb, scap, sp0, h, rfl⟩
  · exact absurd h hne
  · simp only [Value.slice.injEq, Option.some.injEq, Addr.mk.injEq, and_true] at h
    obtain ⟨rfl, -⟩ := h
    exact RowIn.own (e := e) (l := ((l ++ ext).flatMap fun x => [row x]) ++ sp) (fr := (0, 0)) (List.mem_append_right _ (List.mem_append_left _ (.head _))) (by simp [List.flatMap_append])
  · simp only [Value.slice.injEq, Option.some.injEq, Addr.mk.injEq, and_true] at h
    obtain ⟨rfl, -⟩ := h
    exact RowIn.own (e := e) (l := (l.flatMap fun x => [row x]) ++ sp0) (fr := (0, 0)) (List.mem_append_right _ (List.mem_append_left _ (.tail _ (.head _)))) (by simp)
theorem Does.appendRZ {X : Cx} {L : Env} {ds : List Deferred} {C : Chunks} {N : Nat} {κ : Value → Chunks → Prop} {x y : Operand} {β : Type} {row : β → Value} {l : List β} {sv : Value} {T T2 e by_ : Nat} (z0 : β) (Cl Cn Cr : Chunks)
    (hx : ev L x = some sv) (hy : ev L y = some (.int .i64 64)) (hT2 : X.P.underlying T2 = some (.int .i64)) (hT : sliceInfo X.P T = some (e, 1, by_)) (hz : zeroL X.P e = some [row z0]) (hC : C = Cl ++ (Cn ++ Cr)) (ho : Rep e row l sv Cn) (h1 : ∀ x, oneC (row x) = true) (hb0 : by_ ≠ 0) (hroom : (2 * (l.length + 64) + 192) * by_ ≤ 281474976710656)
    (hk : ∀ rb rcap sp Cx, l.length + 64 ≤ rcap → Left e row l sv rb rcap Cx → κ (.slice (some ⟨rb, 0, none⟩) (l.length + 64) rcap) (Cl ++ (((rb, cel e (((l ++ List.replicate 64 z0).flatMap fun x => [row x]) ++ sp)) :: Cx) ++ Cr))) : Does X N (.call ⟨.builtin .append, #[x, y], #[T, T2]⟩) .gen L ds C κ := by
  have ho2 := Owns.frame ho Cl Cr
  rw [← hC] at ho2
  have hzz0 : ∀ k, zerosL [row z0] (k * 1) = (List.replicate k z0).flatMap fun x => [row x] := fun k => by
    rw [flat1, List.map_replicate]
    unfold zerosL
    refine List.ext_getElem (by simp) fun i h1 h2 => ?_
    simp [Nat.mod_one]
  have hzz := hzz0 64
  refine Does.perm (Does.appendZ hT2 (by decide) (fun j => by simp [Nat.mod_one, h1]) hx hy hT hz ho2 rfl hb0 hroom fun rb rcap sp Cx hc hsp hcx => ?_)
  refine ⟨Cl ++ (((rb, cel e (((l ++ List.replicate 64 z0).flatMap fun x => [row x]) ++ sp)) :: Cx) ++ Cr), ?_, hk _ _ _ _ hc ?_⟩
  · rw [List.flatMap_append, hzz]
    classical exact List.perm_iff_count.2 fun q => by simp only [List.append_assoc, List.append_eq, List.nil_append, List.cons_append, List.count_append, List.count_cons] <;> omega
  · rcases hcx with ⟨h2, h3 | h3⟩ | h2
    · exact .inl ⟨h2, .inl (List.eq_nil_of_length_eq_zero h3)⟩
    · exact .inl ⟨h2, .inr h3⟩
    · exact .inr h2
end Go.Lg
