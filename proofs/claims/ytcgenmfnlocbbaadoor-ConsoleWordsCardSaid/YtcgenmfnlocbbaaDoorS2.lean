/- Append of a string's bytes in the small program logic. Nothing is claimed of the program here. -/
import Derived.Test.YtcgenmfnlocbbaaDoorS1
namespace Go.Lg
theorem Does.appendS {X : Cx} {L : Env} {ds : List Deferred} {C : Chunks} {N : Nat} {κ : Value → Chunks → Prop} {x y : Operand} {T T2 e sz by_ n : Nat} {old zs : List Value} {sv : Value} {Cr : Chunks} {l : List UInt8} (hT2 : X.P.underlying T2 = some .string) (hsz1 : sz = 1) (hm1 : 1 ≤ l.length)
    (hx : ev L x = some sv) (hy : ev L y = some (str l)) (hT : sliceInfo X.P T = some (e, sz, by_)) (hz : zeroL X.P e = some zs) (ho : Owns e sz sv n old C Cr)
    (hzs : zs.length = sz) (hb0 : by_ ≠ 0) (hroom : (2 * (n + l.length) + 192) * by_ ≤ 281474976710656)
    (hk : ∀ rb rcap sp, n + l.length ≤ rcap → sp.length = (rcap - (n + l.length)) * sz → κ (.slice (some ⟨rb, 0, none⟩) (n + l.length) rcap) ((rb, cel e (old ++ l.flatMap rowU ++ sp)) :: Cr)) :
    Does X N (.call ⟨.builtin .append, #[x, y], #[T, T2]⟩) .gen L ds C κ := by
  obtain ⟨m, hmm⟩ : ∃ m, m = l.length := ⟨_, rfl⟩
  obtain ⟨xs, hxx⟩ : ∃ xs, xs = l.flatMap rowU := ⟨_, rfl⟩
  rw [← hxx] at hk
  rw [← hmm] at hroom hk
  intro ope hop a w hs hN
  obtain ⟨hu, inf, hi, hsz, hby⟩ := sliceInfo_spec hT
  simp only [zeroL, Option.map_eq_some_iff] at hz
  obtain ⟨z, hz, rfl⟩ := hz
  have hm : xs.length = m * sz := by rw [hsz1, hxx, flat_length rowU 1 rowU_length, hmm]
  have h1 : ∀ v ∈ xs, oneC v = true := fun v hv => by
    rw [hxx] at hv
    obtain ⟨b, _, hv⟩ := List.mem_flatMap.1 hv
    exact rowU_one b v hv
  have hfs : ∀ w, (Builtin.firstCells sz m (.string ⟨l.toArray⟩)).run X.P w = .ok xs.toArray w := fun w => by
    have he : (⟨l.toArray⟩ : ByteArray).extract 0 m = ⟨l.toArray⟩ := by rw [ba_extract, hmm]; simp
    simp [Builtin.firstCells, he, hxx, rowU_map, Sem.run]
  have hbs : (⟨l.toArray⟩ : ByteArray).size = m := by rw [ba_size, hmm]
  rw [← hmm] at hm1
  have hrun : (execOp a.eval ope).run X.P w = ((Builtin.append_ #[T, T2] ope.type #[sv, .string ⟨l.toArray⟩]).run X.P w).andThen fun v w' => .ok (.value v) w' := by
    unfold execOp; rw [hop]
    simp [resolve, invoke, builtin, hs.ev hx, hs.ev hy, str]
  have hfo : ∀ (sb cap : Nat) (w : World), (Builtin.firstCells sz n (.slice (some ⟨sb, 0, none⟩) n cap)).run X.P w = (loadCells ⟨sb, 0, none⟩ (n * sz)).run X.P w := fun _ _ _ => rfl
  have hfn : ∀ (w : World), (Builtin.firstCells sz 0 (.slice none 0 0)).run X.P w = .ok #[] w := fun _ => rfl
  have hgrow : ∀ cap, cap < n + m → ¬ ((Builtin.nextslicecap (n + m) cap : Nat) * inf.bytes > 281474976710656) := by
    intro cap hc
    have h2 := Nat.mul_le_mul_right by_ (nextslicecap_le hc)
    rw [hby]; omega
  have hchoose : ∀ cap q, (choose (.appendCap (n + m) cap q)).run X.P w = .ok (Question.cut (.appendCap (n + m) cap q) (w.tape w.drawn (.appendCap (n + m) cap q))) w.drew := by
    intro cap q; rfl
  have hcut : ∀ cap q t, n + m ≤ Question.cut (.appendCap (n + m) cap q) t := by intro cap q t; simp only [Question.cut]; omega
  have hzlen : ∀ q, (Builtin.zeroCells z.cells q).toList.length = q * sz := by
    intro q
    have : z.cells.size = sz := by simpa using hzs
    simp [Builtin.zeroCells, this]
  simp only [opS]
  cases ho with
  | nil =>
    have hn0 : ¬ (m ≤ 0) := by omega
    have hmx : ¬ ((m : Int) > IntKind.i64.max ∧ inf.bytes = 0) := by rw [hby]; exact fun h => hb0 h.2
    have hg := hgrow 0 (by omega)
    have hc := hchoose 0 e
    have hcc := hcut 0 e (w.tape w.drawn (.appendCap (0 + m) 0 e))
    generalize hncap : Question.cut (.appendCap (0 + m) 0 e) (w.tape w.drawn (.appendCap (0 + m) 0 e)) = ncap at hc hcc
    simp only [Nat.zero_add] at hg hc hcc hncap
    have hap : (Builtin.append_ #[T, T2] ope.type #[.slice none 0 0, .string ⟨l.toArray⟩]).run X.P w = .ok (.slice (some ⟨w.heap.size, 0, none⟩) m ncap) (w.drew.alloc (cel e (xs ++ (Builtin.zeroCells z.cells (ncap - m)).toList))) := by
      simp [Builtin.append_, run_ul hu, run_sz hi, Builtin.lenOf, hn0, run_ti hi, hmx, hg, hc, hsz, hfs, hfo, hfn, run_ul hT2, hbs, run_zero hz, newRow, newObj, Sem.run, World.alloc_eq]
      rw [if_neg (by omega), if_neg (by rintro ⟨_, h⟩; omega), if_neg (by simp [Question.forced]), hncap]
      simp
      congr 2
      simp
    rw [hrun, hap]
    simp only [Result.andThen]
    refine ⟨by show _ ≤ (w.heap.push _).size; simp; omega, _, ?_, hs.st.drew.alloc _⟩
    have := hk w.drew.heap.size ncap (Builtin.zeroCells z.cells (ncap - m)).toList (by omega) (by rw [hzlen]; simp)
    simpa using this
  | @blk sb _ cap _ sp _ _ htake hl1 hl2 hl3 =>
    have hmem : (sb, cel e (old ++ sp)) ∈ C := (htake.perm.mem_iff).1 (List.mem_cons_self ..)
    by_cases hfit : n + m ≤ cap
    · -- there is room
      obtain ⟨C1, hu1, hperm⟩ := htake.upd (cel e (old ++ xs ++ sp.drop (m * sz)))
      have hsplit : sp = sp.take (m * sz) ++ sp.drop (m * sz) := (List.take_append_drop _ _).symm
      have hspl : m * sz ≤ sp.length := by rw [hl2]; exact Nat.mul_le_mul_right _ (by omega)
      have hu1' : Upd sb (cel e (old ++ sp.take (m * sz) ++ sp.drop (m * sz))) (cel e (old ++ xs ++ sp.drop (m * sz))) C C1 := by
        rw [List.append_assoc, ← hsplit]; exact hu1
      obtain ⟨w', hw', hst', hz'⟩ := run_storeRow (P := X.P) xs old (sp.take (m * sz)) (sp.drop (m * sz)) (n * sz) 0 C C1 w h1 (by omega) (by rw [List.length_take, hm]; omega) hu1' hs.st
      have hap : (Builtin.append_ #[T, T2] ope.type #[.slice (some ⟨sb, 0, none⟩) n cap, .string ⟨l.toArray⟩]).run X.P w = .ok (.slice (some ⟨sb, 0, none⟩) (n + m) cap) w' := by
        simp [Builtin.append_, run_ul hu, run_sz hi, Builtin.lenOf, hfit, hsz, hfs, hfo, hfn, run_ul hT2, hbs, add_at, hw']
      rw [hrun, hap]
      simp only [Result.andThen]
      refine ⟨by rw [hz']; exact hN, _, ?_, hst'.perm hperm⟩
      refine hk sb cap (sp.drop (m * sz)) hfit ?_
      rw [List.length_drop, hl2, ← Nat.sub_mul]
      congr 1; omega
    · have hmx : ¬ (((n + m : Nat) : Int) > IntKind.i64.max ∧ inf.bytes = 0) := by rw [hby]; exact fun h => hb0 h.2
      have hg := hgrow cap (by omega)
      have hc := hchoose cap e
      have hcc := hcut cap e (w.tape w.drawn (.appendCap (n + m) cap e))
      generalize hncap : Question.cut (.appendCap (n + m) cap e) (w.tape w.drawn (.appendCap (n + m) cap e)) = ncap at hc hcc
      have hold : (loadCells ⟨sb, 0, none⟩ (n * sz)).run X.P w.drew = .ok old.toArray w.drew := by
        rw [← hl1]
        refine RowIn.load (X := X) (C := C) ?_ hs.st.drew
        exact RowIn.own hmem (by simp)
      have hap : (Builtin.append_ #[T, T2] ope.type #[.slice (some ⟨sb, 0, none⟩) n cap, .string ⟨l.toArray⟩]).run X.P w = .ok (.slice (some ⟨w.heap.size, 0, none⟩) (n + m) ncap) (w.drew.alloc (cel e (old ++ xs ++ (Builtin.zeroCells z.cells (ncap - (n + m))).toList))) := by
        simp [Builtin.append_, run_ul hu, run_sz hi, Builtin.lenOf, hfit, run_ti hi, hmx, hg, hc, hsz, hfs, hfo, hfn, run_ul hT2, hbs, hold, run_zero hz, newRow, newObj, Sem.run, World.alloc_eq]
        rw [if_neg (by rintro ⟨_, h⟩; omega), if_neg (by simp [Question.forced]), hncap]
        simp
        congr 2
        simp [← Array.append_assoc]
      rw [hrun, hap]
      simp only [Result.andThen]
      have hst2 := (hs.st.drew.perm htake.perm)
      have hst3 : St X.w0 X.B0 Cr w.drew := (St.left (A := Cr) (R := [(sb, cel e (old ++ sp))]) (hst2.perm (by simp)))
      refine ⟨by show _ ≤ (w.heap.push _).size; simp; omega, _, ?_, hst3.alloc _⟩
      have := hk w.drew.heap.size ncap (Builtin.zeroCells z.cells (ncap - (n + m))).toList hcc (hzlen _)
      simpa using this

end Go.Lg
