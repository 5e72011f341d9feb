/- Part 4 of a small program logic: more operations: build, append, make, results in cells. Nothing is claimed of the program here. -/
import Derived.Test.YtcgenmfnlocbbaaDoorL3
namespace Go.Lg
open Instr

section
variable {X : Cx} {L L' : Env} {ds : List Deferred} {C C' : Chunks} {k : List Item} {ops : Array Oper} {cl : List Cls} {N i d : Nat} {p q : Plan} {op : Op} {ty : TypeId} {pos : String} {aft : Array Edge}
variable {κ : Value → Chunks → Prop} {x y z : Operand} {u v : Value} {n m : Int} {kd : IntKind}

theorem wr_i64 {n : Int} (h1 : -9223372036854775808 ≤ n) (h2 : n ≤ 9223372036854775807) : IntKind.i64.wrap n = n := by
  simp [IntKind.wrap, IntKind.signed, IntKind.bits]
  split <;> omega
theorem wr_u64 {n : Int} (h1 : 0 ≤ n) (h2 : n ≤ 18446744073709551615) : IntKind.u64.wrap n = n := by
  simp [IntKind.wrap, IntKind.signed, IntKind.bits]
  omega
theorem wr_u8 {n : Int} (h1 : 0 ≤ n) (h2 : n ≤ 255) : IntKind.u8.wrap n = n := by
  simp [IntKind.wrap, IntKind.signed, IntKind.bits]
  omega
theorem wr_i32 {n : Int} (h1 : -2147483648 ≤ n) (h2 : n ≤ 2147483647) : IntKind.i32.wrap n = n := by
  simp [IntKind.wrap, IntKind.signed, IntKind.bits]
  split <;> omega
theorem wr_u32 {n : Int} (h1 : 0 ≤ n) (h2 : n ≤ 4294967295) : IntKind.u32.wrap n = n := by
  simp [IntKind.wrap, IntKind.signed, IntKind.bits]
  omega

theorem GP.stop : GP X N ops cl .stop L ds C k := fun _ _ _ _ => trivial

/-! ### build -/
theorem fill_foldl (l : List Value) : ∀ (off : Nat) (j : Nat) (cs : List Value), off + j + l.length ≤ cs.length →
    (l.zipIdx j).foldl (fun cs (c : Value × Nat) => cs.setIfInBounds (off + c.2) c.1) cs.toArray = (cs.take (off + j) ++ l ++ cs.drop (off + j + l.length)).toArray := by
  induction l with
  | nil => intro off j cs _; simp
  | cons x l ih =>
    intro off j cs h
    simp only [List.length_cons] at h
    simp only [List.zipIdx_cons, List.foldl_cons]
    rw [show cs.toArray.setIfInBounds (off + j) x = (cs.set (off + j) x).toArray by simp]
    rw [ih off (j + 1) _ (by simp; omega)]
    congr 1
    apply List.ext_getElem?
    intro q
    simp only [List.getElem?_append, List.length_append, List.length_take, List.length_set, List.getElem?_take, List.getElem?_drop, List.getElem?_set, List.length_cons, List.getElem?_cons]
    repeat' split
    all_goals first
      | rfl
      | omega
      | (congr 1; omega)
      | skip

/-- 'Instr.fill', on lists -/
def fillV (place : Nat → Option (Nat × Nat)) : List Value → List (Nat × Value) → Option (List Value)
  | cs, [] => some cs
  | cs, (i, v) :: r => match place i with
    | none => none
    | some (off, size) => if v.cells.size = size ∧ off + size ≤ cs.length then fillV place (cs.take off ++ v.cells.toList ++ cs.drop (off + size)) r else none

theorem fillV_eq (place : Nat → Option (Nat × Nat)) : ∀ (vs : List (Nat × Value)) (cs r : List Value), fillV place cs vs = some r → fill place cs.toArray vs = some r.toArray := by
  intro vs
  induction vs with
  | nil => intro cs r h; simp only [fillV, Option.some.injEq] at h; simp [fill, h]
  | cons x vs ih =>
    intro cs r h
    obtain ⟨i, v⟩ := x
    simp only [fillV] at h
    simp only [fill]
    cases hp : place i with
    | none => rw [hp] at h; cases h
    | some q =>
      obtain ⟨off, size⟩ := q
      rw [hp] at h
      simp only at h
      split at h
      · rename_i hc
        obtain ⟨h1, h2⟩ := hc
        have hne : ¬ ((v.cells.size ≠ size || off + v.cells.size > cs.toArray.size) = true) := by simp [h1]; omega
        show (if (decide (v.cells.size ≠ size) || decide (off + v.cells.size > cs.toArray.size)) = true then none else fill place (v.cells.zipIdx.foldl (fun cs (c : Value × Nat) => cs.setIfInBounds (off + c.2) c.1) cs.toArray) vs) = _
        rw [if_neg hne]
        have hz : v.cells.zipIdx.foldl (fun cs (c : Value × Nat) => cs.setIfInBounds (off + c.2) c.1) cs.toArray = (cs.take off ++ v.cells.toList ++ cs.drop (off + size)).toArray := by
          have := fill_foldl v.cells.toList off 0 cs (by simp [h1]; omega)
          simp only [Nat.add_zero, Array.length_toList, h1] at this
          rw [← this, ← Array.foldl_toList]
          simp
        exact (congrArg (fun q => fill place q vs) hz).trans (ih _ _ h)
      · cases h

inductive EvP (L : Env) : List (Nat × Operand) → List (Nat × Value) → Prop
  | nil : EvP L [] []
  | cons {i : Nat} {x : Operand} {v : Value} {xs : List (Nat × Operand)} {vs : List (Nat × Value)} (h : ev L x = some v) (r : EvP L xs vs) : EvP L ((i, x) :: xs) ((i, v) :: vs)

theorem Sat.evP {a : Act} {w : World} (h : Sat X L ds C a w) {xs : List (Nat × Operand)} {vs : List (Nat × Value)} (hx : EvP L xs vs) : xs.map (fun p => (p.1, a.eval p.2)) = vs := by
  induction hx with
  | nil => rfl
  | cons h1 _ ih => simp [h.ev h1, ih]

def structPlaces (P : Program) (T : TypeId) : Option (List (Nat × Nat)) :=
  match P.underlying T with
  | some (.struct fs) => fs.toList.mapM fun f => (P.info? f.type).map fun i => (f.offset, i.size)
  | _ => none

theorem run_places {P : Program} (w : World) : ∀ (fs : List Field) (l : List (Nat × Nat)), (fs.mapM fun f => (P.info? f.type).map fun i => (f.offset, i.size)) = some l →
    (fs.mapM (fun f => Prod.mk f.offset <$> sizeOf f.type : Field → Sem (Nat × Nat))).run P w = .ok l w := by
  intro fs
  induction fs with
  | nil => intro l h; simp at h; subst h; simp
  | cons f fs ih =>
    intro l h
    simp only [List.mapM_cons, Option.bind_eq_bind, Option.bind_eq_some_iff, Option.map_eq_some_iff, Option.pure_def, Option.some.injEq] at h
    obtain ⟨q, ⟨inf, hi, rfl⟩, l', hl', rfl⟩ := h
    simp [List.mapM_cons, run_sz hi, ih _ hl']

theorem Does.build {T : TypeId} {parts : Array (Nat × Operand)} {vs : List (Nat × Value)} {pl : List (Nat × Nat)} {zs r : List Value} (hp : EvP L parts.toList vs) (hs : structPlaces X.P T = some pl) (hz : zeroL X.P T = some zs)
    (hf : fillV (pl[·]?) zs vs = some r) (hk : κ (.agg r.toArray) C) : Does X N (.build T parts) .loc L ds C κ :=
  .of_run (fun o ho a w hs' w' => by
    simp only [zeroL, Option.map_eq_some_iff] at hz
    obtain ⟨z, hz, rfl⟩ := hz
    unfold structPlaces at hs
    split at hs
    · rename_i fs hu
      have hparts : (parts.map fun (p : Nat × Operand) => (p.1, a.eval p.2)).toList = vs := by rw [← hs'.evP hp]; simp
      have hm := run_places (P := X.P) w' fs.toList pl hs
      have hfl := fillV_eq (pl[·]?) vs _ r hf
      unfold execOp; rw [ho]
      simp only [Instr.build]
      simp [run_zero hz, run_ul hu]
      rw [Array.mapM_eq_mapM_toList]
      simp [hm]
      simp only [Array.toArray_toList] at hfl
      rw [hs'.evP hp, hfl]
      simp
    · cases hs) hk

def zerosL (zs : List Value) (n : Nat) : List Value := (List.range n).map fun j => zs.toArray[j % zs.toArray.size]!

theorem Does.buildSlice {T e sz len : Nat} {parts : Array (Nat × Operand)} {vs : List (Nat × Value)} {zs r : List Value} (hp : EvP L parts.toList vs) (hT : sliceElem X.P T = some (e, sz)) (hz : zeroL X.P e = some zs) (hn : (len * sz ≠ 0 ∧ len * sz ≤ 16777216))
    (hf : fillV (fun i => some (i * sz, sz)) (zerosL zs (len * sz)) vs = some r)
    (hk : ∀ b, N ≤ b → X.w0.heap.size ≤ b → b ∉ C.map Prod.fst → κ (.slice (some ⟨b, 0, none⟩) len len) ((b, cel e r) :: C)) : Does X N (.buildSlice T len parts) .alloc L ds C κ := by
  intro ope ho a w hs hN
  refine ⟨cel e r, fun b => .slice (some ⟨b, 0, none⟩) len len, hN, fun w' => ?_, by show _ ≤ (w.heap.push _).size; simp; omega, _, hk _ hN hs.st.mods.size hs.st.fresh, hs.st.alloc _⟩
  obtain ⟨hu, i, hi, hsz⟩ := sliceElem_spec hT
  simp only [zeroL, Option.map_eq_some_iff] at hz
  obtain ⟨z, hz, rfl⟩ := hz
  have hfl := fillV_eq _ vs _ r hf
  have hpe := hs.evP hp
  have h1 : ¬ (len * i.size > 16777216) := by rw [hsz]; omega
  have h2 : ¬ (len * i.size = 0) := by rw [hsz]; exact hn.1
  unfold execOp; rw [ho]
  simp only [Instr.buildSlice]
  simp [run_ul hu, run_sz hi, h1, h2, run_zero hz, newRow, newObj, Sem.run]
  simp only [zerosL, Array.toArray_toList] at hfl
  have harr : ∀ (n : Nat) (f : Nat → Value), (Array.range n).map f = ((List.range n).map f).toArray := by
    intro n f
    apply Array.ext
    · simp
    · intro j h1 h2; simp
  rw [harr, hpe, hsz, hfl]
  simp [Sem.run, cel, World.alloc_eq]

/-- What a slice value owns: 'old', its n elements' cells; the rest of the blocks is Cr. -/
inductive Owns (e sz : Nat) : Value → Nat → List Value → Chunks → Chunks → Prop
  | nil {C : Chunks} : Owns e sz (.slice none 0 0) 0 [] C C
  | blk {sb n cap : Nat} {old sp : List Value} {C Cr : Chunks} (h : Take (sb, cel e (old ++ sp)) C Cr) (h1 : old.length = n * sz) (h2 : sp.length = (cap - n) * sz) (h3 : n ≤ cap) : Owns e sz (.slice (some ⟨sb, 0, none⟩) n cap) n old C Cr

theorem growBy_le (newLen : Nat) : ∀ (r c : Nat), c < newLen → Builtin.growBy newLen r c ≤ 2 * newLen + 192 := by
  intro r
  induction r with
  | zero => intro c h; simp only [Builtin.growBy]; omega
  | succ r ih =>
    intro c h
    simp only [Builtin.growBy]
    rw [if_neg (by omega)]
    by_cases h2 : c + (c + 768) / 4 < newLen
    · exact ih _ h2
    · cases r with
      | zero => simp only [Builtin.growBy]; omega
      | succ r => simp only [Builtin.growBy]; rw [if_pos (by omega)]; omega

theorem nextslicecap_le {need cap : Nat} (h : cap < need) : Builtin.nextslicecap need cap ≤ 2 * need + 192 := by
  unfold Builtin.nextslicecap
  split
  · omega
  · split
    · omega
    · exact growBy_le _ _ _ h

theorem RowIn.load {C : Chunks} {b o : Nat} {vs : List Value} {w : World} (h : RowIn X C b o vs) (hs : St X.w0 X.B0 C w) : (loadCells ⟨b, o, none⟩ vs.length).run X.P w = .ok vs.toArray w := by
  have := run_loadCellsFrom (P := X.P) (w := w) (b := b) (o := o) vs 0 #[] (fun j u hj => by rw [Nat.zero_add]; exact h w hs j u hj)
  simpa [loadCells] using this

/-- a row of cells over another one -/
theorem run_storeRow {P : Program} {b : Nat} {e : TypeId} {B0 : List Nat} {w0 : World} : ∀ (vs pre mid post : List Value) (o i : Nat) (C C' : Chunks) (w : World), (∀ v ∈ vs, oneC v = true) → pre.length = o + i → mid.length = vs.length →
    Upd b (cel e (pre ++ mid ++ post)) (cel e (pre ++ vs ++ post)) C C' → St w0 B0 C w → ∃ w', (storeCells ⟨b, o, none⟩ vs i).run P w = .ok () w' ∧ St w0 B0 C' w' ∧ w'.heap.size = w.heap.size := by
  intro vs
  induction vs with
  | nil =>
    intro pre mid post o i C C' w _ _ hl hu hs
    have : mid = [] := List.eq_nil_of_length_eq_zero hl
    subst this
    refine ⟨w, by simp [storeCells], ?_, rfl⟩
    have : C' = C := by
      clear hs
      generalize ho : cel e (pre ++ [] ++ post) = ob at hu
      induction hu with
      | head => rfl
      | tail _ ih => rw [ih]
    rw [this]; exact hs
  | cons v vs ih =>
    intro pre mid post o i C C' w h1 hp hl hu hs
    cases mid with
    | nil => simp at hl
    | cons u mid =>
      have hset : SetAt v (pre ++ u :: mid ++ post) (o + i) (pre ++ v :: mid ++ post) := by
        have : (pre ++ u :: mid ++ post).set (o + i) v = pre ++ v :: mid ++ post := by
          rw [List.append_assoc, List.set_append_right _ _ (by omega), hp]; simp
        rw [← this]; exact .gen (by simp; omega)
      have hmid : ∃ C1, Upd b (cel e (pre ++ u :: mid ++ post)) (cel e (pre ++ v :: mid ++ post)) C C1 ∧ Upd b (cel e (pre ++ v :: mid ++ post)) (cel e (pre ++ v :: vs ++ post)) C1 C' := by
        clear hs ih
        induction hu with
        | head => exact ⟨_, .head, .head⟩
        | tail _ ih => obtain ⟨C1, h1, h2⟩ := ih; exact ⟨_, .tail h1, .tail h2⟩
      obtain ⟨C1, hu1, hu2⟩ := hmid
      have hb := hs.own _ hu1.mem
      have hst := hs.setCell hu1 hset
      obtain ⟨w', hw', hs', hz⟩ := ih (pre ++ [v]) mid post o (i + 1) C1 C' _ (fun x hx => h1 x (List.mem_cons_of_mem _ hx)) (by simp; omega) (by simpa using hl) (by simpa using hu2) hst
      refine ⟨w', ?_, hs', by rw [hz, setCell_size]⟩
      simp only [storeCells, Sem.run_bind, add_at, run_store (h1 v (List.mem_cons_self ..)) hb hset.eq.1, Result.andThen]
      exact hw'

theorem Take.upd {b : Nat} {o : Obj} (o' : Obj) {C Cr : Chunks} (h : Take (b, o) C Cr) : ∃ C', Upd b o o' C C' ∧ ((b, o') :: Cr).Perm C' := by
  induction h with
  | head => exact ⟨_, .head, .refl _⟩
  | @tail y C Cr h ih =>
    obtain ⟨C', h1, h2⟩ := ih
    exact ⟨_, .tail h1, (List.Perm.swap _ _ _).trans (h2.cons _)⟩

def sliceInfo (P : Program) (T : TypeId) : Option (TypeId × Nat × Nat) :=
  match P.underlying T with
  | some (.slice e) => match P.info? e with
    | some i => some (e, i.size, i.bytes)
    | none => none
  | _ => none

theorem sliceInfo_spec {P : Program} {T e sz by_ : Nat} (h : sliceInfo P T = some (e, sz, by_)) : P.underlying T = some (.slice e) ∧ ∃ i, P.info? e = some i ∧ i.size = sz ∧ i.bytes = by_ := by
  unfold sliceInfo at h
  split at h
  · rename_i e' hu
    split at h
    · rename_i i hi
      simp only [Option.some.injEq, Prod.mk.injEq] at h
      obtain ⟨rfl, rfl, rfl⟩ := h
      exact ⟨hu, i, hi, rfl, rfl⟩
    · cases h
  · cases h

/-- append of m elements, read anywhere, onto a slice that is owned -/
theorem Does.append {T e sz by_ m mc xb xo n : Nat} {old xs zs : List Value} {sv : Value} {Cr : Chunks}
    (hx : ev L x = some sv) (hy : ev L y = some (.slice (some ⟨xb, xo, none⟩) m mc)) (hT : sliceInfo X.P T = some (e, sz, by_)) (hz : zeroL X.P e = some zs) (ho : Owns e sz sv n old C Cr) (hxs : RowIn X C xb xo xs) (hm : xs.length = m * sz) (h1 : ∀ v ∈ xs, oneC v = true)
    (hm1 : 1 ≤ m) (hzs : zs.length = sz) (hb0 : by_ ≠ 0) (hroom : (2 * (n + m) + 192) * by_ ≤ 281474976710656) 
    (hk : ∀ rb rcap sp, n + m ≤ rcap → sp.length = (rcap - (n + m)) * sz → κ (.slice (some ⟨rb, 0, none⟩) (n + m) rcap) ((rb, cel e (old ++ xs ++ sp)) :: Cr)) :
    Does X N (.call ⟨.builtin .append, #[x, y], #[T, T]⟩) .gen L ds C κ := by
  intro ope hop a w hs hN
  obtain ⟨hu, inf, hi, hsz, hby⟩ := sliceInfo_spec hT
  simp only [zeroL, Option.map_eq_some_iff] at hz
  obtain ⟨z, hz, rfl⟩ := hz
  have hload := hxs.load hs.st
  rw [hm] at hload
  have hrun : (execOp a.eval ope).run X.P w = ((Builtin.append_ #[T, T] ope.type #[sv, .slice (some ⟨xb, xo, none⟩) m mc]).run X.P w).andThen fun v w' => .ok (.value v) w' := by
    unfold execOp; rw [hop]
    simp [resolve, invoke, builtin, hs.ev hx, hs.ev hy]
  have hgrow : ∀ cap, cap < n + m → ¬ ((Builtin.nextslicecap (n + m) cap : Nat) * inf.bytes > 281474976710656) := by
    intro cap hc
    have h2 := Nat.mul_le_mul_right by_ (nextslicecap_le hc)
    rw [hby]; omega
  have hchoose : ∀ cap q, (choose (.appendCap (n + m) cap q)).run X.P w = .ok (Question.cut (.appendCap (n + m) cap q) (w.tape w.drawn (.appendCap (n + m) cap q))) w.drew := by
    intro cap q; rfl
  have hcut : ∀ cap q t, n + m ≤ Question.cut (.appendCap (n + m) cap q) t := by intro cap q t; simp only [Question.cut]; omega
  have hzlen : ∀ q, (Builtin.zeroCells z.cells q).toList.length = q * sz := by
    intro q
    have : z.cells.size = sz := by simpa using hzs
    simp [Builtin.zeroCells, this]
  simp only [opS]
  cases ho with
  | nil =>
    have hn0 : ¬ (m ≤ 0) := by omega
    have hmx : ¬ ((m : Int) > IntKind.i64.max ∧ inf.bytes = 0) := by rw [hby]; exact fun h => hb0 h.2
    have hg := hgrow 0 (by omega)
    have hc := hchoose 0 e
    have hcc := hcut 0 e (w.tape w.drawn (.appendCap (0 + m) 0 e))
    generalize hncap : Question.cut (.appendCap (0 + m) 0 e) (w.tape w.drawn (.appendCap (0 + m) 0 e)) = ncap at hc hcc
    have hload' := hxs.load hs.st.drew
    rw [hm] at hload'
    simp only [Nat.zero_add] at hg hc hcc hncap
    have hap : (Builtin.append_ #[T, T] ope.type #[.slice none 0 0, .slice (some ⟨xb, xo, none⟩) m mc]).run X.P w = .ok (.slice (some ⟨w.heap.size, 0, none⟩) m ncap) (w.drew.alloc (cel e (xs ++ (Builtin.zeroCells z.cells (ncap - m)).toList))) := by
      simp [Builtin.append_, run_ul hu, run_sz hi, Builtin.lenOf, hn0, run_ti hi, hmx, hg, hc, Builtin.firstCells, hsz, hload', run_zero hz, newRow, newObj, Sem.run, World.alloc_eq]
      rw [if_neg (by omega), if_neg (by rintro ⟨_, h⟩; omega), if_neg (by simp [Question.forced]), hncap]
      simp
      congr 2
      simp
    rw [hrun, hap]
    simp only [Result.andThen]
    refine ⟨by show _ ≤ (w.heap.push _).size; simp; omega, _, ?_, hs.st.drew.alloc _⟩
    have := hk w.drew.heap.size ncap (Builtin.zeroCells z.cells (ncap - m)).toList (by omega) (by rw [hzlen]; simp)
    simpa using this
  | @blk sb _ cap _ sp _ _ htake hl1 hl2 hl3 =>
    have hmem : (sb, cel e (old ++ sp)) ∈ C := (htake.perm.mem_iff).1 (List.mem_cons_self ..)
    by_cases hfit : n + m ≤ cap
    · -- there is room
      obtain ⟨C1, hu1, hperm⟩ := htake.upd (cel e (old ++ xs ++ sp.drop (m * sz)))
      have hsplit : sp = sp.take (m * sz) ++ sp.drop (m * sz) := (List.take_append_drop _ _).symm
      have hspl : m * sz ≤ sp.length := by rw [hl2]; exact Nat.mul_le_mul_right _ (by omega)
      have hu1' : Upd sb (cel e (old ++ sp.take (m * sz) ++ sp.drop (m * sz))) (cel e (old ++ xs ++ sp.drop (m * sz))) C C1 := by
        rw [List.append_assoc, ← hsplit]; exact hu1
      obtain ⟨w', hw', hst', hz'⟩ := run_storeRow (P := X.P) xs old (sp.take (m * sz)) (sp.drop (m * sz)) (n * sz) 0 C C1 w h1 (by omega) (by rw [List.length_take, hm]; omega) hu1' hs.st
      have hap : (Builtin.append_ #[T, T] ope.type #[.slice (some ⟨sb, 0, none⟩) n cap, .slice (some ⟨xb, xo, none⟩) m mc]).run X.P w = .ok (.slice (some ⟨sb, 0, none⟩) (n + m) cap) w' := by
        simp [Builtin.append_, run_ul hu, run_sz hi, Builtin.lenOf, hfit, Builtin.firstCells, hsz, hload, add_at, hw']
      rw [hrun, hap]
      simp only [Result.andThen]
      refine ⟨by rw [hz']; exact hN, _, ?_, hst'.perm hperm⟩
      refine hk sb cap (sp.drop (m * sz)) hfit ?_
      rw [List.length_drop, hl2, ← Nat.sub_mul]
      congr 1; omega
    · have hmx : ¬ (((n + m : Nat) : Int) > IntKind.i64.max ∧ inf.bytes = 0) := by rw [hby]; exact fun h => hb0 h.2
      have hg := hgrow cap (by omega)
      have hc := hchoose cap e
      have hcc := hcut cap e (w.tape w.drawn (.appendCap (n + m) cap e))
      generalize hncap : Question.cut (.appendCap (n + m) cap e) (w.tape w.drawn (.appendCap (n + m) cap e)) = ncap at hc hcc
      have hload' := hxs.load hs.st.drew
      rw [hm] at hload'
      have hold : (loadCells ⟨sb, 0, none⟩ (n * sz)).run X.P w.drew = .ok old.toArray w.drew := by
        rw [← hl1]
        refine RowIn.load (X := X) (C := C) ?_ hs.st.drew
        exact RowIn.own hmem (by simp)
      have hap : (Builtin.append_ #[T, T] ope.type #[.slice (some ⟨sb, 0, none⟩) n cap, .slice (some ⟨xb, xo, none⟩) m mc]).run X.P w = .ok (.slice (some ⟨w.heap.size, 0, none⟩) (n + m) ncap) (w.drew.alloc (cel e (old ++ xs ++ (Builtin.zeroCells z.cells (ncap - (n + m))).toList))) := by
        simp [Builtin.append_, run_ul hu, run_sz hi, Builtin.lenOf, hfit, run_ti hi, hmx, hg, hc, Builtin.firstCells, hsz, hload', hold, run_zero hz, newRow, newObj, Sem.run, World.alloc_eq]
        rw [if_neg (by rintro ⟨_, h⟩; omega), if_neg (by simp [Question.forced]), hncap]
        simp
        congr 2
        simp [← Array.append_assoc]
      rw [hrun, hap]
      simp only [Result.andThen]
      have hst2 := (hs.st.drew.perm htake.perm)
      have hst3 : St X.w0 X.B0 Cr w.drew := (St.left (A := Cr) (R := [(sb, cel e (old ++ sp))]) (hst2.perm (by simp)))
      refine ⟨by show _ ≤ (w.heap.push _).size; simp; omega, _, ?_, hst3.alloc _⟩
      have := hk w.drew.heap.size ncap (Builtin.zeroCells z.cells (ncap - (n + m))).toList hcc (hzlen _)
      simpa using this

theorem run_eqIn_func {P : Program} {T d : Nat} {ps rs : Array TypeId} {vr : Bool} {g : Fn} {fs cs : Array Value} (hT : P.underlying T = some (.func ps rs vr)) (w : World) : (Op.equalIn (d + 1) T (.func g fs cs) .nilFunc).run P w = .ok false w := by
  simp only [Op.equalIn, Sem.run_bind, run_ul hT, Result.andThen]
  rfl
theorem run_eqIn_nilfunc {P : Program} {T d : Nat} {ps rs : Array TypeId} {vr : Bool} (hT : P.underlying T = some (.func ps rs vr)) (w : World) : (Op.equalIn (d + 1) T .nilFunc .nilFunc).run P w = .ok true w := by
  simp only [Op.equalIn, Sem.run_bind, run_ul hT, Result.andThen]
  rfl
theorem run_eq_func {P : Program} {T : TypeId} {ps rs : Array TypeId} {vr : Bool} {g : Fn} {fs cs : Array Value} (hT : P.underlying T = some (.func ps rs vr)) (w : World) : (Op.equal T (.func g fs cs) .nilFunc).run P w = .ok false w :=
  run_eqIn_func (d := 9999) hT w
theorem run_eq_nilfunc {P : Program} {T : TypeId} {ps rs : Array TypeId} {vr : Bool} (hT : P.underlying T = some (.func ps rs vr)) (w : World) : (Op.equal T .nilFunc .nilFunc).run P w = .ok true w :=
  run_eqIn_nilfunc (d := 9999) hT w

theorem Does.isNilF {T T' : TypeId} {g : Fn} {fs cs : Array Value} {ps rs : Array TypeId} {vr t : Bool} (hx : ev L x = some (.func g fs cs)) (hT : X.P.underlying T = some (.func ps rs vr)) (ht : false = t) (hk : κ (.bool t) C) : Does X N (.binOp .eql T x (.const .nilFunc) T') .loc L ds C κ :=
  .of_run (fun o ho a w hs w' => by
    have h1 : binOp .eql T (.func g fs cs) .nilFunc = (do pure (.bool (← Op.equal T (.func g fs cs) .nilFunc)) : Sem Value) := rfl
    have hcn : a.eval (.const .nilFunc) = .nilFunc := rfl
    unfold execOp; rw [ho]
    simp only [hs.ev hx, hcn, eqGuard, h1]
    subst ht
    simp [run_eq_func hT]) hk
theorem Does.isNilT {T T' : TypeId} {ps rs : Array TypeId} {vr t : Bool} (hx : ev L x = some .nilFunc) (hT : X.P.underlying T = some (.func ps rs vr)) (ht : true = t) (hk : κ (.bool t) C) : Does X N (.binOp .eql T x (.const .nilFunc) T') .loc L ds C κ :=
  .of_run (fun o ho a w hs w' => by
    have h1 : binOp .eql T .nilFunc .nilFunc = (do pure (.bool (← Op.equal T .nilFunc .nilFunc)) : Sem Value) := rfl
    have hcn : a.eval (.const .nilFunc) = .nilFunc := rfl
    unfold execOp; rw [ho]
    simp only [hs.ev hx, hcn, eqGuard, h1]
    subst ht
    simp [run_eq_nilfunc hT]) hk

/-- make([]T, len, cap) of known numbers -/
theorem Does.makeSlice {T e sz by_ : Nat} {l c : Nat} {zs : List Value} (hx : ev L x = some (.int .i64 (l : Int))) (hy : ev L y = some (.int .i64 (c : Int))) (hT : sliceInfo X.P T = some (e, sz, by_)) (hz : zeroL X.P e = some zs) (hzs : zs.length = sz) (hsz0 : sz ≠ 0) (hlc : l ≤ c) (hroom : by_ * c ≤ 281474976710656) (hc : c ≤ 9223372036854775807)
    (hk : ∀ b, N ≤ b → X.w0.heap.size ≤ b → b ∉ C.map Prod.fst → κ (.slice (some ⟨b, 0, none⟩) l c) ((b, cel e (zerosL zs (c * sz))) :: C)) : Does X N (.makeSlice T x y) .gen L ds C κ := by
  intro ope hop a w hs hN
  obtain ⟨hu, inf, hi, hsz, hby⟩ := sliceInfo_spec hT
  simp only [zeroL, Option.map_eq_some_iff] at hz
  obtain ⟨z, hz, rfl⟩ := hz
  have w1 : IntKind.i64.wrap (l : Int) = l := wr_i64 (by omega) (by omega)
  have w2 : IntKind.i64.wrap (c : Int) = c := wr_i64 (by omega) (by omega)
  have harr : ∀ (n : Nat) (f : Nat → Value), (Array.range n).map f = ((List.range n).map f).toArray := by
    intro n f
    apply Array.ext
    · simp
    · intro j h1 h2; simp
  have hrun : (execOp a.eval ope).run X.P w = .ok (.value (.slice (some ⟨w.heap.size, 0, none⟩) l c)) (w.alloc (cel e (zerosL z.cells.toList (c * sz)))) := by
    have hbc : (inf.bytes : Int) * (c : Int) ≤ 281474976710656 := by
      have h : ((by_ * c : Nat) : Int) ≤ 281474976710656 := by omega
      rw [Int.natCast_mul] at h
      rw [hby]; exact h
    unfold execOp; rw [hop]
    simp only [Instr.makeSlice, hs.ev hx, hs.ev hy]
    simp [run_ul hu, asInt, asIntOf, run_ti hi, w1, w2, run_sz hi]
    rw [if_neg (by omega)]
    split
    · rename_i h0
      have hc0 : c = 0 := by
        rcases Nat.mul_eq_zero.1 (hsz ▸ h0) with h | h
        · exact h
        · exact absurd h hsz0
      have e0 : Array.range 0 = #[] := rfl
      simp [newRow, newObj, Sem.run, hc0, World.alloc_eq, zerosL, e0]
    · simp only [run_zero hz, newRow, newObj, Sem.run_bind, Result.andThen, harr, hsz]
      simp [Sem.run, zerosL, World.alloc_eq]
  simp only [opS, hrun]
  exact ⟨by show _ ≤ (w.heap.push _).size; simp; omega, _, hk _ hN hs.st.mods.size hs.st.fresh, hs.st.alloc _⟩

theorem Does.conv {S T : TypeId} {k2 : IntKind} {r : Int} (hx : ev L x = some (.int kd n)) (hT : X.P.underlying T = some (.int k2)) (hS : ∃ d, X.P.underlying S = some d) (hr : k2.wrap n = r) (hk : κ (.int k2 r) C) : Does X N (.convert S T x) .gen L ds C κ := by
  intro o ho a w hs hN
  obtain ⟨d, hd⟩ := hS
  have : (execOp a.eval o).run X.P w = .ok (.value (.int k2 r)) w := by
    unfold execOp; rw [ho]
    simp [hs.ev hx, convert, run_ul hT, run_ul hd, Conv.intToInt, hr]
  simp only [opS, this]
  exact ⟨hN, C, hk, hs.st⟩
theorem Does.convL {S T : TypeId} {k2 : IntKind} {r : Int} (hx : ev L x = some (.int kd n)) (hT : X.P.underlying T = some (.int k2)) (hS : ∃ d, X.P.underlying S = some d) (hr : k2.wrap n = r) (hk : κ (.int k2 r) C) : Does X N (.convert S T x) .loc L ds C κ :=
  .of_run (fun o ho a w hs w' => by
    obtain ⟨d, hd⟩ := hS
    unfold execOp; rw [ho]
    simp [hs.ev hx, convert, run_ul hT, run_ul hd, Conv.intToInt, hr]) hk

/-- a result that lies in a variable's cells -/
theorem resc1 {P : Program} {fn : Func} {t u T n b o : Nat} {vs : List Value} {v : Value} {a : Act} {w : World} (h : fn.results = #[.cell t T, .tmp u]) (hs : Sat X L ds C a w) (hP : X.P = P) (hT : aggT P T = some vs.length) (ht : look L t = some (.pointer (some ⟨b, o, none⟩))) (hu : look L u = some v) (hr : RowIn X C b o vs) :
    (results fn a.tmps).run P w = .ok (.tuple #[.agg vs.toArray, v]) w := by
  subst hP
  obtain ⟨h1, i, hi, hn⟩ := aggT_spec hT
  have hl := hr.load hs.st
  have ht' := hs.knows _ _ ht
  have hu' := hs.knows _ _ hu
  simp [results, h, ht', hu', asAddr, loadVar, h1, run_sz hi, hn, hl]
end
end Go.Lg
