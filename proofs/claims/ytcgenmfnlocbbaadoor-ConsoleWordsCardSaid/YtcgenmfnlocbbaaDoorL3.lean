/- Part 3 of a small program logic: regions by plans, and a rule for each operation. Nothing is claimed of the program here. -/
import Derived.Test.YtcgenmfnlocbbaaDoorL2
namespace Go.Lg

theorem run_ul {P : Program} {T : TypeId} {d : TypeDesc} (h : P.underlying T = some d) (w : World) : (underlying T).run P w = .ok d w := by
  simp [underlying, program, Sem.run, h, bind, Sem.bind, pure]
theorem run_ti {P : Program} {T : TypeId} {i : TypeInfo} (h : P.info? T = some i) (w : World) : (typeInfo T).run P w = .ok i w := by
  simp [typeInfo, program, Sem.run, h, bind, Sem.bind, pure]
theorem run_sz {P : Program} {T : TypeId} {i : TypeInfo} (h : P.info? T = some i) (w : World) : (sizeOf T).run P w = .ok i.size w := by
  simp [sizeOf, run_ti h]

/-- the value of one cell -/
def oneC : Value → Bool
  | .agg _ | .tuple _ => false
  | _ => true

def clf (cl : List Cls) (i : Nat) : Cls := cl.getD i .gen

def lin : List Nat → Plan
  | [] => .done
  | i :: l => .take i (lin l)

/-- What an operation does where so much is known. -/
def Does (X : Cx) (N : Nat) (op : Op) (c : Cls) (L : Env) (ds : List Deferred) (C : Chunks) (κ : Value → Chunks → Prop) : Prop :=
  ∀ (o : Oper), o.op = op → ∀ a w, Sat X L ds C a w → N ≤ w.heap.size → opS X.P N o c a w (fun v w' => N ≤ w'.heap.size ∧ ∃ C', κ v C' ∧ St X.w0 X.B0 C' w')

def GP (X : Cx) (N : Nat) (ops : Array Oper) (cl : List Cls) (p : Plan) (L : Env) (ds : List Deferred) (C : Chunks) (k : List Item) : Prop :=
  ∀ a w, Sat X L ds C a w → N ≤ w.heap.size → planX X.P N ops (clf cl) (Goes X.P X.b X.Fin k) p a w

section
variable {X : Cx} {L L' : Env} {ds : List Deferred} {C C' : Chunks} {k : List Item} {ops : Array Oper} {cl : List Cls} {N i d : Nat} {p q : Plan} {op : Op} {ty : TypeId} {pos : String} {aft : Array Edge}

theorem planX_lin {K : Act → World → Prop} {P : Program} {cf : Nat → Cls} : ∀ (l : List Nat) (a : Act) (w : World), planX P N ops cf K (lin l) a w → opsX P N ops cf K l a w
  | [], _, _, h => h
  | _ :: l, _, _, h => opX_mono (fun a w => planX_lin l a w) h.2

theorem G.region {id : Nat} (cl : List Cls) (p : Plan) (hl : lin (List.range ops.size) = p) (h : GP X 0 ops cl p L ds C k) : G X (.code (.region id ops false) :: k) L ds C :=
  fun a w hs => goes_region (N := 0) (cf := clf cl) (planX_lin _ _ _ (by rw [hl]; exact h a w hs (Nat.zero_le _)))

theorem G.draw {id : Nat} (cl : List Cls) (p : Plan) (hm : X.P.follows .mixedOrders = true)
    (hp : (Region.noSelect ops && Plan.ok ops (clf cl) p false ops.size (Array.replicate ops.size false)) = true) (h : ∀ N, X.w0.heap.size ≤ N → (∀ c ∈ C, c.1 < N) → GP X N ops cl p L ds C k) : G X (.code (.region id ops true) :: k) L ds C :=
  fun a w hs => goes_region_plan (N := w.heap.size) (cf := clf cl) p hm hp (h w.heap.size hs.st.mods.size (fun _ hc => hs.st.lt hc) a _ (hs.with hs.st.drew) (Nat.le_refl _))

theorem GP.done (h : G X k L ds C) : GP X N ops cl .done L ds C k := fun a w hs _ => h a w hs
theorem GP.keep (T : Env) (hc : Covers L T) (h : G X k T ds C) : GP X N ops cl .done L ds C k := GP.done (h.weak hc)
theorem GP.perm (h : GP X N ops cl p L ds C' k) (hp : C'.Perm C) : GP X N ops cl p L ds C k := fun a w hs hN => h a w (hs.with (hs.st.perm hp)) hN
theorem GP.fact {f : Prop} (hp : ∀ w, St X.w0 X.B0 C w → f) (h : f → GP X N ops cl p L ds C k) : GP X N ops cl p L ds C k := fun a w hs hN => h (hp w hs.st) a w hs hN

theorem opX_of {o : Oper} (ho : ops[i]? = some o) {a : Act} {w : World} {K : Act → World → Prop} (hw : Region.wanted o (yielded ops a.tmps) = true) (h : opS X.P N o (clf cl i) a w fun v w' => K (a.put o.dst v) w') : opX X.P N ops (clf cl) i K a w := by
  unfold opX; simp only [ho, hw, if_true]; exact h

/-- the operation is carried out: it has a slot -/
theorem GP.take (ho : ops[i]? = some ⟨some d, op, ty, pos, aft, none⟩) (hd : Nat.blt d X.n = true) (h : Does X N op (clf cl i) L ds C fun v C' => GP X N ops cl p ((d, v) :: L) ds C' k) : GP X N ops cl (.take i p) L ds C k := by
  intro a w hs hN
  refine ⟨hN, opX_of ho rfl (opS_mono (h _ rfl a w hs hN) fun v w' ⟨hN', C', hg, hst⟩ => ?_)⟩
  exact hg _ _ (hs.put hst (by simpa [Nat.blt_eq] using hd)) hN'
/-- it has none -/
theorem GP.take0 (ho : ops[i]? = some ⟨none, op, ty, pos, aft, none⟩) (h : Does X N op (clf cl i) L ds C fun _ C' => GP X N ops cl p L ds C' k) : GP X N ops cl (.take i p) L ds C k := by
  intro a w hs hN
  refine ⟨hN, opX_of ho rfl (opS_mono (h _ rfl a w hs hN) fun v w' ⟨hN', C', hg, hst⟩ => ?_)⟩
  exact hg _ _ (hs.with hst) hN'

theorem yielded_of {a : Act} {w : World} (hs : Sat X L ds C a w) {j dj : Nat} {b : Bool} (hj : (ops[j]?).bind (·.dst) = some dj) (hv : look L dj = some (.bool b)) : yielded ops a.tmps j = some b := by
  have := hs.knows _ _ hv
  simp [yielded, hj, this]

/-- guarded, and the guard says yes -/
theorem GP.takeG {j dj : Nat} {b : Bool} (ho : ops[i]? = some ⟨some d, op, ty, pos, aft, some (j, b)⟩) (hj : (ops[j]?).bind (·.dst) = some dj) (hv : look L dj = some (.bool b)) (hd : Nat.blt d X.n = true) (h : Does X N op (clf cl i) L ds C fun v C' => GP X N ops cl p ((d, v) :: L) ds C' k) : GP X N ops cl (.take i p) L ds C k := by
  intro a w hs hN
  refine ⟨hN, opX_of ho (by simp [Region.wanted, yielded_of hs hj hv]) (opS_mono (h _ rfl a w hs hN) fun v w' ⟨hN', C', hg, hst⟩ => ?_)⟩
  exact hg _ _ (hs.put hst (by simpa [Nat.blt_eq] using hd)) hN'
theorem GP.take0G {j dj : Nat} {b : Bool} (ho : ops[i]? = some ⟨none, op, ty, pos, aft, some (j, b)⟩) (hj : (ops[j]?).bind (·.dst) = some dj) (hv : look L dj = some (.bool b)) (h : Does X N op (clf cl i) L ds C fun _ C' => GP X N ops cl p L ds C' k) : GP X N ops cl (.take i p) L ds C k := by
  intro a w hs hN
  refine ⟨hN, opX_of ho (by simp [Region.wanted, yielded_of hs hj hv]) (opS_mono (h _ rfl a w hs hN) fun v w' ⟨hN', C', hg, hst⟩ => ?_)⟩
  exact hg _ _ (hs.with hst) hN'

def isB : Value → Option Bool
  | .bool b => some b
  | _ => none

/-- guarded, and the guard says no -/
theorem GP.pass {j dj : Nat} {b : Bool} {u : Value} (ho : ops[i]? = some ⟨some d, op, ty, pos, aft, some (j, b)⟩) (hj : (ops[j]?).bind (·.dst) = some dj) (hv : look L dj = some u) (hb : (isB u == some b) = false) (hd : Nat.blt d X.n = true) (h : GP X N ops cl p ((d, undef) :: L) ds C k) : GP X N ops cl (.take i p) L ds C k := by
  intro a w hs hN
  refine ⟨hN, ?_⟩
  have hk := hs.knows _ _ hv
  have hy : Region.wanted ⟨some d, op, ty, pos, aft, some (j, b)⟩ (yielded ops a.tmps) = false := by
    cases u <;> simp_all [Region.wanted, yielded, isB]
  unfold opX
  simp only [ho, hy, Bool.false_eq_true, if_false]
  exact h _ _ (hs.put hs.st (by simpa [Nat.blt_eq] using hd)) hN
theorem GP.pass0 {j dj : Nat} {b : Bool} {u : Value} (ho : ops[i]? = some ⟨none, op, ty, pos, aft, some (j, b)⟩) (hj : (ops[j]?).bind (·.dst) = some dj) (hv : look L dj = some u) (hb : (isB u == some b) = false) (h : GP X N ops cl p L ds C k) : GP X N ops cl (.take i p) L ds C k := by
  intro a w hs hN
  refine ⟨hN, ?_⟩
  have hk := hs.knows _ _ hv
  have hy : Region.wanted ⟨none, op, ty, pos, aft, some (j, b)⟩ (yielded ops a.tmps) = false := by
    cases u <;> simp_all [Region.wanted, yielded, isB]
  unfold opX
  simp only [ho, hy, Bool.false_eq_true, if_false]
  exact h _ _ hs hN

theorem GP.alt (h1 : GP X N ops cl (.take i p) L ds C k) (h2 : GP X N ops cl q L ds C k) : GP X N ops cl (.alt i p q) L ds C k :=
  fun a w hs hN => ⟨(h1 a w hs hN).2, h2 a w hs hN⟩
theorem GP.one (h1 : GP X N ops cl (.take i p) L ds C k) : GP X N ops cl (.alt i p .stop) L ds C k :=
  fun a w hs hN => ⟨(h1 a w hs hN).2, trivial⟩

variable {κ : Value → Chunks → Prop} {x y z : Operand} {u v : Value} {n m : Int} {kd : IntKind}

/-! ### operations on slots alone -/

theorem Does.of_run (h : ∀ (o : Oper), o.op = op → ∀ a w, Sat X L ds C a w → ∀ w', (execOp a.eval o).run X.P w' = .ok (.value v) w') (hk : κ v C) : Does X N op .loc L ds C κ :=
  fun o ho a w hs hN => ⟨v, h o ho a w hs, hN, C, hk, hs.st⟩

theorem Does.move (hx : ev L x = some v) (hk : κ v C) : Does X N (.move x) .loc L ds C κ :=
  .of_run (fun o ho a w hs w' => by have h := hs.ev hx; unfold execOp; rw [ho]; subst h; rfl) hk
theorem Does.assign (hx : ev L x = some v) (hk : κ v C) : Does X N (.assign x) .loc L ds C κ :=
  .of_run (fun o ho a w hs w' => by have h := hs.ev hx; unfold execOp; rw [ho]; subst h; rfl) hk
theorem Does.pickT (hx : ev L x = some (.bool true)) (hy : ev L y = some v) (hk : κ v C) : Does X N (.pick x y z) .loc L ds C κ :=
  .of_run (fun o ho a w hs w' => by unfold execOp; rw [ho]; simp [hs.ev hx, hs.ev hy, asBool]) hk
theorem Does.pickF (hx : ev L x = some (.bool false)) (hy : ev L z = some v) (hk : κ v C) : Does X N (.pick x y z) .loc L ds C κ :=
  .of_run (fun o ho a w hs w' => by unfold execOp; rw [ho]; simp [hs.ev hx, hs.ev hy, asBool]) hk
theorem Does.pickB {t t1 t2 : Bool} (hx : ev L x = some (.bool t)) (hy : ev L y = some (.bool t1)) (hz : ev L z = some (.bool t2)) (hk : κ (.bool (if t then t1 else t2)) C) : Does X N (.pick x y z) .loc L ds C κ :=
  .of_run (fun o ho a w hs w' => by unfold execOp; rw [ho]; cases t <;> simp [hs.ev hx, hs.ev hy, hs.ev hz, asBool]) hk
theorem Does.nilCheck {ad : Addr} (hx : ev L x = some (.pointer (some ad))) (hk : κ (.pointer (some ad)) C) : Does X N (.nilCheck x) .loc L ds C κ :=
  .of_run (fun o ho a w hs w' => by unfold execOp; rw [ho]; simp [hs.ev hx]) hk
theorem Does.nilCheckF {g : FuncId} {fs cs : Array Value} (hx : ev L x = some (.func (.func g) fs cs)) (hk : κ (.func (.func g) fs cs) C) : Does X N (.nilCheck x) .loc L ds C κ :=
  .of_run (fun o ho a w hs w' => by unfold execOp; rw [ho]; simp [hs.ev hx]) hk
theorem Does.extract {vs : Array Value} {j : Nat} (hx : ev L x = some (.tuple vs)) (hv : vs[j]? = some v) (hk : κ v C) : Does X N (.extract x j) .loc L ds C κ :=
  .of_run (fun o ho a w hs w' => by unfold execOp; rw [ho]; simp [hs.ev hx, Instr.extract, hv]) hk
theorem Does.not {b t : Bool} {ty : TypeId} (hx : ev L x = some (.bool b)) (ht : (!b) = t) (hk : κ (.bool t) C) : Does X N (.unOp .not ty x) .loc L ds C κ :=
  .of_run (fun o ho a w hs w' => by unfold execOp; rw [ho]; simp [hs.ev hx, Op.unary, ht]) hk
theorem Does.makeFunc {fn : Fn} {fs cs : Array Operand} {vs us : List Value} (hf : Evs L fs.toList vs) (hc : Evs L cs.toList us) (hk : κ (.func fn vs.toArray us.toArray) C) : Does X N (.makeFunc fn fs cs) .loc L ds C κ :=
  .of_run (fun o ho a w hs w' => by
    have h1 : fs.map a.eval = vs.toArray := by rw [← hs.evs hf, ← Array.toList_map, Array.toArray_toList]
    have h2 : cs.map a.eval = us.toArray := by rw [← hs.evs hc, ← Array.toList_map, Array.toArray_toList]
    unfold execOp; rw [ho]; simp [Instr.makeFunc, h1, h2]) hk

theorem run_int {op : BinOp} {T T' : TypeId} (o : Oper) (ho : o.op = .binOp op T x y T') {a : Act} {w : World} (hs : Sat X L ds C a w) (hx : ev L x = some (.int kd n)) (hy : ev L y = some (.int kd m)) (w' : World) :
    (execOp a.eval o).run X.P w' = ((binOp op T (.int kd n) (.int kd m)).run X.P w').andThen fun v w2 => .ok (.value v) w2 := by
  unfold execOp; rw [ho]; simp only [hs.ev hx, hs.ev hy]
  cases op <;> simp [eqGuard]

theorem Does.add {T T' : TypeId} (hx : ev L x = some (.int kd n)) (hy : ev L y = some (.int kd m)) {r : Int} (hr : kd.wrap (n + m) = r) (hk : κ (.int kd r) C) : Does X N (.binOp .add T x y T') .loc L ds C κ :=
  .of_run (fun o ho a w hs w' => by rw [run_int o ho hs hx hy]; simp [binOp, Op.intArith, hr]) hk
theorem Does.sub {T T' : TypeId} (hx : ev L x = some (.int kd n)) (hy : ev L y = some (.int kd m)) {r : Int} (hr : kd.wrap (n - m) = r) (hk : κ (.int kd r) C) : Does X N (.binOp .sub T x y T') .loc L ds C κ :=
  .of_run (fun o ho a w hs w' => by rw [run_int o ho hs hx hy]; simp [binOp, Op.intArith, hr]) hk
theorem Does.mul {T T' : TypeId} (hx : ev L x = some (.int kd n)) (hy : ev L y = some (.int kd m)) {r : Int} (hr : kd.wrap (n * m) = r) (hk : κ (.int kd r) C) : Does X N (.binOp .mul T x y T') .loc L ds C κ :=
  .of_run (fun o ho a w hs w' => by rw [run_int o ho hs hx hy]; simp [binOp, Op.intArith, hr]) hk
theorem Does.quo {T T' : TypeId} (hx : ev L x = some (.int kd n)) (hy : ev L y = some (.int kd m)) (h0 : m ≠ 0) {r : Int} (hr : kd.wrap (n.tdiv m) = r) (hk : κ (.int kd r) C) : Does X N (.binOp .quo T x y T') .loc L ds C κ :=
  .of_run (fun o ho a w hs w' => by rw [run_int o ho hs hx hy]; simp [binOp, Op.intDiv, h0, hr]) hk
theorem Does.rem {T T' : TypeId} (hx : ev L x = some (.int kd n)) (hy : ev L y = some (.int kd m)) (h0 : m ≠ 0) {r : Int} (hr : n.tmod m = r) (hk : κ (.int kd r) C) : Does X N (.binOp .rem T x y T') .loc L ds C κ :=
  .of_run (fun o ho a w hs w' => by rw [run_int o ho hs hx hy]; simp [binOp, Op.intDiv, h0, hr]) hk
theorem Does.and {T T' : TypeId} (hx : ev L x = some (.int kd n)) (hy : ev L y = some (.int kd m)) {r : Int} (hr : kd.wrap (BitVec.ofInt kd.bits n &&& BitVec.ofInt kd.bits m).toNat = r) (hk : κ (.int kd r) C) : Does X N (.binOp .and T x y T') .loc L ds C κ :=
  .of_run (fun o ho a w hs w' => by rw [run_int o ho hs hx hy]; simp [binOp, Op.intBits] at hr ⊢; exact hr) hk

theorem Does.lss {T T' : TypeId} {t : Bool} (hx : ev L x = some (.int kd n)) (hy : ev L y = some (.int kd m)) (ht : decide (n < m) = t) (hk : κ (.bool t) C) : Does X N (.binOp .lss T x y T') .loc L ds C κ :=
  .of_run (fun o ho a w hs w' => by rw [run_int o ho hs hx hy]; simp [binOp, Op.intCmp, ← ht]) hk
theorem Does.leq {T T' : TypeId} {t : Bool} (hx : ev L x = some (.int kd n)) (hy : ev L y = some (.int kd m)) (ht : decide (n ≤ m) = t) (hk : κ (.bool t) C) : Does X N (.binOp .leq T x y T') .loc L ds C κ :=
  .of_run (fun o ho a w hs w' => by rw [run_int o ho hs hx hy]; simp [binOp, Op.intCmp, ← ht]) hk
theorem Does.gtr {T T' : TypeId} {t : Bool} (hx : ev L x = some (.int kd n)) (hy : ev L y = some (.int kd m)) (ht : decide (n > m) = t) (hk : κ (.bool t) C) : Does X N (.binOp .gtr T x y T') .loc L ds C κ :=
  .of_run (fun o ho a w hs w' => by rw [run_int o ho hs hx hy]; simp [binOp, Op.intCmp, ← ht]) hk
theorem Does.geq {T T' : TypeId} {t : Bool} (hx : ev L x = some (.int kd n)) (hy : ev L y = some (.int kd m)) (ht : decide (n ≥ m) = t) (hk : κ (.bool t) C) : Does X N (.binOp .geq T x y T') .loc L ds C κ :=
  .of_run (fun o ho a w hs w' => by rw [run_int o ho hs hx hy]; simp [binOp, Op.intCmp, ← ht]) hk
theorem Does.eql {T T' : TypeId} {t : Bool} (hx : ev L x = some (.int kd n)) (hy : ev L y = some (.int kd m)) (ht : decide (n = m) = t) (hk : κ (.bool t) C) : Does X N (.binOp .eql T x y T') .loc L ds C κ :=
  .of_run (fun o ho a w hs w' => by rw [run_int o ho hs hx hy]; simp [binOp, Op.intCmp, ← ht, BEq.beq]) hk
theorem Does.neq {T T' : TypeId} {t : Bool} (hx : ev L x = some (.int kd n)) (hy : ev L y = some (.int kd m)) (ht : (!decide (n = m)) = t) (hk : κ (.bool t) C) : Does X N (.binOp .neq T x y T') .loc L ds C κ :=
  .of_run (fun o ho a w hs w' => by rw [run_int o ho hs hx hy]; simp only [binOp, Op.intCmp, ← ht]; by_cases h : n = m <;> simp [h]) hk

/-! ### addresses -/

def fieldOff (P : Program) (s : TypeId) (f : Nat) : Option Nat :=
  match P.underlying s with
  | some (.struct fs) => match fs[f]? with
    | some fd => match P.info? fd.type with
      | some i => if i.size = 0 then none else some fd.offset
      | none => none
    | none => none
  | _ => none

theorem add_at (b o n : Nat) : (⟨b, o, none⟩ : Addr).add n = ⟨b, o + n, none⟩ := by
  unfold Addr.add
  split
  · rename_i h; subst h; rfl
  · rfl

theorem Does.fieldAddr {s f off b o : Nat} (hx : ev L x = some (.pointer (some ⟨b, o, none⟩))) (hf : fieldOff X.P s f = some off) (hk : κ (.pointer (some ⟨b, o + off, none⟩)) C) : Does X N (.fieldAddr s x f) .loc L ds C κ :=
  .of_run (fun ope ho a w hs w' => by
    unfold execOp; rw [ho]
    unfold fieldOff at hf
    split at hf
    · rename_i fs hu
      split at hf
      · rename_i fd hfd
        split at hf
        · rename_i inf hi
          split at hf
          · cases hf
          · rename_i h0
            cases hf
            simp [hs.ev hx, Instr.fieldAt, run_ul hu, hfd, Instr.sureAddr, fieldPlace, run_sz hi, h0, add_at]
        · cases hf
      · cases hf
    · cases hf) hk

def sliceElem (P : Program) (T : TypeId) : Option (TypeId × Nat) :=
  match P.underlying T with
  | some (.slice e) => match P.info? e with
    | some i => some (e, i.size)
    | none => none
  | _ => none

theorem sliceElem_spec {P : Program} {T e sz : Nat} (h : sliceElem P T = some (e, sz)) : P.underlying T = some (.slice e) ∧ ∃ i, P.info? e = some i ∧ i.size = sz := by
  unfold sliceElem at h
  split at h
  · rename_i e' hu
    split at h
    · rename_i i hi
      simp only [Option.some.injEq, Prod.mk.injEq] at h
      obtain ⟨rfl, rfl⟩ := h
      exact ⟨hu, i, hi, rfl⟩
    · cases h
  · cases h

theorem Does.indexAddr {T e sz b o len cap : Nat} {ko : IntKind} (j : Nat) (hx : ev L x = some (.slice (some ⟨b, o, none⟩) len cap)) (hy : ev L y = some (.int ko n)) (hT : sliceElem X.P T = some (e, sz)) (hn : n = (j : Int)) (hj : j < len) (hk : κ (.pointer (some ⟨b, o + j * sz, none⟩)) C) : Does X N (.indexAddr T x y) .loc L ds C κ :=
  .of_run (fun ope ho a w hs w' => by
    obtain ⟨hu, i, hi, hsz⟩ := sliceElem_spec hT
    unfold execOp; rw [ho]
    subst hn
    simp [hs.ev hx, hs.ev hy, Instr.indexAt, asIntOf, run_ul hu, hj, run_sz hi, hsz, add_at]) hk

def arrayElem (P : Program) (T : TypeId) : Option (Nat × TypeId × Nat) :=
  match P.underlying T with
  | some (.array l e) => match P.info? e with
    | some i => some (l, e, i.size)
    | none => none
  | _ => none

theorem arrayElem_spec {P : Program} {T l e sz : Nat} (h : arrayElem P T = some (l, e, sz)) : P.underlying T = some (.array l e) ∧ ∃ i, P.info? e = some i ∧ i.size = sz := by
  unfold arrayElem at h
  split at h
  · rename_i l' e' hu
    split at h
    · rename_i i hi
      simp only [Option.some.injEq, Prod.mk.injEq] at h
      obtain ⟨rfl, rfl, rfl⟩ := h
      exact ⟨hu, i, hi, rfl⟩
    · cases h
  · cases h

theorem Does.indexAddrA {T e sz b o len : Nat} {ko : IntKind} (j : Nat) (hx : ev L x = some (.pointer (some ⟨b, o, none⟩))) (hy : ev L y = some (.int ko n)) (hT : arrayElem X.P T = some (len, e, sz)) (hn : n = (j : Int)) (hj : j < len) (hk : κ (.pointer (some ⟨b, o + j * sz, none⟩)) C) : Does X N (.indexAddr T x y) .loc L ds C κ :=
  .of_run (fun ope ho a w hs w' => by
    obtain ⟨hu, i, hi, hsz⟩ := arrayElem_spec hT
    unfold execOp; rw [ho]
    subst hn
    simp [hs.ev hx, hs.ev hy, Instr.indexAt, Instr.sureAddr, asIntOf, run_ul hu, hj, run_sz hi, hsz, add_at]) hk

def isSlice (P : Program) (T : TypeId) : Bool := match P.underlying T with | some (.slice _) => true | _ => false
theorem isSlice_spec {P : Program} {T : TypeId} (h : isSlice P T = true) : ∃ e, P.underlying T = some (.slice e) := by
  unfold isSlice at h
  split at h
  · exact ⟨_, by assumption⟩
  · cases h

theorem Does.len {T : TypeId} {ad : Option Addr} {len cap : Nat} (hx : ev L x = some (.slice ad len cap)) (hT : isSlice X.P T = true) (hk : κ (.int .i64 (len : Int)) C) : Does X N (.call ⟨.builtin .len, #[x], #[T]⟩) .loc L ds C κ :=
  .of_run (fun ope ho a w hs w' => by
    obtain ⟨e, hu⟩ := isSlice_spec hT
    unfold execOp; rw [ho]
    simp [hs.ev hx, resolve, invoke, builtin, Builtin.len_, run_ul hu, goInt]) hk

/-- xs[:hi] -/
theorem Does.sliceTo {T e sz b o len cap : Nat} {kh : IntKind} (h : Nat) (hx : ev L x = some (.slice (some ⟨b, o, none⟩) len cap)) (hy : ev L y = some (.int kh n)) (hT : sliceElem X.P T = some (e, sz)) (hn : n = (h : Int)) (hh : h ≤ cap) (hk : κ (.slice (some ⟨b, o, none⟩) h cap) C) : Does X N (.slice T x none (some y) none) .loc L ds C κ :=
  .of_run (fun ope ho a w hs w' => by
    obtain ⟨hu, i, hi, hsz⟩ := sliceElem_spec hT
    unfold execOp; rw [ho]
    subst hn
    simp [hs.ev hx, hs.ev hy, Instr.sliceAt, Instr.slice, Instr.sliceBounds, Instr.sliceBound, asIntOf, run_ul hu, hh, run_sz hi, add_at]) hk

/-! ### memory -/

/-- so it reads, wherever one stands -/
def CellIn (X : Cx) (C : Chunks) (b o : Nat) (v : Value) : Prop := ∀ w, St X.w0 X.B0 C w → w.cell? ⟨b, o, none⟩ = some v

abbrev cel (e : TypeId) (l : List Value) : Obj := .cells l.toArray e (0, 0)

theorem cell_of_block {w : World} {b o : Nat} {l : List Value} {e : TypeId} {fr : Nat × Nat} {v : Value} (h : w.heap[b]? = some (.cells l.toArray e fr)) (hv : l[o]? = some v) : w.cell? ⟨b, o, none⟩ = some v := by
  simp [World.cell?, h, hv]

theorem CellIn.own {b o : Nat} {e : TypeId} {l : List Value} {fr : Nat × Nat} (hm : (b, Obj.cells l.toArray e fr) ∈ C) (hv : l[o]? = some v) : CellIn X C b o v :=
  fun _ h => cell_of_block (h.own _ hm) hv

theorem CellIn.old {b o : Nat} (hb : b ∉ X.B0) (h : X.w0.cell? ⟨b, o, none⟩ = some v) : CellIn X C b o v := by
  intro w hs
  have hlt : b < X.w0.heap.size := by
    rcases Nat.lt_or_ge b X.w0.heap.size with h1 | h1
    · exact h1
    · simp [World.cell?, Array.getElem?_eq_none h1] at h
  have := hs.mods.block b hlt hb
  simp only [World.cell?, this] at h ⊢
  exact h

theorem cell_lt {w : World} {b o : Nat} {v : Value} (h : w.cell? ⟨b, o, none⟩ = some v) : b < w.heap.size := by
  rcases Nat.lt_or_ge b w.heap.size with h1 | h1
  · exact h1
  · simp [World.cell?, Array.getElem?_eq_none h1] at h

theorem cell_ext {w w' : World} {b o : Nat} {v : Value} (h : w.cell? ⟨b, o, none⟩ = some v) (hb : b < N) (hx : Ext N w w') : w'.cell? ⟨b, o, none⟩ = some v := by
  have := hx.block b hb
  simp only [World.cell?, this] at h ⊢
  exact h

def flatT (P : Program) (T : TypeId) : Bool := match P.underlying T with
  | some (.struct _) | some (.array _ _) => false
  | some _ => true
  | none => false
theorem flatT_spec {P : Program} {T : TypeId} (h : flatT P T = true) (w : World) : (isAgg T).run P w = .ok false w := by
  unfold flatT at h
  cases hu : P.underlying T with
  | none => rw [hu] at h; cases h
  | some d =>
    rw [hu] at h
    cases d <;> first | (simp [isAgg, run_ul hu]; done) | cases h

theorem run_load1 {T b o : Nat} {ope : Oper} {a : Act} {w w' : World} (ho : ope.op = .load T x) (hs : Sat X L ds C a w) (hx : ev L x = some (.pointer (some ⟨b, o, none⟩))) (hT : flatT X.P T = true) (hc : w'.cell? ⟨b, o, none⟩ = some v) : (execOp a.eval ope).run X.P w' = .ok (.value v) w' := by
  unfold execOp; rw [ho]
  simp [hs.ev hx, Instr.loadAt, Instr.sureAddr, loadVar, flatT_spec hT, load, Sem.run, hc]

theorem Does.load1 {T b o : Nat} (hx : ev L x = some (.pointer (some ⟨b, o, none⟩))) (hT : flatT X.P T = true) (hc : CellIn X C b o v) (hk : κ v C) : Does X N (.load T x) .gen L ds C κ := by
  intro ope ho a w hs hN
  simp only [opS, run_load1 ho hs hx hT (hc w hs.st)]
  exact ⟨hN, C, hk, hs.st⟩
theorem Does.load1N {T b o : Nat} (hx : ev L x = some (.pointer (some ⟨b, o, none⟩))) (hT : flatT X.P T = true) (hb : b < N) (hc : CellIn X C b o v) (hk : κ v C) : Does X N (.load T x) .load L ds C κ := by
  intro ope ho a w hs hN
  exact ⟨v, hN, fun w' hx' => run_load1 ho hs hx hT (cell_ext (hc w hs.st) hb hx'), hN, C, hk, hs.st⟩

def aggT (P : Program) (T : TypeId) : Option Nat := match P.underlying T with
  | some (.struct _) | some (.array _ _) => (P.info? T).map (·.size)
  | _ => none
theorem aggT_spec {P : Program} {T n : Nat} (h : aggT P T = some n) : (∀ w, (isAgg T).run P w = .ok true w) ∧ ∃ i, P.info? T = some i ∧ i.size = n := by
  unfold aggT at h
  cases hu : P.underlying T with
  | none => rw [hu] at h; cases h
  | some d =>
    rw [hu] at h
    cases d <;> first
      | (simp only [Option.map_eq_some_iff] at h; obtain ⟨i, hi, hn⟩ := h; exact ⟨fun w => by simp [isAgg, run_ul hu], i, hi, hn⟩)
      | cases h

/-- so a row reads -/
def RowIn (X : Cx) (C : Chunks) (b o : Nat) (vs : List Value) : Prop := ∀ w, St X.w0 X.B0 C w → ∀ i v, vs[i]? = some v → w.cell? ⟨b, o + i, none⟩ = some v

theorem RowIn.own {b o : Nat} {e : TypeId} {l vs : List Value} {fr : Nat × Nat} (hm : (b, Obj.cells l.toArray e fr) ∈ C) (hv : (l.drop o).take vs.length = vs) : RowIn X C b o vs := by
  intro w h i v hi
  refine cell_of_block (h.own _ hm) ?_
  have hlt := (List.getElem?_eq_some_iff.1 hi).1
  rw [← hv] at hi
  rw [List.getElem?_take, if_pos hlt, List.getElem?_drop] at hi
  exact hi

theorem RowIn.old {b o : Nat} {vs : List Value} (hb : b ∉ X.B0) (h : ∀ i v, vs[i]? = some v → X.w0.cell? ⟨b, o + i, none⟩ = some v) : RowIn X C b o vs :=
  fun w hs i v hi => CellIn.old (C := C) hb (h i v hi) w hs

theorem RowIn.cells {b o : Nat} {vs : List Value} (h : ∀ i v, vs[i]? = some v → CellIn X C b (o + i) v) : RowIn X C b o vs := fun w hs i v hi => h i v hi w hs

theorem run_loadCellsFrom {P : Program} {w : World} {b o : Nat} : ∀ (vs : List Value) (i : Nat) (acc : Array Value), (∀ j v, vs[j]? = some v → w.cell? ⟨b, o + (i + j), none⟩ = some v) →
    (loadCellsFrom ⟨b, o, none⟩ i vs.length acc).run P w = .ok (acc ++ vs.toArray) w := by
  intro vs
  induction vs with
  | nil => intro i acc _; simp [loadCellsFrom]
  | cons v vs ih =>
    intro i acc h
    have h0 := h 0 v rfl
    simp only [Nat.add_zero] at h0
    have hr := ih (i + 1) (acc.push v) (fun j u hj => by have := h (j + 1) u (by simpa using hj); rw [show i + 1 + j = i + (j + 1) by omega]; exact this)
    simp only [List.length_cons, loadCellsFrom, Sem.run_bind, load, Sem.run, add_at, h0, Result.andThen]
    rw [hr]
    simp

theorem run_loadA {T b o : Nat} {vs : List Value} {ope : Oper} {a : Act} {w w' : World} (ho : ope.op = .load T x) (hs : Sat X L ds C a w) (hx : ev L x = some (.pointer (some ⟨b, o, none⟩))) (hT : aggT X.P T = some vs.length) (hc : ∀ i v, vs[i]? = some v → w'.cell? ⟨b, o + i, none⟩ = some v) : (execOp a.eval ope).run X.P w' = .ok (.value (.agg vs.toArray)) w' := by
  obtain ⟨h1, i, hi, hn⟩ := aggT_spec hT
  have hr := run_loadCellsFrom (P := X.P) (w := w') (b := b) (o := o) vs 0 #[] (fun j u hj => by rw [Nat.zero_add]; exact hc j u hj)
  unfold execOp; rw [ho]
  simp only [hs.ev hx, Instr.loadAt, Instr.sureAddr, loadVar, loadCells]
  simp [h1, run_sz hi, hn, hr]

theorem Does.loadA {T b o : Nat} {vs : List Value} (hx : ev L x = some (.pointer (some ⟨b, o, none⟩))) (hT : aggT X.P T = some vs.length) (hc : RowIn X C b o vs) (hk : κ (.agg vs.toArray) C) : Does X N (.load T x) .gen L ds C κ := by
  intro ope ho a w hs hN
  simp only [opS, run_loadA ho hs hx hT (hc w hs.st)]
  exact ⟨hN, C, hk, hs.st⟩
theorem Does.loadAN {T b o : Nat} {vs : List Value} (hx : ev L x = some (.pointer (some ⟨b, o, none⟩))) (hT : aggT X.P T = some vs.length) (hb : b < N) (hc : RowIn X C b o vs) (hk : κ (.agg vs.toArray) C) : Does X N (.load T x) .load L ds C κ := by
  intro ope ho a w hs hN
  exact ⟨.agg vs.toArray, hN, fun w' hx' => run_loadA ho hs hx hT (fun i v hi => cell_ext (hc w hs.st i v hi) hb hx'), hN, C, hk, hs.st⟩

/-- a cell of a list is set -/
inductive SetAt (v : Value) : List Value → Nat → List Value → Prop
  | head {x : Value} {l : List Value} : SetAt v (x :: l) 0 (v :: l)
  | tail {x : Value} {l l' : List Value} {o : Nat} (h : SetAt v l o l') : SetAt v (x :: l) (o + 1) (x :: l')
  | gen {l : List Value} {o : Nat} (h : o < l.length) : SetAt v l o (l.set o v)

theorem SetAt.eq {v : Value} {l l' : List Value} {o : Nat} (h : SetAt v l o l') : o < l.length ∧ l' = l.set o v := by
  induction h with
  | head => exact ⟨by simp, rfl⟩
  | tail _ ih => exact ⟨by simpa using ih.1, by simp [ih.2]⟩
  | gen h => exact ⟨h, rfl⟩

theorem St.setCell {w0 : World} {B0 : List Nat} {w : World} {b o : Nat} {e : TypeId} {l l' : List Value} {v : Value} (h : St w0 B0 C w) (hu : Upd b (cel e l) (cel e l') C C') (hs : SetAt v l o l') : St w0 B0 C' (w.setCell ⟨b, o, none⟩ v) := by
  obtain ⟨hlt, rfl⟩ := hs.eq
  have hb := h.own _ hu.mem
  simp only at hb
  refine h.upd hu rfl rfl rfl (by simp [World.setCell]) ?_ (fun k hk => ?_)
  · show (w.heap.modify b _)[b]? = _
    obtain ⟨hl, hk⟩ := Array.getElem?_eq_some_iff.1 hb
    rw [Array.getElem?_eq_getElem (by rw [Array.size_modify]; exact hl), Array.getElem_modify_self, hk]
    simp [cel]
  · show (w.heap.modify b _)[k]? = _
    rw [Array.getElem?_modify, if_neg (Ne.symm hk)]

theorem run_store {P : Program} {w : World} {b o : Nat} {e : TypeId} {l : List Value} {v : Value} (hv : oneC v = true) (hb : w.heap[b]? = some (cel e l)) (ho : o < l.length) : (store ⟨b, o, none⟩ v).run P w = .ok () (w.setCell ⟨b, o, none⟩ v) := by
  have hc : w.cell? ⟨b, o, none⟩ = some l[o] := cell_of_block hb (by simp [ho])
  have hf : w.frozen? ⟨b, o, none⟩ = false := by simp [World.frozen?, hb]
  cases v <;> first | (simp [oneC] at hv; done) | simp [store, Sem.run, hc, hf]

theorem cells_one {v : Value} (h : oneC v = true) : v.cells = #[v] := by
  cases v <;> simp_all [Value.cells, oneC]

theorem setCell_size (w : World) (a : Addr) (v : Value) : (w.setCell a v).heap.size = w.heap.size := by simp [World.setCell]
theorem setCell_other (w : World) (a : Addr) (v : Value) (k : Nat) (h : k ≠ a.block) : (w.setCell a v).heap[k]? = w.heap[k]? := by
  show (w.heap.modify a.block _)[k]? = _
  rw [Array.getElem?_modify, if_neg (Ne.symm h)]

def sizeT (P : Program) (T : TypeId) : Option Nat := (P.info? T).map (·.size)

theorem run_store1 {T b o : Nat} {e : TypeId} {l l' : List Value} {ope : Oper} {a : Act} {w : World} (ho : ope.op = .store T x y) (hsat : Sat X L ds C a w) (hx : ev L x = some (.pointer (some ⟨b, o, none⟩))) (hy : ev L y = some v) (hT : sizeT X.P T = some 1) (hv : oneC v = true) (hu : Upd b (cel e l) (cel e l') C C') (hs : SetAt v l o l') :
    (execOp a.eval ope).run X.P w = .ok .skip (w.setCell ⟨b, o, none⟩ v) := by
  have hb := hsat.st.own _ hu.mem
  simp only [sizeT, Option.map_eq_some_iff] at hT
  obtain ⟨i, hi, hn⟩ := hT
  have hr := run_store (P := X.P) hv hb hs.eq.1
  unfold execOp; rw [ho]
  simp [hsat.ev hx, hsat.ev hy, Instr.storeAt, Instr.sureAddr, storeVar, run_sz hi, hn, cells_one hv, storeCells, add_at, hr]

theorem Does.store1 {T b o : Nat} {e : TypeId} {l l' : List Value} (hx : ev L x = some (.pointer (some ⟨b, o, none⟩))) (hy : ev L y = some v) (hT : sizeT X.P T = some 1) (hv : oneC v = true) (hu : Upd b (cel e l) (cel e l') C C') (hs : SetAt v l o l') (hk : κ undef C') : Does X N (.store T x y) .gen L ds C κ := by
  intro ope ho a w hsat hN
  simp only [opS, run_store1 ho hsat hx hy hT hv hu hs]
  exact ⟨by rw [setCell_size]; exact hN, C', hk, hsat.st.setCell hu hs⟩
theorem Does.store1F {T b o : Nat} {e : TypeId} {l l' : List Value} (hx : ev L x = some (.pointer (some ⟨b, o, none⟩))) (hy : ev L y = some v) (hT : sizeT X.P T = some 1) (hv : oneC v = true) (hb : N ≤ b) (hu : Upd b (cel e l) (cel e l') C C') (hs : SetAt v l o l') (hk : κ undef C') : Does X N (.store T x y) .fst L ds C κ := by
  intro ope ho a w hsat hN
  exact ⟨_, run_store1 ho hsat hx hy hT hv hu hs, ⟨by rw [setCell_size]; exact hN, fun k hk => setCell_other _ _ _ _ (by show k ≠ b; omega)⟩, by rw [setCell_size]; exact hN, C', hk, hsat.st.setCell hu hs⟩

/-- a row of a list is set -/
inductive SetRow : List Value → List Value → Nat → List Value → Prop
  | nil {l : List Value} {o : Nat} : SetRow [] l o l
  | cons {v : Value} {vs l l1 l' : List Value} {o : Nat} (hv : oneC v = true) (h : SetAt v l o l1) (r : SetRow vs l1 (o + 1) l') : SetRow (v :: vs) l o l'

theorem run_storeCells {P : Program} {b o : Nat} {e : TypeId} {B0 : List Nat} {w0 : World} : ∀ (vs : List Value) (i : Nat) (l l' : List Value) (C : Chunks) (w : World), SetRow vs l (o + i) l' → Upd b (cel e l) (cel e l') C C' → St w0 B0 C w →
    ∃ w', (storeCells ⟨b, o, none⟩ vs i).run P w = .ok () w' ∧ St w0 B0 C' w' ∧ w'.heap.size = w.heap.size ∧ ∀ k, k ≠ b → w'.heap[k]? = w.heap[k]? := by
  intro vs
  induction vs with
  | nil =>
    intro i l l' C w hr hu hs
    cases hr
    refine ⟨w, by simp [storeCells], ?_, rfl, fun _ _ => rfl⟩
    have : C' = C := by
      clear hs
      generalize ho : cel e l = ob at hu
      induction hu with
      | head => rfl
      | tail _ ih => rw [ih]
    rw [this]; exact hs
  | cons v vs ih =>
    intro i l l' C w hr hu hs
    cases hr with
    | @cons _ _ _ l1 _ _ hv h r =>
      have hmid : ∃ C1, Upd b (cel e l) (cel e l1) C C1 ∧ Upd b (cel e l1) (cel e l') C1 C' := by
        clear hs ih
        induction hu with
        | head => exact ⟨_, .head, .head⟩
        | tail _ ih => obtain ⟨C1, h1, h2⟩ := ih; exact ⟨_, .tail h1, .tail h2⟩
      obtain ⟨C1, h1, h2⟩ := hmid
      have hb := hs.own _ h1.mem
      have hst := hs.setCell h1 h
      obtain ⟨w', hw', hs', hz, hoth⟩ := ih (i + 1) l1 l' C1 _ (by rw [show o + (i + 1) = o + i + 1 by omega]; exact r) h2 hst
      refine ⟨w', ?_, hs', by rw [hz, setCell_size], fun k hk => by rw [hoth k hk]; exact setCell_other _ _ _ _ hk⟩
      simp only [storeCells, Sem.run_bind, add_at, run_store hv hb h.eq.1, Result.andThen]
      exact hw'

theorem run_storeA {T b o : Nat} {e : TypeId} {l l' vs : List Value} {ope : Oper} {a : Act} {w : World} (ho : ope.op = .store T x y) (hsat : Sat X L ds C a w) (hx : ev L x = some (.pointer (some ⟨b, o, none⟩))) (hy : ev L y = some (.agg vs.toArray)) (hT : sizeT X.P T = some vs.length) (hu : Upd b (cel e l) (cel e l') C C') (hs : SetRow vs l o l') :
    ∃ w', (execOp a.eval ope).run X.P w = .ok .skip w' ∧ St X.w0 X.B0 C' w' ∧ w'.heap.size = w.heap.size ∧ ∀ k, k ≠ b → w'.heap[k]? = w.heap[k]? := by
  simp only [sizeT, Option.map_eq_some_iff] at hT
  obtain ⟨i, hi, hn⟩ := hT
  obtain ⟨w', hw', hst, h1, h2⟩ := run_storeCells (P := X.P) vs 0 l l' C w (by simpa using hs) hu hsat.st
  refine ⟨w', ?_, hst, h1, h2⟩
  unfold execOp; rw [ho]
  simp [hsat.ev hx, hsat.ev hy, Instr.storeAt, Instr.sureAddr, storeVar, run_sz hi, hn, Value.cells, hw']

theorem Does.storeA {T b o : Nat} {e : TypeId} {l l' vs : List Value} (hx : ev L x = some (.pointer (some ⟨b, o, none⟩))) (hy : ev L y = some (.agg vs.toArray)) (hT : sizeT X.P T = some vs.length) (hu : Upd b (cel e l) (cel e l') C C') (hs : SetRow vs l o l') (hk : κ undef C') : Does X N (.store T x y) .gen L ds C κ := by
  intro ope ho a w hsat hN
  obtain ⟨w', hrun, hst, h1, _⟩ := run_storeA ho hsat hx hy hT hu hs
  simp only [opS, hrun]
  exact ⟨by rw [h1]; exact hN, C', hk, hst⟩
theorem Does.storeAF {T b o : Nat} {e : TypeId} {l l' vs : List Value} (hx : ev L x = some (.pointer (some ⟨b, o, none⟩))) (hy : ev L y = some (.agg vs.toArray)) (hT : sizeT X.P T = some vs.length) (hb : N ≤ b) (hu : Upd b (cel e l) (cel e l') C C') (hs : SetRow vs l o l') (hk : κ undef C') : Does X N (.store T x y) .fst L ds C κ := by
  intro ope ho a w hsat hN
  obtain ⟨w', hrun, hst, h1, h2⟩ := run_storeA ho hsat hx hy hT hu hs
  exact ⟨w', hrun, ⟨by rw [h1]; exact hN, fun k hk => h2 k (by omega)⟩, by rw [h1]; exact hN, C', hk, hst⟩

def zeroT (P : Program) (T : TypeId) : Option Value := (P.info? T).bind (·.zero)
theorem run_zero {P : Program} {T : TypeId} {z : Value} (h : zeroT P T = some z) (w : World) : (zeroValue T).run P w = .ok z w := by
  simp only [zeroT, Option.bind_eq_some_iff] at h
  obtain ⟨i, hi, hz⟩ := h
  simp [zeroValue, run_ti hi, hz]

/-- the zero value's cells, as a list -/
def zeroL (P : Program) (T : TypeId) : Option (List Value) := (zeroT P T).map fun z => z.cells.toList

theorem Does.alloc {T : TypeId} {l : List Value} (hz : zeroL X.P T = some l) (hk : ∀ b, N ≤ b → X.w0.heap.size ≤ b → b ∉ C.map Prod.fst → κ (.pointer (some ⟨b, 0, none⟩)) ((b, cel T l) :: C)) : Does X N (.alloc T) .alloc L ds C κ := by
  intro ope ho a w hs hN
  simp only [zeroL, Option.map_eq_some_iff] at hz
  obtain ⟨z, hz, rfl⟩ := hz
  refine ⟨cel T z.cells.toList, fun b => .pointer (some ⟨b, 0, none⟩), hN, fun w' => ?_, by show _ ≤ (w.heap.push _).size; simp; omega, _, hk _ hN hs.st.mods.size hs.st.fresh, hs.st.alloc _⟩
  unfold execOp; rw [ho]
  simp [Instr.alloc, run_zero hz, newVar, newRow, newObj, Sem.run, cel, World.alloc_eq]

theorem Does.box {T : TypeId} {l : List Value} (hx : ev L x = some v) (hl : v.cells = l.toArray) (hk : ∀ b, N ≤ b → X.w0.heap.size ≤ b → b ∉ C.map Prod.fst → κ (.pointer (some ⟨b, 0, none⟩)) ((b, cel T l) :: C)) : Does X N (.box T x) .alloc L ds C κ := by
  intro ope ho a w hs hN
  refine ⟨cel T l, fun b => .pointer (some ⟨b, 0, none⟩), hN, fun w' => ?_, by show _ ≤ (w.heap.push _).size; simp; omega, _, hk _ hN hs.st.mods.size hs.st.fresh, hs.st.alloc _⟩
  unfold execOp; rw [ho]
  simp [hs.ev hx, Instr.box, newVar, newRow, newObj, Sem.run, cel, hl, World.alloc_eq]

/-! ### calls -/

def callable (P : Program) (g : FuncId) : Bool := match P.funcs[g]? with
  | some fn => fn.name != "runtime.NumGoroutine" && fn.body.isSome
  | none => false

theorem run_callFunc {P : Program} {g : FuncId} (h : callable P g = true) (args : Array Value) (w : World) : (callFunc g args).run P w = .ok (.enter g args) w := by
  unfold callable at h
  cases hf : P.funcs[g]? with
  | none => rw [hf] at h; cases h
  | some fn =>
    rw [hf] at h
    simp only [Bool.and_eq_true, bne_iff_ne, ne_eq] at h
    have hb : fn.body.isNone = false := by
      cases hbd : fn.body with
      | none => rw [hbd] at h; simp at h
      | some c => rfl
    simp [callFunc, hf, h.1]
    intro e; rw [e] at h; simp at h

theorem Does.call {f : Operand} {args : Array Operand} {ats : Array TypeId} {g : FuncId} {fs cs : Array Value} {vs args' : List Value} {pre : World → Prop} {Ci Cr : Chunks} {κ' : Value → Chunks → Prop}
    (hf : ev L f = some (.func (.func g) fs cs)) (ha : Evs L args.toList vs) (hg : callable X.P g = true) (hargs : fs.toList ++ vs ++ cs.toList = args') (ct : Ct X.P g args'.toArray pre Ci κ')
    (hs : Split Ci C Cr) (hp : ∀ w, St X.w0 X.B0 C w → pre w) (hk : ∀ v C', κ' v C' → κ v (C' ++ Cr)) : Does X N (.call ⟨.value f, args, ats⟩) .gen L ds C κ := by
  intro ope ho a w hsat hN
  have hargs' : args.map a.eval = vs.toArray := by rw [← hsat.evs ha, ← Array.toList_map, Array.toArray_toList]
  have hst := hsat.st.split hs
  have hrun : (execOp a.eval ope).run X.P w = .ok (.enter g args'.toArray) w := by
    unfold execOp; rw [ho]
    simp only [resolve, hsat.ev hf, Deferred.ofValue, hargs']
    simp [invoke, run_callFunc hg, ← hargs]
  simp only [opS, hrun]
  refine (ct w hst.left.nd (fun c hc => hst.own c (List.mem_append_left _ hc)) (hp w hsat.st)).mono ?_
  rintro e w' ⟨v, hv, C', hc, hst'⟩
  exact ⟨v, hv, Nat.le_trans hN hst'.mods.size, C' ++ Cr, hk v C' hc, hst.frame hst'⟩
end
end Go.Lg
