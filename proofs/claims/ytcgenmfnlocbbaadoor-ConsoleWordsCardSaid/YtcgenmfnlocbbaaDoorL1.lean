/- Part 1 of a small program logic: a frame goes on until it leaves; a region's operations in whatever order. Nothing is claimed of the program here. -/
import Derived.Orders
import Derived.Calls
import Derived.Laws.World
namespace Go.Lg

/-- frame b with these slots and this to do -/
def at' (b : Frame) (a : Act) (todo : List Item) : Frame :=
  { fn := b.fn, tmps := a.tmps, todo, defers := a.defers, mode := .run, kind := b.kind, roundOf := b.roundOf }

theorem eval_at' (b : Frame) (a : Act) (todo : List Item) : (at' b a todo).eval = a.eval := by
  funext x; cases x <;> rfl

/-- From here frame b comes to an end that Fin names, whoever called. -/
def Goes (P : Program) (b : Frame) (Fin : Frame → World → Prop) (todo : List Item) (a : Act) (w : World) : Prop :=
  ∀ cs, ∃ fr w', Fin fr w' ∧ Steps P (lone (at' b a todo) cs w) (lone fr cs w')

/-- An entered frame comes back to its caller with a value. -/
def Rets (P : Program) (fr0 : Frame) (w : World) (J : Value → World → Prop) : Prop :=
  ∀ c cs, ∃ v w', J v w' ∧ Steps P (lone fr0 (c :: cs) w) (lone (c.finish v) cs w')

theorem Rets.mono {P : Program} {fr0 : Frame} {w : World} {J J' : Value → World → Prop} (h : Rets P fr0 w J) (hj : ∀ v w', J v w' → J' v w') : Rets P fr0 w J' :=
  fun c cs => let ⟨v, w', j, s⟩ := h c cs; ⟨v, w', hj _ _ j, s⟩

section moves
variable {P : Program} {b : Frame} {Fin : Frame → World → Prop} {a a' : Act} {w w' : World} {k todo todo' : List Item}

theorem Goes.step (h : ∀ cs, step P (lone (at' b a todo) cs w) = .next (lone (at' b a' todo') cs w')) (hk : Goes P b Fin todo' a' w') : Goes P b Fin todo a w := by
  intro cs
  obtain ⟨fr, w2, hf, hs⟩ := hk cs
  exact ⟨fr, w2, hf, .head (h cs) hs⟩

theorem Goes.stop (h : Fin (at' b a todo) w) : Goes P b Fin todo a w := fun _ => ⟨_, w, h, .refl _ _⟩

theorem Goes.steps (h : ∀ cs, Steps P (lone (at' b a todo) cs w) (lone (at' b a' todo') cs w')) (hk : Goes P b Fin todo' a' w') : Goes P b Fin todo a w := by
  intro cs
  obtain ⟨fr, w2, hf, hs⟩ := hk cs
  exact ⟨fr, w2, hf, (h cs).trans hs⟩

theorem Goes.mono {Fin' : Frame → World → Prop} (h : Goes P b Fin todo a w) (hf : ∀ fr w', Fin fr w' → Fin' fr w') : Goes P b Fin' todo a w :=
  fun cs => let ⟨fr, w', f, s⟩ := h cs; ⟨fr, w', hf _ _ f, s⟩

theorem goes_skip (h : Goes P b Fin k a w) : Goes P b Fin (.code .skip :: k) a w :=
  h.step fun _ => step_lone_go (by simp [stepG, stepG.exec, at'])
theorem goes_label {l : Nat} (h : Goes P b Fin k a w) : Goes P b Fin (.code (.label l) :: k) a w :=
  h.step fun _ => step_lone_go (by simp [stepG, stepG.exec, at'])
theorem goes_inBlock {id : Nat} (h : Goes P b Fin k a w) : Goes P b Fin (.inBlock id :: k) a w :=
  h.step fun _ => step_lone_go (by simp [stepG, stepG.exec, at'])
theorem goes_inScope {c : Code} (h : Goes P b Fin k a w) : Goes P b Fin (.inScope c :: k) a w :=
  h.step fun _ => step_lone_go (by simp [stepG, stepG.exec, at'])
theorem goes_scope {c : Code} (h : Goes P b Fin (.code c :: .inScope c :: k) a w) : Goes P b Fin (.code (.scope c) :: k) a w :=
  h.step fun _ => step_lone_go (by simp [stepG, stepG.exec, at'])
theorem goes_seq {x y : Code} (h : Goes P b Fin (.code x :: .code y :: k) a w) : Goes P b Fin (.code (.seq x y) :: k) a w :=
  h.step fun _ => step_lone_go (by simp [stepG, stepG.exec, at'])
theorem goes_block {id : Nat} {c : Code} (h : Goes P b Fin (.code c :: .inBlock id :: k) a w) : Goes P b Fin (.code (.block id c) :: k) a w :=
  h.step fun _ => step_lone_go (by simp [stepG, stepG.exec, at'])
theorem goes_loop {c : Code} (h : Goes P b Fin (.code c :: .inLoop c :: k) a w) : Goes P b Fin (.code (.loop c) :: k) a w :=
  h.step fun _ => step_lone_go (by simp [stepG, stepG.exec, at'])
theorem goes_inLoop {c : Code} (h : Goes P b Fin (.code c :: .inLoop c :: k) a w) : Goes P b Fin (.inLoop c :: k) a w :=
  h.step fun _ => step_lone_go (by simp [stepG, stepG.exec, at'])
theorem goes_exit {id : Nat} (hk : exitTo id k = some todo') (h : Goes P b Fin todo' a w) : Goes P b Fin (.code (.exit id) :: k) a w :=
  h.step fun _ => step_lone_go (by simp [stepG, stepG.exec, at', hk])
theorem goes_goto {l : Nat} (hk : gotoIn l k = some todo') (h : Goes P b Fin todo' a w) : Goes P b Fin (.code (.goto l) :: k) a w :=
  h.step fun _ => step_lone_go (by simp [stepG, stepG.exec, at', hk])
theorem goes_cond {c : Operand} {x y : Code} {t : Bool} (hc : a.eval c = .bool t) (h : Goes P b Fin (.code (if t then x else y) :: k) a w) :
    Goes P b Fin (.code (.cond c x y) :: k) a w :=
  h.step fun _ => step_lone_go (by
    have := congrFun (eval_at' b a (.code (.cond c x y) :: k)) c
    simp only [at'] at this
    simp [stepG, stepG.exec, at', this, hc])
end moves

/-- How an operation may be moved: 'loc': it looks at slots alone · 'load': it reads blocks below N · 'alloc': it makes a block · 'fst': it turns blocks from N on · 'gen': anything. -/
inductive Cls | loc | load | alloc | fst | gen
  deriving DecidableEq

/-- below N w' is as w is. -/
structure Ext (N : Nat) (w w' : World) : Prop where
  size : N ≤ w'.heap.size
  block : ∀ k, k < N → w'.heap[k]? = w.heap[k]?

theorem Ext.refl {N : Nat} {w : World} (h : N ≤ w.heap.size) : Ext N w w := ⟨h, fun _ _ => rfl⟩
theorem Ext.trans {N : Nat} {x y z : World} (h : Ext N x y) (h' : Ext N y z) : Ext N x z :=
  ⟨h'.size, fun k hk => (h'.block k hk).trans (h.block k hk)⟩
theorem Ext.alloc {N : Nat} {w : World} (h : N ≤ w.heap.size) (o : Obj) : Ext N w (w.alloc o) :=
  ⟨by show _ ≤ (w.heap.push o).size; simp; omega, fun k hk => by
    show (w.heap.push o)[k]? = _
    rw [Array.getElem?_push, if_neg (by omega)]⟩

/-- What an operation does, by its class. -/
def opS (P : Program) (N : Nat) (o : Oper) (c : Cls) (a : Act) (w : World) (J : Value → World → Prop) : Prop :=
  match c with
  | .loc => ∃ v, (∀ w', (execOp a.eval o).run P w' = .ok (.value v) w') ∧ J v w
  | .load => ∃ v, N ≤ w.heap.size ∧ (∀ w', Ext N w w' → (execOp a.eval o).run P w' = .ok (.value v) w') ∧ J v w
  | .alloc => ∃ (obj : Obj) (mk : Nat → Value), N ≤ w.heap.size ∧ (∀ w', (execOp a.eval o).run P w' = .ok (.value (mk w'.heap.size)) (w'.alloc obj)) ∧ J (mk w.heap.size) (w.alloc obj)
  | .fst => ∃ w', (execOp a.eval o).run P w = .ok .skip w' ∧ Ext N w w' ∧ J undef w'
  | .gen => match (execOp a.eval o).run P w with
    | .ok (.value v) w' => J v w'
    | .ok .skip w' => J undef w'
    | .ok (.enter f args) w' => Calls P f args w' fun e w'' => ∃ v, e = .returned v ∧ J v w''
    | .ok (.row row args) w' => Rows P row args w' J
    | .ok (.round l f tmps assign body) w' => Rets P (Frame.round l f tmps assign body .normal) w' J
    | _ => False

section
variable {P : Program} {N : Nat} {ops : Array Oper} {b : Frame} {Fin : Frame → World → Prop}

theorem opS_mono {o : Oper} {c : Cls} {a : Act} {w : World} {J J' : Value → World → Prop} (h : opS P N o c a w J) (hj : ∀ v w', J v w' → J' v w') : opS P N o c a w J' := by
  cases c with
  | loc => exact let ⟨v, h1, h2⟩ := h; ⟨v, h1, hj _ _ h2⟩
  | load => exact let ⟨v, h0, h1, h2⟩ := h; ⟨v, h0, h1, hj _ _ h2⟩
  | alloc => exact let ⟨obj, mk, h0, h1, h2⟩ := h; ⟨obj, mk, h0, h1, hj _ _ h2⟩
  | fst => exact let ⟨w', h1, h2, h3⟩ := h; ⟨w', h1, h2, hj _ _ h3⟩
  | gen =>
    simp only [opS] at *
    split at h
    · exact hj _ _ h
    · exact hj _ _ h
    · exact h.mono fun e w' ⟨v, he, hv⟩ => ⟨v, he, hj _ _ hv⟩
    · exact h.mono hj
    · exact h.mono hj
    · exact h

theorem opS_congr {o : Oper} {c : Cls} {a a' : Act} {w : World} {J : Value → World → Prop} (he : execOp a'.eval o = execOp a.eval o) (h : opS P N o c a w J) : opS P N o c a' w J := by
  cases c <;> simp only [opS] at * <;> rw [he] <;> exact h

/-- whatever its class, in the 'gen' form -/
theorem opS_gen {o : Oper} {c : Cls} {a : Act} {w : World} {J : Value → World → Prop} (h : opS P N o c a w J) : opS P N o .gen a w J := by
  cases c with
  | loc => obtain ⟨v, h1, h2⟩ := h; simp only [opS, h1 w]; exact h2
  | load => obtain ⟨v, h0, h1, h2⟩ := h; simp only [opS, h1 w (Ext.refl h0)]; exact h2
  | alloc => obtain ⟨obj, mk, h0, h1, h2⟩ := h; simp only [opS, h1 w]; exact h2
  | fst => obtain ⟨w', h1, _, h3⟩ := h; simp only [opS, h1]; exact h3
  | gen => exact h

/-- One operation of a region. -/
def opX (P : Program) (N : Nat) (ops : Array Oper) (cf : Nat → Cls) (i : Nat) (K : Act → World → Prop) (a : Act) (w : World) : Prop :=
  match ops[i]? with
  | none => K a w
  | some o => if Region.wanted o (yielded ops a.tmps) then opS P N o (cf i) a w (fun v w' => K (a.put o.dst v) w') else K (a.put o.dst undef) w

theorem opX_mono {cf : Nat → Cls} {i : Nat} {a : Act} {w : World} {K K' : Act → World → Prop} (h : ∀ a w, K a w → K' a w) (hh : opX P N ops cf i K a w) : opX P N ops cf i K' a w := by
  unfold opX at *
  split
  · rename_i ho; rw [ho] at hh; exact h _ _ hh
  · rename_i o ho
    simp only [ho] at hh
    split
    · rename_i hw; simp only [hw, if_true] at hh; exact opS_mono hh fun v w' => h _ _
    · rename_i hw; simp only [hw] at hh; exact h _ _ hh

theorem finish_at' (a : Act) (i : Nat) (rest : List Nat) (k : List Item) (v : Value) :
    (at' b a (.inRegion ops (i :: rest) :: k)).finish v = at' b (a.put ((ops[i]?).bind (·.dst)) v) (.inRegion ops rest :: k) := by
  cases h : (ops[i]?).bind (·.dst) <;> simp [Frame.finish, at', Act.put, h]

theorem stepG_op' {a : Act} {w : World} {k : List Item} {cs : List Frame} {i : Nat} {rest : List Nat} {o : Oper} (ho : ops[i]? = some o) (hw : Region.wanted o (yielded ops a.tmps) = true)
    (hd : b.roundOf = none ∨ ∀ c, o.op ≠ .defer c) :
    stepG P true { frame := at' b a (.inRegion ops (i :: rest) :: k), callers := cs, status := .running, dying := none } w =
      stepG.apply P true (at' b a (.inRegion ops (i :: rest) :: k)) cs none (execOp a.eval o) w := by
  have he := eval_at' b a (.inRegion ops (i :: rest) :: k)
  have hr : (at' b a (.inRegion ops (i :: rest) :: k)).roundOf = b.roundOf := rfl
  have hm : (at' b a (.inRegion ops (i :: rest) :: k)).mode = .run := rfl
  have ht : (at' b a (.inRegion ops (i :: rest) :: k)).todo = .inRegion ops (i :: rest) :: k := rfl
  have hts : (at' b a (.inRegion ops (i :: rest) :: k)).tmps = a.tmps := rfl
  generalize hfr : at' b a (.inRegion ops (i :: rest) :: k) = fr at *
  obtain ⟨fn, tmps, todo, defers, mode, kind, ro⟩ := fr
  simp only at hr hm ht hts
  subst hr hm ht hts
  simp only [stepG, stepG.exec, ho, hw, Option.map_some, Option.getD_some, if_true, stepG.oper, Frame.oper?, he]
  rcases hd with hd | hd
  · rw [hd]
  · cases hb : b.roundOf with
    | none => rfl
    | some l =>
      split
      · rename_i hc
        exact absurd hc (hd _)
      · rfl

/-- One operation, one step (or a call). -/
theorem goes_op {a : Act} {w : World} {k : List Item} {i : Nat} {rest : List Nat} {cf : Nat → Cls}
    (h : opX P N ops cf i (Goes P b Fin (.inRegion ops rest :: k)) a w) : Goes P b Fin (.inRegion ops (i :: rest) :: k) a w := by
  intro cs
  unfold opX at h
  cases ho : ops[i]? with
  | none =>
    rw [ho] at h
    obtain ⟨fr, w', hf, hs⟩ := h cs
    refine ⟨fr, w', hf, .head ?_ hs⟩
    have hfin := finish_at' (ops := ops) (b := b) a i rest k undef
    rw [ho] at hfin
    have hfin' : (at' b a (.inRegion ops (i :: rest) :: k)).finish undef = at' b a (.inRegion ops rest :: k) := by rw [hfin]; rfl
    rw [← hfin']
    exact step_lone_go (by simp [stepG, stepG.exec, at', ho])
  | some o =>
    simp only [ho] at h
    have hfin : ∀ v, (at' b a (.inRegion ops (i :: rest) :: k)).finish v = at' b (a.put o.dst v) (.inRegion ops rest :: k) := by
      intro v; rw [finish_at', ho]; rfl
    by_cases hw : Region.wanted o (yielded ops a.tmps) = true
    · rw [if_pos hw] at h
      have hgen := opS_gen h
      by_cases hd : b.roundOf = none ∨ ∀ c, o.op ≠ .defer c
      case neg =>
        exfalso
        have hd2 : ∃ c, o.op = .defer c := by
          simp only [not_or, ne_eq, Classical.not_forall, Classical.not_not] at hd
          exact hd.2
        obtain ⟨c, hc⟩ := hd2
        simp only [opS] at hgen
        have hx : ∀ (q : Result Next), (execOp a.eval o).run P w = q → (∃ d w', q = .ok (.defer d) w') ∨ (∃ x w', q = .halt x w') := by
          intro q hq
          unfold execOp at hq
          rw [hc] at hq
          simp only [resolve] at hq
          split at hq
          · left; exact ⟨_, _, hq.symm⟩
          · left; exact ⟨_, _, hq.symm⟩
          · unfold Deferred.ofValue at hq
            split at hq
            · left; exact ⟨_, _, hq.symm⟩
            · left; exact ⟨_, _, hq.symm⟩
            · right; exact ⟨_, _, hq.symm⟩
        rcases hx _ rfl with ⟨d, w', hq⟩ | ⟨x, w', hq⟩ <;> rw [hq] at hgen <;> exact hgen
      have hg := stepG_op' (P := P) (b := b) (k := k) (cs := cs) (w := w) (rest := rest) ho hw hd
      simp only [opS] at hgen
      split at hgen
      · rename_i v w' hr
        obtain ⟨fr, w2, hf, hs⟩ := hgen cs
        refine ⟨fr, w2, hf, .head (step_lone_go ?_) hs⟩
        rw [hg, ← hfin]; simp [stepG.apply, hr]
      · rename_i w' hr
        obtain ⟨fr, w2, hf, hs⟩ := hgen cs
        refine ⟨fr, w2, hf, .head (step_lone_go ?_) hs⟩
        rw [hg, ← hfin]; simp [stepG.apply, hr]
      · rename_i f args w' hr
        obtain ⟨e, w2, fr, ⟨v, rfl, hk⟩, hcomes, _, hleave⟩ := hgen (at' b a (.inRegion ops (i :: rest) :: k) :: cs)
        obtain ⟨fr2, w3, hf, hs⟩ := hk cs
        have henter : step P (lone (at' b a (.inRegion ops (i :: rest) :: k)) cs w) =
            .next (lone (Frame.enter P f args .normal) (at' b a (.inRegion ops (i :: rest) :: k) :: cs) w') :=
          step_lone_go (by rw [hg]; simp [stepG.apply, hr, at'])
        refine ⟨fr2, w3, hf, .head henter (Steps.trans hcomes (.head ?_ hs))⟩
        rw [← hfin]; exact step_leave_returned hleave
      · rename_i row args w' hr
        obtain ⟨v, w2, hk, hsteps⟩ := hgen (at' b a (.inRegion ops (i :: rest) :: k)) cs
        obtain ⟨fr2, w3, hf, hs⟩ := hk cs
        have henter : step P (lone (at' b a (.inRegion ops (i :: rest) :: k)) cs w) =
            .next (lone (Frame.ofRow P row args .normal) (at' b a (.inRegion ops (i :: rest) :: k) :: cs) w') :=
          step_lone_go (by rw [hg]; simp [stepG.apply, hr, at'])
        refine ⟨fr2, w3, hf, .head henter (Steps.trans hsteps ?_)⟩
        rw [hfin]; exact hs
      · rename_i l f tmps assign body w' hr
        obtain ⟨v, w2, hk, hsteps⟩ := hgen (at' b a (.inRegion ops (i :: rest) :: k)) cs
        obtain ⟨fr2, w3, hf, hs⟩ := hk cs
        have henter : step P (lone (at' b a (.inRegion ops (i :: rest) :: k)) cs w) =
            .next (lone (Frame.round l f tmps assign body .normal) (at' b a (.inRegion ops (i :: rest) :: k) :: cs) w') :=
          step_lone_go (by rw [hg]; simp [stepG.apply, hr])
        refine ⟨fr2, w3, hf, .head henter (Steps.trans hsteps ?_)⟩
        rw [hfin]; exact hs
      · exact hgen.elim
    · rw [if_neg hw] at h
      obtain ⟨fr, w', hf, hs⟩ := h cs
      refine ⟨fr, w', hf, .head ?_ hs⟩
      rw [← hfin]
      have hw' : Region.wanted o (yielded ops a.tmps) = false := by simpa using hw
      exact step_lone_go (by simp [stepG, stepG.exec, at', ho, hw'])

theorem goes_region_end {a : Act} {w : World} {k : List Item} (h : Goes P b Fin k a w) : Goes P b Fin (.inRegion ops [] :: k) a w :=
  h.step fun _ => step_lone_go (by simp [stepG, stepG.exec, at'])

/-- The operations, one behind the other. -/
def opsX (P : Program) (N : Nat) (ops : Array Oper) (cf : Nat → Cls) (K : Act → World → Prop) : List Nat → Act → World → Prop
  | [], a, w => K a w
  | i :: rest, a, w => opX P N ops cf i (opsX P N ops cf K rest) a w

theorem goes_ops {cf : Nat → Cls} {k : List Item} : ∀ (l : List Nat) (a : Act) (w : World), opsX P N ops cf (Goes P b Fin k) l a w → Goes P b Fin (.inRegion ops l :: k) a w
  | [], _, _, h => goes_region_end h
  | _ :: rest, _, _, h => goes_op (opX_mono (fun a w => goes_ops rest a w) h)

theorem goes_region {id : Nat} {cf : Nat → Cls} {k : List Item} {a : Act} {w : World} (h : opsX P N ops cf (Goes P b Fin k) (List.range ops.size) a w) :
    Goes P b Fin (.code (.region id ops false) :: k) a w :=
  (goes_ops _ _ _ h).step fun _ => step_lone_go (by simp [stepG, stepG.exec, at'])

/-- In whatever order the edges allow. -/
def anyX (P : Program) (N : Nat) (ops : Array Oper) (cf : Nat → Cls) (K : Act → World → Prop) : Nat → Array Bool → Act → World → Prop
  | 0, listed, a, w => Region.ready .any ops listed = [] ∧ K a w
  | fuel + 1, listed, a, w =>
    (Region.ready .any ops listed = [] → K a w) ∧
    ∀ i ∈ Region.ready .any ops listed, opX P N ops cf i (anyX P N ops cf K fuel (listed.setIfInBounds i true)) a w

theorem anyX_sound {cf : Nat → Cls} {K : Act → World → Prop} : ∀ (fuel t : Nat) (listed : Array Bool) (a : Act) (w : World), anyX P N ops cf K fuel listed a w →
    opsX P N ops cf K (Region.linearise.go .any ops fuel t listed []) a w := by
  intro fuel
  induction fuel with
  | zero => intro t listed a w h; simpa [Region.linearise.go, opsX] using h.2
  | succ fuel ih =>
    intro t listed a w h
    obtain ⟨h₀, h₁⟩ := h
    simp only [Region.linearise.go]
    change opsX P N ops cf K (match (Region.ready .any ops listed)[t % (Region.ready .any ops listed).length]? with
      | some i => Region.linearise.go .any ops fuel (t / (Region.ready .any ops listed).length) (listed.setIfInBounds i true) [i]
      | none => [].reverse) a w
    cases hi : (Region.ready .any ops listed)[t % (Region.ready .any ops listed).length]? with
    | none =>
      have hnil : Region.ready .any ops listed = [] := by
        cases hr : Region.ready .any ops listed with
        | nil => rfl
        | cons x xs =>
          rw [hr] at hi
          have hlt : t % (x :: xs).length < (x :: xs).length := Nat.mod_lt _ (by simp)
          simp at hi
          simp at hlt
          omega
      simpa [opsX] using h₀ hnil
    | some i =>
      simp only []
      rw [linearise_go_acc, List.reverse_singleton, List.singleton_append]
      exact opX_mono (fun a w => ih _ _ a w) (h₁ i (List.mem_of_getElem? hi))

theorem goes_region_draw {id : Nat} {cf : Nat → Cls} {k : List Item} {a : Act} {w : World} (hm : P.follows .mixedOrders = true)
    (h : anyX P N ops cf (Goes P b Fin k) ops.size (Array.replicate ops.size false) a w.drew) : Goes P b Fin (.code (.region id ops true) :: k) a w := by
  have h2 := goes_ops _ _ _ (anyX_sound ops.size (w.tape w.drawn (.order b.fn id)) _ a _ h)
  refine h2.step fun cs => step_lone_go ?_
  simp [stepG, stepG.exec, at', choose, Sem.run, Question.forced, Question.cut, Region.schedule, hm, Region.linearise]

/-- What a load yields as long as only new blocks come. -/
def LYields (P : Program) (N : Nat) (ops : Array Oper) (o : Oper) (v : Value) (a : Act) (w : World) : Prop :=
  (Region.wanted o (yielded ops a.tmps) = true ∧ ∀ w', Ext N w w' → (execOp a.eval o).run P w' = .ok (.value v) w') ∨
  (Region.wanted o (yielded ops a.tmps) = false ∧ v = undef)

theorem LYields.of_same {o : Oper} {v : Value} {a a' : Act} {w w' : World} (hy : LYields P N ops o v a w) (hx : Ext N w w') (he : execOp a'.eval o = execOp a.eval o)
    (hw : Region.wanted o (yielded ops a'.tmps) = Region.wanted o (yielded ops a.tmps)) : LYields P N ops o v a' w' := by
  unfold LYields at *
  rw [he, hw]
  exact hy.imp (fun ⟨h1, h2⟩ => ⟨h1, fun w2 h3 => h2 w2 (hx.trans h3)⟩) id

theorem LYields.of_yields {o : Oper} {v : Value} {a : Act} {w : World} (hy : Yields P ops o v a) : LYields P N ops o v a w :=
  hy.imp (fun ⟨h1, h2⟩ => ⟨h1, fun w' _ => h2 w'⟩) id

theorem LYields.opX {cf : Nat → Cls} {i : Nat} {o : Oper} {v : Value} {a : Act} {K : Act → World → Prop} {w : World} (hi : ops[i]? = some o) (hc : cf i = .load ∧ N ≤ w.heap.size ∨ cf i = .loc) (hy : LYields P N ops o v a w)
    (hloc : cf i = .loc → Yields P ops o v a) (h : K (a.put o.dst v) w) : opX P N ops cf i K a w := by
  unfold Lg.opX
  simp only [hi]
  rcases hc with ⟨hc, hN⟩ | hc
  · rcases hy with ⟨hw, hv⟩ | ⟨hw, rfl⟩
    · simp only [hw, if_true, hc, opS]; exact ⟨v, hN, hv, h⟩
    · simp only [hw, Bool.false_eq_true, if_false]; exact h
  · rcases hloc hc with ⟨hw, hv⟩ | ⟨hw, rfl⟩
    · simp only [hw, if_true, hc, opS]; exact ⟨v, hv, h⟩
    · simp only [hw, Bool.false_eq_true, if_false]; exact h

/-- An operation that may go first, met later: 'loc' past anything. -/
theorem opX_put {cf : Nat → Cls} {j : Nat} {oi oj : Oper} {v : Value} (hj : ops[j]? = some oj) (hap : oi.apart ops oj = true)
    (hsi : ∀ cs b, oi.op ≠ .select cs b) (hsj : ∀ cs b, oj.op ≠ .select cs b) {K : Act → World → Prop} {a : Act} {w : World}
    (hy : Yields P ops oi v a) (h : opX P N ops cf j K (a.put oi.dst v) w) :
    opX P N ops cf j (fun a' w' => Yields P ops oi v a' ∧ K (a'.put oi.dst v) w') a w := by
  obtain ⟨h1, h2, h3⟩ := Oper.apart_spec hap
  have keep : ∀ u, Yields P ops oi v (a.put oj.dst u) := fun u =>
    hy.of_same (execOp_put oi hsi a oj.dst u h3) (wanted_put oi a oj.dst u h3)
  unfold opX at *
  simp only [hj] at *
  rw [wanted_put oj a oi.dst v h1] at h
  split
  · rename_i hw
    rw [if_pos hw] at h
    refine opS_mono (opS_congr (execOp_put oj hsj a oi.dst v h1).symm h) fun u w' hk => ⟨keep u, ?_⟩
    rw [← Act.put_comm a v u h2]; exact hk
  · rename_i hw
    rw [if_neg hw] at h
    exact ⟨keep _, by rw [← Act.put_comm a v undef h2]; exact h⟩

/-- A load past what is no 'gen'. -/
theorem opX_putL {cf : Nat → Cls} {j : Nat} {oi oj : Oper} {v : Value} (hj : ops[j]? = some oj) (hap : oi.apart ops oj = true) (hcj : cf j ≠ .gen)
    (hsi : ∀ cs b, oi.op ≠ .select cs b) (hsj : ∀ cs b, oj.op ≠ .select cs b) {K : Act → World → Prop} {a : Act} {w : World}
    (hN : N ≤ w.heap.size) (hy : LYields P N ops oi v a w) (h : opX P N ops cf j K (a.put oi.dst v) w) :
    opX P N ops cf j (fun a' w' => (N ≤ w'.heap.size ∧ LYields P N ops oi v a' w') ∧ K (a'.put oi.dst v) w') a w := by
  obtain ⟨h1, h2, h3⟩ := Oper.apart_spec hap
  have keep : ∀ u w', Ext N w w' → N ≤ w'.heap.size ∧ LYields P N ops oi v (a.put oj.dst u) w' := fun u w' hx =>
    ⟨hx.size, hy.of_same hx (execOp_put oi hsi a oj.dst u h3) (wanted_put oi a oj.dst u h3)⟩
  unfold opX at *
  simp only [hj] at *
  rw [wanted_put oj a oi.dst v h1] at h
  split
  · rename_i hw
    rw [if_pos hw] at h
    have h' := opS_congr (execOp_put oj hsj a oi.dst v h1).symm h
    cases hc : cf j with
    | gen => exact absurd hc hcj
    | loc =>
      rw [hc] at h'
      obtain ⟨u, hu, hk⟩ := h'
      exact ⟨u, hu, keep u w (Ext.refl hN), by rw [← Act.put_comm a v u h2]; exact hk⟩
    | load =>
      rw [hc] at h'
      obtain ⟨u, h0, hu, hk⟩ := h'
      exact ⟨u, h0, hu, keep u w (Ext.refl hN), by rw [← Act.put_comm a v u h2]; exact hk⟩
    | alloc =>
      rw [hc] at h'
      obtain ⟨obj, mk, h0, hu, hk⟩ := h'
      exact ⟨obj, mk, h0, hu, keep _ _ (Ext.alloc h0 obj), by rw [← Act.put_comm a v _ h2]; exact hk⟩
    | fst =>
      rw [hc] at h'
      obtain ⟨w', hu, hx, hk⟩ := h'
      exact ⟨w', hu, hx, keep _ _ hx, by rw [← Act.put_comm a v _ h2]; exact hk⟩
  · rename_i hw
    rw [if_neg hw] at h
    exact ⟨keep _ w (Ext.refl hN), by rw [← Act.put_comm a v undef h2]; exact h⟩

/-- all that k waits for is in S -/
def depsIn (ops : Array Oper) (S : Array Bool) (k : Nat) : Bool :=
  ((ops[k]?).map (·.after.all fun e => !Region.binds .any e || S.getD e.on false)).getD false

/-- what may come up without i -/
def reach (ops : Array Oper) (listed : Array Bool) (i : Nat) : Array Bool :=
  (List.range ops.size).foldl (fun S k => if k != i && depsIn ops S k then S.setIfInBounds k true else S) listed

def closed (ops : Array Oper) (S : Array Bool) (i : Nat) : Bool :=
  (List.range ops.size).all fun k => k == i || S.getD k true || !depsIn ops S k

/-- may i be taken first? -/
def mayFirst (ops : Array Oper) (cf : Nat → Cls) (listed : Array Bool) (i : Nat) : Bool :=
  let S := reach ops listed i
  match ops[i]? with
  | none => false
  | some oi => (cf i == .loc || cf i == .load) && closed ops S i && (List.range ops.size).all fun j => (!listed.getD j false || S.getD j false) && (j == i || !S.getD j false || listed.getD j false || match ops[j]? with
      | some oj => oi.apart ops oj && (cf i == .loc || cf j != .gen)
      | none => true)

theorem anyX_first {cf : Nat → Cls} {K : Act → World → Prop} {S : Array Bool} {i : Nat} {oi : Oper} {v : Value} (hi : ops[i]? = some oi) (hsel : ∀ (j : Nat) (o : Oper) cs b, ops[j]? = some o → o.op ≠ .select cs b)
    (hci : cf i = .load ∨ cf i = .loc)
    (hS : ∀ j, j < ops.size → j ≠ i → depsIn ops S j = true → S.getD j false = true) :
    ∀ (fuel : Nat) (listed : Array Bool) (a : Act) (w : World),
      (∀ j, listed.getD j false = true → S.getD j false = true) →
      (∀ j oj, ops[j]? = some oj → j ≠ i → S.getD j false = true → listed.getD j false = false → oi.apart ops oj = true ∧ (cf i = .loc ∨ cf j ≠ .gen)) →
      listed.size = ops.size →
      i ∈ Region.ready .any ops listed → (cf i = .load → N ≤ w.heap.size) → LYields P N ops oi v a w → (cf i = .loc → Yields P ops oi v a) →
      anyX P N ops cf K fuel (listed.setIfInBounds i true) (a.put oi.dst v) w → anyX P N ops cf K (fuel + 1) listed a w := by
  intro fuel
  induction fuel with
  | zero =>
    intro listed a w hsub hfree hsz hr hN hy hyl H
    refine ⟨fun h => (by rw [h] at hr; cases hr), fun j hj => ?_⟩
    by_cases hji : j = i
    · subst hji; exact hy.opX hi (hci.imp (fun h => ⟨h, hN h⟩) id) hyl H
    · have := ready_mono hj hji
      rw [H.1] at this
      cases this
  | succ fuel ih =>
    intro listed a w hsub hfree hsz hr hN hy hyl H
    refine ⟨fun h => (by rw [h] at hr; cases hr), fun j hj => ?_⟩
    by_cases hji : j = i
    · subst hji; exact hy.opX hi (hci.imp (fun h => ⟨h, hN h⟩) id) hyl H
    · have h1 := H.2 j (ready_mono hj hji)
      obtain ⟨hjun, oj, hoj, hall⟩ := mem_ready.1 hj
      have hjlt : j < ops.size := (Array.getElem?_eq_some_iff.1 hoj).1
      have hjun' : listed.getD j false = false := by
        rw [Array.getD_eq_getD_getElem?] at hjun ⊢
        rw [Array.getElem?_eq_getElem (by omega)] at hjun ⊢
        exact hjun
      have hjS : S.getD j false = true := by
        refine hS j hjlt hji ?_
        simp only [depsIn, hoj, Option.map_some, Option.getD_some, Array.all_eq_true_iff_forall_mem, Bool.or_eq_true, Bool.not_eq_true']
        intro e he
        cases hb : Region.binds .any e
        · exact .inl rfl
        · exact .inr (hsub _ (hall e he hb))
      obtain ⟨hap, hcls⟩ := hfree j oj hoj hji hjS hjun'
      have hsub' : ∀ x, (listed.setIfInBounds j true).getD x false = true → S.getD x false = true := fun x hx => by
        by_cases hxj : j = x
        · subst hxj; exact hjS
        · rw [getD_set_ne false hxj] at hx; exact hsub x hx
      have hfree' : ∀ x ox, ops[x]? = some ox → x ≠ i → S.getD x false = true → (listed.setIfInBounds j true).getD x false = false → oi.apart ops ox = true ∧ (cf i = .loc ∨ cf x ≠ .gen) := fun x ox hx hxi hxS hxl => by
        refine hfree x ox hx hxi hxS ?_
        by_cases hxj : j = x
        · subst hxj; exact hjun'
        · rw [getD_set_ne false hxj] at hxl; exact hxl
      rcases hci with hc | hc
      · have hcj : cf j ≠ .gen := hcls.resolve_left (by rw [hc]; simp)
        have h2 := opX_putL hoj hap hcj (fun cs b => hsel i oi cs b hi) (fun cs b => hsel j oj cs b hoj) (hN hc) hy h1
        refine opX_mono (fun a' w' h3 => ih (listed.setIfInBounds j true) a' w' hsub' hfree' (by simpa using hsz) (ready_mono hr (Ne.symm hji)) (fun _ => h3.1.1) h3.1.2 (fun h => by rw [hc] at h; cases h) ?_) h2
        rw [Array.setIfInBounds_comm _ _ hji]
        exact h3.2
      · have h2 := opX_put hoj hap (fun cs b => hsel i oi cs b hi) (fun cs b => hsel j oj cs b hoj) (hyl hc) h1
        refine opX_mono (fun a' w' h3 => ih (listed.setIfInBounds j true) a' w' hsub' hfree' (by simpa using hsz) (ready_mono hr (Ne.symm hji)) (fun h => by rw [hc] at h; cases h) (.of_yields h3.1) (fun _ => h3.1) ?_) h2
        rw [Array.setIfInBounds_comm _ _ hji]
        exact h3.2

theorem reach_sup {listed : Array Bool} {i j : Nat} (h : listed.getD j false = true) : (reach ops listed i).getD j false = true := by
  unfold reach
  generalize List.range ops.size = l
  induction l generalizing listed with
  | nil => exact h
  | cons x l ih =>
    simp only [List.foldl_cons]
    refine ih ?_
    split
    · exact getD_set_true h
    · exact h

theorem reach_size {listed : Array Bool} {i : Nat} : (reach ops listed i).size = listed.size := by
  unfold reach
  generalize List.range ops.size = l
  induction l generalizing listed with
  | nil => rfl
  | cons x l ih =>
    simp only [List.foldl_cons]
    rw [ih]
    split
    · simp
    · rfl

/-- A plan: which operation next; where several may be next and none goes first by itself, each. -/
inductive Plan | done | take (i : Nat) (p : Plan) | alt (i : Nat) (p q : Plan) | stop

def Plan.heads : Plan → List Nat
  | .alt i _ q => i :: q.heads
  | _ => []

/-- is it a plan of this region? (alts: the other ones of a choice) -/
def Plan.ok (ops : Array Oper) (cf : Nat → Cls) : Plan → Bool → Nat → Array Bool → Bool
  | .done, alts, _, listed => !alts && (Region.ready .any ops listed).isEmpty
  | .take i p, alts, fuel, listed => !alts && match fuel with
    | 0 => false
    | f + 1 => (Region.ready .any ops listed).contains i && mayFirst ops cf listed i && Plan.ok ops cf p false f (listed.setIfInBounds i true)
  | .alt i p q, alts, fuel, listed => match fuel with
    | 0 => false
    | f + 1 => (alts || !(Region.ready .any ops listed).isEmpty && (Region.ready .any ops listed).all (fun j => (i :: q.heads).contains j)) && Plan.ok ops cf p false f (listed.setIfInBounds i true) && Plan.ok ops cf q true (f + 1) listed
  | .stop, alts, _, _ => alts

def planX (P : Program) (N : Nat) (ops : Array Oper) (cf : Nat → Cls) (K : Act → World → Prop) : Plan → Act → World → Prop
  | .done, a, w => K a w
  | .take i p, a, w => N ≤ w.heap.size ∧ opX P N ops cf i (planX P N ops cf K p) a w
  | .alt i p q, a, w => opX P N ops cf i (planX P N ops cf K p) a w ∧ planX P N ops cf K q a w
  | .stop, _, _ => True

theorem planX_sound {cf : Nat → Cls} {K : Act → World → Prop} (hs : Region.noSelect ops = true) : ∀ (fuel : Nat) (listed : Array Bool) (p : Plan) (a : Act) (w : World), listed.size = ops.size → Plan.ok ops cf p false fuel listed = true →
    planX P N ops cf K p a w → anyX P N ops cf K fuel listed a w := by
  intro fuel
  induction fuel with
  | zero =>
    intro listed p a w hsz hok h
    cases p <;> simp [Plan.ok] at hok
    case done => exact ⟨hok, h⟩
  | succ fuel ih =>
    intro listed p a w hsz hok h
    cases p with
    | done =>
      simp [Plan.ok] at hok
      exact ⟨fun _ => h, by rw [hok]; simp⟩
    | take i p =>
      simp only [Plan.ok, Bool.and_eq_true] at hok
      obtain ⟨_, ⟨hr, hf⟩, hp⟩ := hok
      simp only [planX, opX] at h
      obtain ⟨hNw, h⟩ := h
      unfold mayFirst at hf
      cases hi : ops[i]? with
      | none => simp only [hi] at hf; cases hf
      | some oi =>
        simp only [hi, Bool.and_eq_true, Bool.or_eq_true, beq_iff_eq, List.all_eq_true, List.mem_range, Bool.not_eq_true'] at hf
        simp only [hi] at h
        obtain ⟨⟨hc, hcl⟩, hall⟩ := hf
        have hcl' : ∀ j, j < ops.size → j ≠ i → depsIn ops (reach ops listed i) j = true → (reach ops listed i).getD j false = true := by
          intro j hj hji hd
          simp only [closed, List.all_eq_true, List.mem_range, Bool.or_eq_true, beq_iff_eq, Bool.not_eq_true'] at hcl
          rcases hcl j hj with (h1 | h1) | h1
          · exact absurd h1 hji
          · have hrs : (reach ops listed i).size = listed.size := reach_size
            rw [Array.getD_eq_getD_getElem?, Array.getElem?_eq_getElem (by omega)] at h1 ⊢
            exact h1
          · rw [h1] at hd; cases hd
        have hfree : ∀ j oj, ops[j]? = some oj → j ≠ i → (reach ops listed i).getD j false = true → listed.getD j false = false → oi.apart ops oj = true ∧ (cf i = .loc ∨ cf j ≠ .gen) := by
          intro j oj hj hji hS hl
          have h1 := (hall j (Array.getElem?_eq_some_iff.1 hj).1).2
          rw [hj] at h1
          simp only [hji, false_or, hS, hl, Bool.true_eq_false, Bool.false_eq_true, Bool.and_eq_true, Bool.or_eq_true, beq_iff_eq, bne_iff_ne] at h1
          exact h1
        have hr' : i ∈ Region.ready .any ops listed := by simpa using hr
        have hyv : ∃ v, LYields P N ops oi v a w ∧ (cf i = .loc → Yields P ops oi v a) ∧ planX P N ops cf K p (a.put oi.dst v) w := by
          by_cases hw : Region.wanted oi (yielded ops a.tmps) = true
          · rw [if_pos hw] at h
            rcases hc with hc | hc
            · rw [hc] at h
              obtain ⟨v, hv, hk⟩ := h
              exact ⟨v, .inl ⟨hw, fun w' _ => hv w'⟩, fun _ => .inl ⟨hw, hv⟩, hk⟩
            · rw [hc] at h
              obtain ⟨v, _, hv, hk⟩ := h
              exact ⟨v, .inl ⟨hw, hv⟩, fun h => (by rw [hc] at h; cases h), hk⟩
          · rw [if_neg hw] at h
            have hw' : Region.wanted oi (yielded ops a.tmps) = false := by simpa using hw
            exact ⟨undef, .inr ⟨hw', rfl⟩, fun _ => .inr ⟨hw', rfl⟩, h⟩
        obtain ⟨v, hy, hyl, hk⟩ := hyv
        exact anyX_first hi (Region.noSelect_spec hs) (hc.elim .inr .inl) hcl' fuel listed a w (fun j hj => reach_sup hj) hfree hsz hr' (fun _ => hNw) hy hyl
          (ih _ p _ w (by simpa using hsz) hp hk)
    | alt i p q =>
      simp only [Plan.ok, Bool.and_eq_true, Bool.false_or, Bool.not_eq_true'] at hok
      obtain ⟨⟨⟨hne, hall⟩, hp⟩, hq⟩ := hok
      have key : ∀ q : Plan, Plan.ok ops cf q true (fuel + 1) listed = true → planX P N ops cf K q a w → ∀ j ∈ q.heads, opX P N ops cf j (anyX P N ops cf K fuel (listed.setIfInBounds j true)) a w := by
        intro q
        induction q with
        | done => intro _ _ j hj; cases hj
        | take => intro _ _ j hj; cases hj
        | stop => intro _ _ j hj; cases hj
        | alt i p q _ ihq =>
          intro ho hx j hj
          simp only [Plan.ok, Bool.and_eq_true, Bool.true_or, true_and] at ho
          simp only [Plan.heads, List.mem_cons] at hj
          rcases hj with rfl | hj
          · exact opX_mono (fun a w => ih _ p a w (by simpa using hsz) ho.1) hx.1
          · exact ihq ho.2 hx.2 j hj
      refine ⟨fun h0 => ?_, fun j hj => ?_⟩
      · rw [h0] at hne; cases hne
      · have := List.all_eq_true.1 hall j hj
        simp only [List.contains_iff_mem, List.mem_cons] at this
        rcases this with rfl | hjq
        · exact opX_mono (fun a w => ih _ p a w (by simpa using hsz) hp) h.1
        · exact key q hq h.2 j hjq
    | stop => simp [Plan.ok] at hok

/-- A REGION THAT DRAWS, BY A PLAN. -/
theorem goes_region_plan {id : Nat} {cf : Nat → Cls} {k : List Item} {a : Act} {w : World} (p : Plan) (hm : P.follows .mixedOrders = true)
    (hp : (Region.noSelect ops && Plan.ok ops cf p false ops.size (Array.replicate ops.size false)) = true)
    (h : planX P N ops cf (Goes P b Fin k) p a w.drew) : Goes P b Fin (.code (.region id ops true) :: k) a w := by
  simp only [Bool.and_eq_true] at hp
  exact goes_region_draw hm (planX_sound hp.1 _ _ p a _ (by simp) hp.2 h)

end
end Go.Lg
