/- Part 2 of a small program logic: what is known of a frame's slots and of the blocks that a call owns. Nothing is claimed of the program here. -/
import Derived.Test.YtcgenmfnlocbbaaDoorL1
import Derived.KernelRfl
import Derived.Below
import Derived.Tactics
import Derived.OwnWalk
namespace Go.Lg

abbrev Env := List (Nat × Value)
abbrev Chunks := List (Nat × Obj)

def look : Env → Nat → Option Value
  | [], _ => none
  | (k, v) :: r, s => match Nat.beq k s with
    | true => some v
    | false => look r s

def ev (L : Env) : Operand → Option Value
  | .tmp t => look L t
  | .const v => some v
  | .global g => some (.pointer (some ⟨g, 0, none⟩))
  | .func f => some (.func (.func f) #[] #[])

/-- the operands' values, one by one -/
inductive Evs (L : Env) : List Operand → List Value → Prop
  | nil : Evs L [] []
  | cons {x : Operand} {v : Value} {xs : List Operand} {vs : List Value} (h : ev L x = some v) (r : Evs L xs vs) : Evs L (x :: xs) (v :: vs)

structure Mods (B : List Nat) (w w' : World) : Prop where
  os : w'.os = w.os
  tape : w'.tape = w.tape
  output : w'.output = w.output
  size : w.heap.size ≤ w'.heap.size
  block : ∀ k, k < w.heap.size → k ∉ B → w'.heap[k]? = w.heap[k]?

theorem Mods.refl (B : List Nat) (w : World) : Mods B w w := ⟨rfl, rfl, rfl, Nat.le_refl _, fun _ _ _ => rfl⟩
theorem Mods.mono {B B' : List Nat} {w w' : World} (h : Mods B w w') (hb : ∀ k ∈ B, k < w.heap.size → k ∈ B') : Mods B' w w' :=
  ⟨h.os, h.tape, h.output, h.size, fun k hk hn => h.block k hk fun hm => hn (hb k hm hk)⟩
theorem Mods.below {w w' : World} (h : Mods [] w w') : Go.RowKit.Below w.heap.size w w' := ⟨h.os, h.tape, h.output, h.size, fun k hk => h.block k hk (by simp)⟩

/-- The blocks that are owned, and what they hold; all else that lay at the call's beginning lies as it lay. -/
structure St (w0 : World) (B0 : List Nat) (C : Chunks) (w : World) : Prop where
  nd : (C.map Prod.fst).Nodup
  own : ∀ c ∈ C, w.heap[c.1]? = some c.2
  new : ∀ c ∈ C, c.1 ∈ B0 ∨ w0.heap.size ≤ c.1
  mods : Mods B0 w0 w

structure Cx where
  P : Program
  b : Frame
  Fin : Frame → World → Prop
  n : Nat
  w0 : World
  B0 : List Nat

structure Sat (X : Cx) (L : Env) (ds : List Deferred) (C : Chunks) (a : Act) (w : World) : Prop where
  size : a.tmps.size = X.n
  knows : ∀ s v, look L s = some v → a.tmps[s]? = some v
  defers : a.defers = ds
  st : St X.w0 X.B0 C w

def G (X : Cx) (k : List Item) (L : Env) (ds : List Deferred) (C : Chunks) : Prop :=
  ∀ a w, Sat X L ds C a w → Goes X.P X.b X.Fin k a w

theorem look_cons_same {L : Env} {s : Nat} {v : Value} : look ((s, v) :: L) s = some v := by
  simp only [look]; rw [show Nat.beq s s = true from Nat.beq_refl s]
theorem look_cons_ne {L : Env} {s t : Nat} {v : Value} (h : t ≠ s) : look ((t, v) :: L) s = look L s := by
  simp only [look]
  have : Nat.beq t s = false := by
    cases hb : Nat.beq t s
    · rfl
    · exact absurd (Nat.eq_of_beq_eq_true hb) h
  rw [this]

section
variable {X : Cx} {L L' : Env} {ds : List Deferred} {C C' : Chunks} {a : Act} {w : World}

theorem Sat.ev (h : Sat X L ds C a w) {x : Operand} {v : Value} (hx : ev L x = some v) : a.eval x = v := by
  cases x with
  | tmp t =>
    simp only [Lg.ev] at hx
    have := h.knows t v hx
    simp [Act.eval, this]
  | const u => simp only [Lg.ev, Option.some.injEq] at hx; exact hx
  | global g => simp only [Lg.ev, Option.some.injEq] at hx; exact hx
  | func f => simp only [Lg.ev, Option.some.injEq] at hx; exact hx

theorem Sat.evs (h : Sat X L ds C a w) {xs : List Operand} {vs : List Value} (hx : Evs L xs vs) : xs.map a.eval = vs := by
  induction hx with
  | nil => rfl
  | cons h1 _ ih => simp [h.ev h1, ih]

theorem Sat.put (h : Sat X L ds C a w) {d : Nat} {v : Value} {w' : World} (hs : St X.w0 X.B0 C' w') (hd : d < X.n) : Sat X ((d, v) :: L) ds C' (a.put (some d) v) w' := by
  refine ⟨by simp [Act.put, h.size], fun s u hu => ?_, h.defers, hs⟩
  by_cases e : d = s
  · subst e
    rw [look_cons_same] at hu
    cases hu
    simp [Act.put, h.size, hd]
  · rw [look_cons_ne e] at hu
    have := h.knows s u hu
    simp [Act.put, Array.getElem?_setIfInBounds_ne e, this]

theorem Sat.weak (h : Sat X L ds C a w) (hl : ∀ s v, look L' s = some v → look L s = some v) : Sat X L' ds C a w :=
  ⟨h.size, fun s v hs => h.knows s v (hl s v hs), h.defers, h.st⟩

theorem Sat.with (h : Sat X L ds C a w) {w' : World} (hs : St X.w0 X.B0 C' w') : Sat X L ds C' a w' := ⟨h.size, h.knows, h.defers, hs⟩

/-- Every slot of T is known in L. -/
inductive Covers (L : Env) : Env → Prop
  | nil : Covers L []
  | cons {s : Nat} {v : Value} {T : Env} (h : look L s = some v) (r : Covers L T) : Covers L ((s, v) :: T)

theorem Covers.look (h : Covers L L') : ∀ s v, Lg.look L' s = some v → Lg.look L s = some v := by
  induction h with
  | nil => intro s v hs; cases hs
  | @cons s v T h _ ih =>
    intro t u ht
    by_cases e : s = t
    · subst e; rw [look_cons_same] at ht; cases ht; exact h
    · rw [look_cons_ne e] at ht; exact ih t u ht
end

/-- x stands in C; the rest is C'. -/
inductive Take {α : Type} (x : α) : List α → List α → Prop
  | head {C : List α} : Take x (x :: C) C
  | tail {y : α} {C C' : List α} (h : Take x C C') : Take x (y :: C) (y :: C')

/-- the chunks of the first list stand in the second; the third is the rest -/
inductive Split : Chunks → Chunks → Chunks → Prop
  | nil {C : Chunks} : Split [] C C
  | cons {x : Nat × Obj} {A C C1 R : Chunks} (h : Take x C C1) (r : Split A C1 R) : Split (x :: A) C R

theorem Take.perm {α : Type} {x : α} {C C' : List α} (h : Take x C C') : (x :: C').Perm C := by
  induction h with
  | head => exact .refl _
  | tail _ ih => exact (List.Perm.swap _ _ _).trans (ih.cons _)

theorem Split.perm {A C R : Chunks} (h : Split A C R) : (A ++ R).Perm C := by
  induction h with
  | nil => exact .refl _
  | cons h _ ih => exact (ih.cons _).trans h.perm

theorem St.perm {w0 : World} {B0 : List Nat} {C C' : Chunks} {w : World} (h : St w0 B0 C w) (hp : C'.Perm C) : St w0 B0 C' w :=
  ⟨(hp.map Prod.fst).nodup_iff.2 h.nd, fun c hc => h.own c (hp.mem_iff.1 hc), fun c hc => h.new c (hp.mem_iff.1 hc), h.mods⟩

theorem St.left {w0 : World} {B0 : List Nat} {A R : Chunks} {w : World} (h : St w0 B0 (A ++ R) w) : St w0 B0 A w :=
  ⟨by have := h.nd; rw [List.map_append] at this; exact (List.nodup_append.1 this).1, fun c hc => h.own c (List.mem_append_left _ hc), fun c hc => h.new c (List.mem_append_left _ hc), h.mods⟩

theorem St.split {w0 : World} {B0 : List Nat} {A C R : Chunks} {w : World} (h : St w0 B0 C w) (hs : Split A C R) : St w0 B0 (A ++ R) w := h.perm hs.perm
theorem St.sub {w0 : World} {B0 : List Nat} {A C R : Chunks} {w : World} (h : St w0 B0 C w) (hs : Split A C R) : St w0 B0 A w := (h.split hs).left

theorem St.lt {w0 : World} {B0 : List Nat} {C : Chunks} {w : World} (h : St w0 B0 C w) {c : Nat × Obj} (hc : c ∈ C) : c.1 < w.heap.size :=
  (Array.getElem?_eq_some_iff.1 (h.own c hc)).1

theorem St.drew {w0 : World} {B0 : List Nat} {C : Chunks} {w : World} (h : St w0 B0 C w) : St w0 B0 C w.drew :=
  ⟨h.nd, h.own, h.new, ⟨h.mods.os, h.mods.tape, h.mods.output, h.mods.size, h.mods.block⟩⟩

/-- A new block. -/
theorem St.alloc {w0 : World} {B0 : List Nat} {C : Chunks} {w : World} (h : St w0 B0 C w) (o : Obj) : St w0 B0 ((w.heap.size, o) :: C) (w.alloc o) := by
  have hsz : (w.alloc o).heap = w.heap.push o := rfl
  refine ⟨?_, ?_, ?_, ?_⟩
  · simp only [List.map_cons, List.nodup_cons]
    refine ⟨fun hm => ?_, h.nd⟩
    obtain ⟨c, hc, he⟩ := List.mem_map.1 hm
    have := h.lt hc
    omega
  · intro c hc
    rcases List.mem_cons.1 hc with rfl | hc
    · rw [hsz]; simp
    · rw [hsz, Array.getElem?_push, if_neg (by have := h.lt hc; omega)]; exact h.own c hc
  · intro c hc
    rcases List.mem_cons.1 hc with rfl | hc
    · exact .inr h.mods.size
    · exact h.new c hc
  · refine ⟨h.mods.os, h.mods.tape, h.mods.output, ?_, fun k hk hn => ?_⟩
    · rw [hsz]; have := h.mods.size; simp; omega
    · have := h.mods.size
      rw [hsz, Array.getElem?_push, if_neg (by omega)]; exact h.mods.block k hk hn

theorem St.fresh {w0 : World} {B0 : List Nat} {C : Chunks} {w : World} (h : St w0 B0 C w) : w.heap.size ∉ C.map Prod.fst := fun hm => by
  obtain ⟨c, hc, he⟩ := List.mem_map.1 hm
  have := h.lt hc
  omega

/-- Block b holds o' in place of o. -/
inductive Upd (b : Nat) (o o' : Obj) : Chunks → Chunks → Prop
  | head {C : Chunks} : Upd b o o' ((b, o) :: C) ((b, o') :: C)
  | tail {y : Nat × Obj} {C C' : Chunks} (h : Upd b o o' C C') : Upd b o o' (y :: C) (y :: C')

theorem Upd.fst {b : Nat} {o o' : Obj} {C C' : Chunks} (h : Upd b o o' C C') : C'.map Prod.fst = C.map Prod.fst := by
  induction h with
  | head => rfl
  | tail _ ih => simp [ih]
theorem Upd.mem {b : Nat} {o o' : Obj} {C C' : Chunks} (h : Upd b o o' C C') : (b, o) ∈ C := by
  induction h with
  | head => simp
  | tail _ ih => simp [ih]
theorem Upd.after {b : Nat} {o o' : Obj} {C C' : Chunks} (h : Upd b o o' C C') (hn : (C.map Prod.fst).Nodup) : ∀ c ∈ C', c = (b, o') ∨ (c ∈ C ∧ c.1 ≠ b) := by
  induction h with
  | @head C =>
    intro c hc
    simp only [List.map_cons, List.nodup_cons] at hn
    rcases List.mem_cons.1 hc with rfl | hc
    · exact .inl rfl
    · exact .inr ⟨List.mem_cons_of_mem _ hc, fun e => hn.1 (e ▸ List.mem_map_of_mem hc)⟩
  | @tail y C C' h ih =>
    intro c hc
    simp only [List.map_cons, List.nodup_cons] at hn
    rcases List.mem_cons.1 hc with rfl | hc
    · exact .inr ⟨List.mem_cons_self .., fun e => hn.1 (by rw [e]; exact List.mem_map_of_mem (f := Prod.fst) h.mem)⟩
    · rcases ih hn.2 c hc with h1 | h1
      · exact .inl h1
      · exact .inr ⟨List.mem_cons_of_mem _ h1.1, h1.2⟩

theorem St.upd {w0 : World} {B0 : List Nat} {C C' : Chunks} {w w' : World} {b : Nat} {o o' : Obj} (h : St w0 B0 C w) (hu : Upd b o o' C C')
    (hos : w'.os = w.os) (ht : w'.tape = w.tape) (hout : w'.output = w.output) (hsz : w'.heap.size = w.heap.size) (hb : w'.heap[b]? = some o') (hr : ∀ k, k ≠ b → w'.heap[k]? = w.heap[k]?) : St w0 B0 C' w' := by
  refine ⟨by rw [hu.fst]; exact h.nd, fun c hc => ?_, fun c hc => ?_, ⟨hos.trans h.mods.os, ht.trans h.mods.tape, hout.trans h.mods.output, by rw [hsz]; exact h.mods.size, fun k hk hn => ?_⟩⟩
  · rcases hu.after h.nd c hc with rfl | ⟨h1, h2⟩
    · exact hb
    · rw [hr _ h2]; exact h.own c h1
  · rcases hu.after h.nd c hc with rfl | ⟨h1, _⟩
    · exact h.new (b, o) hu.mem
    · exact h.new c h1
  · rw [hr]
    · exact h.mods.block k hk hn
    · rintro rfl
      rcases h.new _ hu.mem with h1 | h1
      · exact hn h1
      · exact absurd h1 (by simp only; omega)

/-- A call that owned A in between, R untouched. -/
theorem St.frame {w0 : World} {B0 : List Nat} {A A' R : Chunks} {w w' : World} (h : St w0 B0 (A ++ R) w) (h' : St w (A.map Prod.fst) A' w') : St w0 B0 (A' ++ R) w' := by
  have hnd := h.nd
  rw [List.map_append, List.nodup_append] at hnd
  obtain ⟨_, hR, hdis⟩ := hnd
  have hRlt : ∀ c ∈ R, c.1 < w.heap.size := fun c hc => h.lt (List.mem_append_right _ hc)
  refine ⟨?_, ?_, ?_, ?_⟩
  · rw [List.map_append, List.nodup_append]
    refine ⟨h'.nd, hR, ?_⟩
    intro x hx y hy e
    subst e
    obtain ⟨c, hc, rfl⟩ := List.mem_map.1 hx
    obtain ⟨d, hd, he⟩ := List.mem_map.1 hy
    rcases h'.new c hc with h1 | h1
    · exact hdis _ h1 _ hy rfl
    · have := hRlt d hd; omega
  · intro c hc
    rcases List.mem_append.1 hc with hc | hc
    · exact h'.own c hc
    · rw [h'.mods.block _ (hRlt c hc) (fun hm => hdis _ hm _ (List.mem_map_of_mem hc) rfl)]
      exact h.own c (List.mem_append_right _ hc)
  · intro c hc
    rcases List.mem_append.1 hc with hc | hc
    · rcases h'.new c hc with h1 | h1
      · obtain ⟨d, hd, he⟩ := List.mem_map.1 h1
        rw [← he]; exact h.new d (List.mem_append_left _ hd)
      · exact .inr (Nat.le_trans h.mods.size h1)
    · exact h.new c (List.mem_append_right _ hc)
  · refine ⟨h'.mods.os.trans h.mods.os, h'.mods.tape.trans h.mods.tape, h'.mods.output.trans h.mods.output, Nat.le_trans h.mods.size h'.mods.size, fun k hk hn => ?_⟩
    rw [h'.mods.block k (Nat.lt_of_lt_of_le hk h.mods.size)]
    · exact h.mods.block k hk hn
    · intro hm
      obtain ⟨d, hd, he⟩ := List.mem_map.1 hm
      rcases h.new d (List.mem_append_left _ hd) with h1 | h1
      · exact hn (he ▸ h1)
      · omega

/-- What a call of f with these arguments does, where it owns C: it comes back with a value and blocks that κ names; all else lies as it lay. pre: what is asked of the world besides. -/
def Ct (P : Program) (f : FuncId) (args : Array Value) (pre : World → Prop) (C : Chunks) (κ : Value → Chunks → Prop) : Prop :=
  ∀ w, (C.map Prod.fst).Nodup → (∀ c ∈ C, w.heap[c.1]? = some c.2) → pre w →
    Calls P f args w fun e w' => ∃ v, e = .returned v ∧ ∃ C', κ v C' ∧ St w (C.map Prod.fst) C' w'

theorem Ct.mono {P : Program} {f : FuncId} {args : Array Value} {pre pre' : World → Prop} {C : Chunks} {κ κ' : Value → Chunks → Prop} (h : Ct P f args pre C κ) (hp : ∀ w, pre' w → pre w) (hk : ∀ v C', κ v C' → κ' v C') : Ct P f args pre' C κ' :=
  fun w h1 h2 h3 => (h w h1 h2 (hp w h3)).mono fun _ _ ⟨v, hv, C', hc, hs⟩ => ⟨v, hv, C', hk _ _ hc, hs⟩

/-- the end of a function's frame -/
def FinF (P : Program) (f : FuncId) (w0 : World) (B0 : List Nat) (κ : Value → Chunks → Prop) (fr : Frame) (w' : World) : Prop :=
  ∃ v C', κ v C' ∧ St w0 B0 C' w' ∧ fr.fn = f ∧ fr.leaving P w' (.returned v)

def baseF (f : FuncId) : Frame := { (default : Frame) with fn := f, kind := .normal, roundOf := none }

abbrev cxF (P : Program) (f : FuncId) (n : Nat) (w0 : World) (B0 : List Nat) (κ : Value → Chunks → Prop) : Cx :=
  { P, b := baseF f, Fin := FinF P f w0 B0 κ, n, w0, B0 }

theorem getElem?_args (args : List Value) (m : Nat) (s : Nat) (v : Value) (h : args[s]? = some v) : (args.toArray ++ Array.replicate m undef)[s]? = some v := by
  have hlt : s < args.length := (List.getElem?_eq_some_iff.1 h).1
  rw [Array.getElem?_append_left (by simpa using hlt)]
  simpa using h

/-- slots 0, 1, .. -/
def argEnv : Nat → List Value → Env
  | _, [] => []
  | i, v :: r => (i, v) :: argEnv (i + 1) r

theorem look_argEnv : ∀ (l : List Value) (i s : Nat) (v : Value), look (argEnv i l) s = some v → ∃ j, s = i + j ∧ l[j]? = some v := by
  intro l
  induction l with
  | nil => intro i s v h; cases h
  | cons x l ih =>
    intro i s v h
    simp only [argEnv] at h
    by_cases e : i = s
    · subst e; rw [look_cons_same] at h; exact ⟨0, rfl, by simpa using h⟩
    · rw [look_cons_ne e] at h
      obtain ⟨j, hj, hl⟩ := ih _ _ _ h
      exact ⟨j + 1, by omega, by simpa using hl⟩

/-- A CONTRACT, OUT OF A WALK. -/
theorem ct_of_walk {P : Program} {f : FuncId} {fn : Func} {c : Code} {args : List Value} {pre : World → Prop} {C : Chunks} {κ : Value → Chunks → Prop} (hf : P.funcs[f]? = some fn) (hb : fn.body = some c)
    (hn' : Nat.ble args.length fn.ntmps = true) (h : ∀ w, pre w → St w (C.map Prod.fst) C w → G (cxF P f fn.ntmps w (C.map Prod.fst) κ) [.code c] (argEnv 0 args) [] C) : Ct P f args.toArray pre C κ := by
  have hn : args.length ≤ fn.ntmps := Nat.le_of_ble_eq_true hn'
  intro w hnd hown hpre
  have hst : St w (C.map Prod.fst) C w := ⟨hnd, hown, fun c hc => .inl (List.mem_map_of_mem hc), .refl _ _⟩
  have hg := h w hpre hst { tmps := args.toArray ++ Array.replicate (fn.ntmps - args.toArray.size) undef, defers := [] } w
    ⟨by simp; omega, fun s v hs => by
      obtain ⟨j, hj, hl⟩ := look_argEnv _ _ _ _ hs
      rw [show s = j by omega]
      exact getElem?_args _ _ _ _ hl, rfl, hst⟩
  intro cs
  obtain ⟨fr, w', ⟨v, C', hk, hst', hfn, hlv⟩, hs⟩ := hg cs
  have henter : Frame.enter P f args.toArray .normal = at' (baseF f) { tmps := args.toArray ++ Array.replicate (fn.ntmps - args.toArray.size) undef, defers := [] } [.code c] := by
    simp [Frame.enter, at', hf, hb, baseF]
  rw [henter]
  exact ⟨.returned v, w', fr, ⟨v, rfl, C', hk, hst'⟩, hs, hfn, hlv⟩

section rules
variable {X : Cx} {L L' : Env} {ds : List Deferred} {C C' : Chunks} {k k' : List Item} {a : Act} {w : World}

theorem G.seq {x y : Code} (h : G X (.code x :: .code y :: k) L ds C) : G X (.code (.seq x y) :: k) L ds C := fun a w hs => goes_seq (h a w hs)
theorem G.block {id : Nat} {c : Code} (h : G X (.code c :: .inBlock id :: k) L ds C) : G X (.code (.block id c) :: k) L ds C := fun a w hs => goes_block (h a w hs)
theorem G.scope {c : Code} (h : G X (.code c :: .inScope c :: k) L ds C) : G X (.code (.scope c) :: k) L ds C := fun a w hs => goes_scope (h a w hs)
theorem G.skip (h : G X k L ds C) : G X (.code .skip :: k) L ds C := fun a w hs => goes_skip (h a w hs)
theorem G.label {l : Nat} (h : G X k L ds C) : G X (.code (.label l) :: k) L ds C := fun a w hs => goes_label (h a w hs)
theorem G.inBlock {id : Nat} (h : G X k L ds C) : G X (.inBlock id :: k) L ds C := fun a w hs => goes_inBlock (h a w hs)
theorem G.inScope {c : Code} (h : G X k L ds C) : G X (.inScope c :: k) L ds C := fun a w hs => goes_inScope (h a w hs)
theorem G.inLoop {c : Code} (h : G X (.code c :: .inLoop c :: k) L ds C) : G X (.inLoop c :: k) L ds C := fun a w hs => goes_inLoop (h a w hs)
theorem G.loop1 {c : Code} (h : G X (.code c :: .inLoop c :: k) L ds C) : G X (.code (.loop c) :: k) L ds C := fun a w hs => goes_loop (h a w hs)
theorem G.exit {id : Nat} (hk : exitTo id k = some k') (h : G X k' L ds C) : G X (.code (.exit id) :: k) L ds C := fun a w hs => goes_exit hk (h a w hs)
theorem G.goto {l : Nat} (hk : gotoIn l k = some k') (h : G X k' L ds C) : G X (.code (.goto l) :: k) L ds C := fun a w hs => goes_goto hk (h a w hs)
theorem G.condT {c : Operand} {x y : Code} (hc : ev L c = some (.bool true)) (h : G X (.code x :: k) L ds C) : G X (.code (.cond c x y) :: k) L ds C :=
  fun a w hs => goes_cond (t := true) (hs.ev hc) (h a w hs)
theorem G.condF {c : Operand} {x y : Code} (hc : ev L c = some (.bool false)) (h : G X (.code y :: k) L ds C) : G X (.code (.cond c x y) :: k) L ds C :=
  fun a w hs => goes_cond (t := false) (hs.ev hc) (h a w hs)
theorem G.condB {c : Operand} {x y : Code} {t : Bool} (hc : ev L c = some (.bool t)) (h1 : t = true → G X (.code x :: k) L ds C) (h2 : t = false → G X (.code y :: k) L ds C) : G X (.code (.cond c x y) :: k) L ds C := by
  cases t
  · exact G.condF hc (h2 rfl)
  · exact G.condT hc (h1 rfl)
theorem G.cond {c : Operand} {x y : Code} {p : Prop} [Decidable p] (hc : ev L c = some (.bool (decide p))) (h1 : p → G X (.code x :: k) L ds C) (h2 : ¬ p → G X (.code y :: k) L ds C) : G X (.code (.cond c x y) :: k) L ds C := by
  refine G.condB hc (fun h => h1 (by simpa using h)) (fun h => h2 (by simpa using h))
theorem G.condN {c : Operand} {x y : Code} {p : Prop} [Decidable p] (hc : ev L c = some (.bool (!decide p))) (h1 : ¬ p → G X (.code x :: k) L ds C) (h2 : p → G X (.code y :: k) L ds C) : G X (.code (.cond c x y) :: k) L ds C := by
  refine G.condB hc (fun h => h1 (by simpa using h)) (fun h => h2 (by simpa using h))

theorem G.weak (h : G X k L' ds C) (hl : Covers L L') : G X k L ds C := fun a w hs => h a w (hs.weak hl.look)
theorem G.perm (h : G X k L ds C') (hp : C'.Perm C) : G X k L ds C := fun a w hs => h a w (hs.with (hs.st.perm hp))
theorem G.sub {A R : Chunks} (h : G X k L ds A) (hp : Split A C R) : G X k L ds C := fun a w hs => h a w (hs.with (hs.st.sub hp))
/-- a fact of the world that may be taken out -/
theorem G.fact {p : Prop} (hp : ∀ w, St X.w0 X.B0 C w → p) (h : p → G X k L ds C) : G X k L ds C := fun a w hs => h (hp w hs.st) a w hs

/-- A loop: 'inv' names the slots and the blocks at each round's head, by a state s; μ falls. -/
theorem G.loop {S : Type} {c : Code} (LS : S → Env) (CS : S → Chunks) (Φ : S → Prop) (μ : S → Nat) (s0 : S) (h0 : Φ s0) (hL : Covers L (LS s0)) (hC : Split (CS s0) C C')
    (round : ∀ s, Φ s → (∀ s', Φ s' → μ s' < μ s → G X (.inLoop c :: k) (LS s') ds (CS s')) → G X (.code c :: .inLoop c :: k) (LS s) ds (CS s)) : G X (.code (.loop c) :: k) L ds C := by
  have key : ∀ n s, μ s = n → Φ s → G X (.code c :: .inLoop c :: k) (LS s) ds (CS s) := by
    intro n
    induction n using Nat.strongRecOn with
    | _ n ih =>
      intro s hn hs
      exact round s hs fun s' hs' hlt => G.inLoop (ih (μ s') (hn ▸ hlt) s' rfl hs')
  exact G.loop1 fun a w hs => key _ s0 rfl h0 a w ((hs.weak hL.look).with (hs.st.sub hC))

theorem fin_ret {P : Program} {f : FuncId} {n : Nat} {w0 : World} {B0 : List Nat} {κ : Value → Chunks → Prop} {fn : Func} {A R : Chunks} {v : Value} (hf : P.funcs[f]? = some fn)
    (hr : ∀ a w, Sat (cxF P f n w0 B0 κ) L [] C a w → (results fn a.tmps).run P w = .ok v w) (hs : Split A C R) (hk : κ v A) : G (cxF P f n w0 B0 κ) (.code .ret :: k) L [] C := by
  intro a w h cs
  refine ⟨{ at' (baseF f) a (.code .ret :: k) with mode := .returning }, w, ⟨v, A, hk, h.st.sub hs, rfl, rfl, h.defers, rfl, fn, hf, ?_⟩, .one (step_lone_go (by simp [stepG, stepG.exec, at', baseF]))⟩
  exact hr a w h

theorem fin_end {P : Program} {f : FuncId} {n : Nat} {w0 : World} {B0 : List Nat} {κ : Value → Chunks → Prop} {fn : Func} {A R : Chunks} {v : Value} (hf : P.funcs[f]? = some fn)
    (hr : ∀ a w, Sat (cxF P f n w0 B0 κ) L [] C a w → (results fn a.tmps).run P w = .ok v w) (hs : Split A C R) (hk : κ v A) : G (cxF P f n w0 B0 κ) [] L [] C := by
  intro a w h cs
  refine ⟨{ at' (baseF f) a [] with mode := .returning }, w, ⟨v, A, hk, h.st.sub hs, rfl, rfl, h.defers, rfl, fn, hf, ?_⟩, .one (step_lone_go (by simp [stepG, stepG.exec, at', baseF]))⟩
  exact hr a w h

theorem Sat.getD (h : Sat X L ds C a w) {t : Nat} {v : Value} (hv : look L t = some v) : a.tmps.getD t undef = v := by
  have := h.knows t v hv
  simp [this]

theorem res0 {P : Program} {fn : Func} (h : fn.results = #[]) : ∀ a w, Sat X L ds C a w → (results fn a.tmps).run P w = .ok (.tuple #[]) w := fun a w _ => results_none h a.tmps P w
theorem res1 {P : Program} {fn : Func} {t : Nat} {v : Value} (h : fn.results = #[.tmp t]) (hv : look L t = some v) : ∀ a w, Sat X L ds C a w → (results fn a.tmps).run P w = .ok v w := fun a w hs => by
  rw [results_tmp h a.tmps P w, hs.getD hv]
theorem res2 {P : Program} {fn : Func} {t u : Nat} {v x : Value} (h : fn.results = #[.tmp t, .tmp u]) (hv : look L t = some v) (hx : look L u = some x) : ∀ a w, Sat X L ds C a w → (results fn a.tmps).run P w = .ok (.tuple #[v, x]) w := fun a w hs => by
  rw [results_tmp2 h a.tmps P w, hs.getD hv, hs.getD hx]
theorem res3 {P : Program} {fn : Func} {t u r : Nat} {v x y : Value} (h : fn.results = #[.tmp t, .tmp u, .tmp r]) (hv : look L t = some v) (hx : look L u = some x) (hy : look L r = some y) : ∀ a w, Sat X L ds C a w → (results fn a.tmps).run P w = .ok (.tuple #[v, x, y]) w := fun a w hs => by
  rw [results_tmp3 h a.tmps P w, hs.getD hv, hs.getD hx, hs.getD hy]
end rules
end Go.Lg
