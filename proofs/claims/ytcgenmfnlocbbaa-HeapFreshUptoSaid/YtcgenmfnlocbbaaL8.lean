/- Part 8 of a small program logic: ranging over a function: the loop's record, a call of yield, a round, the statement itself. Nothing is claimed of the program here. -/
import Derived.Test.YtcgenmfnlocbbaaL7
import Derived.AtR
import Derived.RangeFuncIn
import Derived.RangeFuncLeaves
import Derived.RangeFuncRecord
namespace Go.Lg

section
variable {X : Cx} {L L' : Env} {ds : List Deferred} {C C' : Chunks} {N : Nat} {κ : Value → Chunks → Prop} {x y z : Operand} {u v : Value} {k : List Item}

theorem St.put {w0 : World} {B0 : List Nat} {w : World} {b : Nat} {o o' : Obj} (h : St w0 B0 C w) (hu : Upd b o o' C C') : St w0 B0 C' (w.putObj b o') :=
  h.upd hu rfl rfl rfl (by simp [World.putObj]) (World.putObj_heap_same (h.lt hu.mem)) (fun k hk => World.putObj_heap_other hk)

/-- What a call of a loop's yield does, where it owns Ci: a round is gone, and yield answers. -/
def Yt (P : Program) (l : Nat) (vs : List Value) (pre : World → Prop) (Ci : Chunks) (κ : Value → Chunks → Prop) : Prop :=
  ∀ w, (Ci.map Prod.fst).Nodup → (∀ c ∈ Ci, w.heap[c.1]? = some c.2) → pre w → ∃ f tmps assign body, (Instr.yield l vs.toArray).run P w = .ok (.round l f tmps assign body) w ∧
    Rets P (Frame.round l f tmps assign body .normal) w fun v w' => ∃ C', κ v C' ∧ St w (Ci.map Prod.fst) C' w'

theorem Does.yield {f : Operand} {args : Array Operand} {ats : Array TypeId} {l : Nat} {vs : List Value} {pre : World → Prop} (Cl Ci : Chunks) {κ' : Value → Chunks → Prop}
    (hf : ev L f = some (.func (.yield l) #[] #[])) (ha : Evs L args.toList vs) (hC : (Cl ++ Ci).Perm C) (yt : Yt X.P l vs pre Ci κ')
    (hp : ∀ w, St X.w0 X.B0 (Ci ++ Cl) w → pre w) (hk : ∀ v C', κ' v C' → ∃ C2, C2.Perm (Cl ++ C') ∧ κ v C2) : Does X N (.call ⟨.value f, args, ats⟩) .gen L ds C κ := by
  intro ope ho a w hsat hN
  have hargs' : args.map a.eval = vs.toArray := by rw [← hsat.evs ha, ← Array.toList_map, Array.toArray_toList]
  have hst : St X.w0 X.B0 (Ci ++ Cl) w := hsat.st.perm (List.perm_append_comm.trans hC)
  obtain ⟨fn, tmps, assign, body, hy, hr⟩ := yt w hst.left.nd (fun c hc => hst.own c (List.mem_append_left _ hc)) (hp w hst)
  have hrun : (execOp a.eval ope).run X.P w = .ok (.round l fn tmps assign body) w := by
    unfold execOp; rw [ho]
    simp only [resolve, hsat.ev hf, Deferred.ofValue, hargs']
    simp [invoke, hy]
  simp only [opS, hrun]
  refine hr.mono ?_
  rintro v w' ⟨C', hc, hst'⟩
  obtain ⟨C2, hp2, hk2⟩ := hk v C' hc
  exact ⟨Nat.le_trans hN hst'.mods.size, C2, hk2, (hst.frame hst').perm (hp2.trans List.perm_append_comm)⟩

/-- the end of a round -/
def FinR (P : Program) (w0 : World) (B0 : List Nat) (κ : Value → Chunks → Prop) (fr : Frame) (w' : World) : Prop :=
  ∃ v C' w2, κ v C' ∧ St w0 B0 C' w2 ∧ ∀ c cs, step P (lone fr (c :: cs) w') = .next (lone (c.finish v) cs w2)
def baseR (f : FuncId) (l : Nat) : Frame := { (default : Frame) with fn := f, kind := .normal, roundOf := some l }
abbrev cxR (P : Program) (f : FuncId) (l n : Nat) (w0 : World) (B0 : List Nat) (κ : Value → Chunks → Prop) : Cx :=
  { P, b := baseR f l, Fin := FinR P w0 B0 κ, n, w0, B0 }

/-- A ROUND, OUT OF A WALK. -/
theorem yt_of_walk {P : Program} {l n p : Nat} {v : Value} {pre : World → Prop} {Ci : Chunks} {r : Loop} (hm : (l, Obj.loop r) ∈ Ci) (hps : r.params = #[p]) (hkn : ∀ s u, look L s = some u → r.tmps[s]? = some u) (hsz : r.tmps.size = n) (hp : p < n)
    (h : ∀ w, pre w → G (cxR P r.fn l n w (Ci.map Prod.fst) κ) [.code r.assign, .beginRound, .code r.body] ((p, v) :: L) [] Ci) : Yt P l [v] pre Ci κ := by
  intro w hnd hown hpre
  have hst : St w (Ci.map Prod.fst) Ci w := ⟨hnd, hown, fun c hc => .inl (List.mem_map_of_mem hc), .refl _ _⟩
  refine ⟨r.fn, r.tmps.setIfInBounds p v, r.assign, r.body, ?_, ?_⟩
  · have := run_yield (P := P) (args := [v].toArray) (hown _ hm) (by rw [hps]; rfl)
    have hz : ((#[p] : Array Tmp).zip [v].toArray) = #[(p, v)] := by simp
    rw [this, hps, hz]
    rfl
  · intro c cs
    have hs0 : Sat (cxR P r.fn l n w (Ci.map Prod.fst) κ) L [] Ci { tmps := r.tmps, defers := [] } w := ⟨hsz, hkn, rfl, hst⟩
    obtain ⟨fr, w', ⟨u, C', w2, hk, hst', hstep⟩, hs⟩ := h w hpre _ _ (hs0.put (v := v) hst hp) (c :: cs)
    exact ⟨u, w2, ⟨C', hk, hst'⟩, Steps.trans hs (.one (hstep c cs))⟩

theorem G.beginRound {l : Nat} {r : Loop} (hb : X.b.roundOf = some l) (hr : r.state = .ready) (hu : Upd l (.loop r) (.loop { r with state := .busy }) C C') (h : G X k L ds C') : G X (.beginRound :: k) L ds C :=
  fun a w hs => (h a _ (hs.with (hs.st.put hu))).step fun _ => stepR_beginRound hb (run_beginRound (hs.st.own _ hu.mem) hr)

section fins
variable {P : Program} {f : FuncId} {l n : Nat} {w0 : World} {B0 : List Nat} {r : Loop}
theorem fin_round (hu : Upd l (.loop r) (.loop { r with state := .ready, pending := none }) C C') (hk : κ (.bool true) C') : G (cxR P f l n w0 B0 κ) [] L ds C :=
  fun a w hs cs => ⟨_, w, ⟨.bool true, C', _, hk, hs.st.put hu, fun c cs => stepR_round_end (b := baseR f l) (a := a) rfl rfl (run_endRound none (hs.st.own _ hu.mem))⟩, .refl _ _⟩
theorem fin_roundP {C2 : Chunks} (hu : Upd l (.loop r) (.loop { r with state := .ready, pending := none }) C C') (hp : C2.Perm C') (hk : κ (.bool true) C2) : G (cxR P f l n w0 B0 κ) [] L ds C :=
  fun a w hs cs => ⟨_, w, ⟨.bool true, C2, _, hk, (hs.st.put hu).perm hp, fun c cs => stepR_round_end (b := baseR f l) (a := a) rfl rfl (run_endRound none (hs.st.own _ hu.mem))⟩, .refl _ _⟩
theorem fin_roundXP {id : Nat} {C2 : Chunks} (hx : exitTo id k = none) (hu : Upd l (.loop r) (.loop { r with state := .done, pending := some (.exit id) }) C C') (hp : C2.Perm C') (hk : κ (.bool false) C2) : G (cxR P f l n w0 B0 κ) (.code (.exit id) :: k) L ds C :=
  fun a w hs cs => ⟨_, w, ⟨.bool false, C2, _, hk, (hs.st.put hu).perm hp, fun c cs => stepR_round_exit (b := baseR f l) (a := a) rfl rfl hx (run_endRound (some (.exit id)) (hs.st.own _ hu.mem))⟩, .refl _ _⟩
theorem fin_roundX {id : Nat} (hx : exitTo id k = none) (hu : Upd l (.loop r) (.loop { r with state := .done, pending := some (.exit id) }) C C') (hk : κ (.bool false) C') : G (cxR P f l n w0 B0 κ) (.code (.exit id) :: k) L ds C :=
  fun a w hs cs => ⟨_, w, ⟨.bool false, C', _, hk, hs.st.put hu, fun c cs => stepR_round_exit (b := baseR f l) (a := a) rfl rfl hx (run_endRound (some (.exit id)) (hs.st.own _ hu.mem))⟩, .refl _ _⟩
end fins

/-- THE STATEMENT: for .. := range f -/
theorem G.rangeFunc {g : Operand} {ps : Array Tmp} {assign body : Code} {f : FuncId} {fs cs : Array Value} {pre : World → Prop} (Cl Ci : Chunks) {κ' : Nat → Nat → Array Value → Value → Chunks → Prop}
    (hro : X.b.roundOf = none) (hg : ev L g = some (.func (.func f) fs cs)) (hcb : callable X.P f = true) (hC : (Cl ++ Ci).Perm C)
    (ct : ∀ D l tm, (∀ s v, look L s = some v → tm[s]? = some v) → tm.size = X.n → X.w0.heap.size ≤ D → X.w0.heap.size ≤ l →
      Ct X.P f (fs.toList ++ [Value.func (.yield l) #[] #[]] ++ cs.toList).toArray pre ((l, .loop { state := .ready, pending := none, fn := X.b.fn, tmps := tm, params := ps, assign, body, defers := D }) :: Ci) (κ' D l tm))
    (hp : ∀ w D l o, St X.w0 X.B0 (((l, o) :: Ci) ++ (D, .deferred (some [])) :: Cl) w → pre w)
    (hk : ∀ D l tm v C', X.w0.heap.size ≤ D → κ' D l tm v C' → ∃ (r : Loop) (C2 : Chunks), r.state ≠ .busy ∧ ((l, .loop r) :: C2).Perm C' ∧
      G X ((r.pending.map Item.code).toList ++ k) L ({ target := .collected D, args := #[] } :: ds) ((D, .deferred (some [])) :: (Cl ++ C2))) : G X (.code (.rangeFunc g ps assign body) :: k) L ds C := by
  intro a w hs ks
  have hst0 : St X.w0 X.B0 (Cl ++ Ci) w := hs.st.perm hC
  have hst1 := hst0.alloc (.deferred (some []))
  have hsz1 : (w.alloc (.deferred (some []))).heap.size = w.heap.size + 1 := by show (w.heap.push _).size = _; simp
  have hst2 := hst1.alloc (.loop { state := .ready, pending := none, fn := X.b.fn, tmps := a.tmps, params := ps, assign, body, defers := w.heap.size })
  rw [hsz1] at hst2
  have hst3 : St X.w0 X.B0 (((w.heap.size + 1, Obj.loop { state := .ready, pending := none, fn := X.b.fn, tmps := a.tmps, params := ps, assign, body, defers := w.heap.size }) :: Ci) ++ (w.heap.size, .deferred (some [])) :: Cl) _ := hst2.perm (by
    classical exact List.perm_iff_count.2 fun q => by simp only [List.count_append, List.count_cons]; omega)
  have hle := hs.st.mods.size
  have hcall := ct w.heap.size (w.heap.size + 1) a.tmps hs.knows hs.size hle (by omega) _ hst3.left.nd (fun c hc => hst3.own c (List.mem_append_left _ hc)) (hp _ _ _ _ hst3)
  have hent := run_enterLoop_outer (P := X.P) (w := w) X.b.fn a.tmps ps assign body
  have hres : (resolve a.eval (rangeCall g (w.heap.size + 1)) 0).run X.P ((w.alloc (.deferred (some []))).alloc (.loop { state := .ready, pending := none, fn := X.b.fn, tmps := a.tmps, params := ps, assign, body, defers := w.heap.size }))
      = .ok { target := .fn (.func f) cs, args := fs ++ #[Value.func (.yield (w.heap.size + 1)) #[] #[]] } ((w.alloc (.deferred (some []))).alloc (.loop { state := .ready, pending := none, fn := X.b.fn, tmps := a.tmps, params := ps, assign, body, defers := w.heap.size })) := by
    simp only [resolve, hs.ev hg, Deferred.ofValue]
    simp [Act.eval]
  have hinv : ∀ w1, (invoke (.fn (.func f) cs) (fs ++ #[Value.func (.yield (w.heap.size + 1)) #[] #[]])).run X.P w1 = .ok (.enter f (fs.toList ++ [Value.func (.yield (w.heap.size + 1)) #[] #[]] ++ cs.toList).toArray) w1 := by
    intro w1
    simp [invoke, run_callFunc hcb]
  obtain ⟨e, w2, fr, ⟨v, rfl, C', hκ, hst'⟩, hcomes, _, hleave⟩ := hcall (at' X.b { a with defers := [{ target := .collected w.heap.size, args := #[] }] ++ a.defers } (.inRangeFunc (w.heap.size + 1) :: k) :: ks)
  obtain ⟨r, C2, hrb, hperm, hG⟩ := hk _ _ _ _ _ hle hκ
  have hst4 := hst3.frame hst'
  have hst5 : St X.w0 X.B0 ((w.heap.size + 1, .loop r) :: ((w.heap.size, .deferred (some [])) :: (Cl ++ C2))) w2 := hst4.perm (by
    refine List.Perm.trans ?_ (hperm.append_right _)
    classical exact List.perm_iff_count.2 fun q => by simp only [List.count_append, List.count_cons]; omega)
  have hst6 := hst5.put (o' := .loop { r with state := .exhausted }) .head
  have hend := run_endLoop (P := X.P) (hst5.own _ (.head _)) hrb
  have hst7 : St X.w0 X.B0 ((w.heap.size, .deferred (some [])) :: (Cl ++ C2)) _ := hst6.sub .split1
  obtain ⟨fr2, w3, hf, hs3⟩ := hG { a with defers := [{ target := .collected w.heap.size, args := #[] }] ++ a.defers } _ ⟨hs.size, hs.knows, by rw [hs.defers]; rfl, hst7⟩ ks
  refine ⟨fr2, w3, hf, .head (stepR_rangeFunc (b := X.b) (by rw [hro]; exact hent) hres (hinv _)) (Steps.trans hcomes (.head (step_leave_returned hleave) ?_))⟩
  have hfin : (at' X.b { a with defers := [{ target := .collected w.heap.size, args := #[] }] ++ a.defers } (.inRangeFunc (w.heap.size + 1) :: k)).finish v = at' X.b { a with defers := [{ target := .collected w.heap.size, args := #[] }] ++ a.defers } (.endRangeFunc (w.heap.size + 1) :: k) := finish_atR_inRangeFunc (b := X.b) _ v
  rw [hfin]
  exact .head (stepR_endRangeFunc (b := X.b) hend) hs3

theorem Ct.perm {P : Program} {f : FuncId} {args : Array Value} {pre : World → Prop} {C C2 : Chunks} {κ : Value → Chunks → Prop} (hp : C.Perm C2) (h : Ct P f args pre C κ) : Ct P f args pre C2 κ := by
  intro w hnd hown hpre
  refine (h w ((hp.map Prod.fst).nodup_iff.2 hnd) (fun c hc => hown c (hp.mem_iff.1 hc)) hpre).mono ?_
  rintro e w' ⟨v, hv, C', hk, hst⟩
  refine ⟨v, hv, C', hk, hst.nd, hst.own, fun c hc => ?_, hst.mods.mono fun q hq _ => (hp.map Prod.fst).mem_iff.1 hq⟩
  rcases hst.new c hc with h1 | h1
  · exact .inl ((hp.map Prod.fst).mem_iff.1 h1)
  · exact .inr h1
theorem G.dropP {A : Chunks} (R : Chunks) (hp : (A ++ R).Perm C) (h : G X k L ds A) : G X k L ds C := fun a w hs => h a w (hs.with (hs.st.perm hp).left)

/-- the marks of loops that are over -/
def marks (Ds : List Nat) : List Deferred := Ds.map fun D => { target := .collected D, args := #[] }

theorem out_marks {P : Program} {fr : Frame} {w0 : World} {B0 : List Nat} : ∀ (Ds : List Nat) (A : Chunks) (w : World), fr.mode ≠ .run → St w0 B0 (Ds.map (fun D => (D, Obj.deferred (some []))) ++ A) w →
    ∃ w', St w0 B0 A w' ∧ ∀ cs, Steps P (lone { fr with defers := marks Ds } cs w) (lone { fr with defers := [] } cs w') := by
  intro Ds
  induction Ds with
  | nil => intro A w _ h; exact ⟨w, h, fun cs => .refl _ _⟩
  | cons D Ds ih =>
    intro A w hm h
    have hput := h.put (o' := .deferred none) .head
    obtain ⟨w', h1, h2⟩ := ih A _ hm (hput.sub .split1)
    refine ⟨w', h1, fun cs => .head ?_ (h2 cs)⟩
    have := step_collected (P := P) (fr := { fr with defers := marks (D :: Ds) }) (cs := cs) hm rfl rfl (run_takeDeferred (h.own _ (.head _)))
    exact this

theorem fin_retD {P : Program} {f : FuncId} {n : Nat} {w0 : World} {B0 : List Nat} {fn : Func} {A R : Chunks} {v : Value} (Ds : List Nat) (hf : P.funcs[f]? = some fn)
    (hr : ∀ a w, Sat (cxF P f n w0 B0 κ) L (marks Ds) C a w → ∀ w', (results fn a.tmps).run P w' = .ok v w') (hs : ((Ds.map fun D => (D, Obj.deferred (some []))) ++ A ++ R).Perm C) (hk : κ v A) : G (cxF P f n w0 B0 κ) (.code .ret :: k) L (marks Ds) C := by
  intro a w h cs
  have hst := (h.st.perm hs).left
  obtain ⟨w', h1, h2⟩ := out_marks (P := P) (fr := { at' (baseF f) a (.code .ret :: k) with mode := .returning }) Ds A w (by simp) hst
  have hstep : step P (lone (at' (baseF f) a (.code .ret :: k)) cs w) = .next (lone { at' (baseF f) a (.code .ret :: k) with mode := .returning } cs w) := step_lone_go (by simp [stepG, stepG.exec, at', baseF])
  refine ⟨{ at' (baseF f) a (.code .ret :: k) with mode := .returning, defers := [] }, w', ⟨v, A, hk, h1, rfl, rfl, rfl, rfl, fn, hf, hr a w h w'⟩, .head hstep ?_⟩
  have h3 := h2 cs
  have hd : a.defers = marks Ds := h.defers
  rw [← hd] at h3
  exact h3
theorem res1D {P : Program} {fn : Func} {t : Nat} {v : Value} (h : fn.results = #[.tmp t]) (hv : look L t = some v) : ∀ a w, Sat X L ds C a w → ∀ w', (results fn a.tmps).run P w' = .ok v w' := fun a w hs w' => by
  rw [results_tmp h a.tmps P w', hs.getD hv]
end
end Go.Lg
