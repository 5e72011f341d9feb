/- Part 6 of a small program logic: more operations; what an argument's reading says of memory; how a law's row is closed. Nothing is claimed of the program here. -/
import Derived.Test.YtcgenmfnlocbbaaDoorL5
import Derived.ProofKit
import Derived.JoinedCond
import Derived.Laws.StructEq
namespace Go.Lg
open Go.RowKit
section
variable {X : Cx} {L L' : Env} {ds : List Deferred} {C C' : Chunks} {N : Nat} {κ : Value → Chunks → Prop} {x y z : Operand} {u v : Value}

theorem run_eqIn_bool {P : Program} {T d : Nat} {a b : Bool} (hT : P.underlying T = some .bool) (w : World) : (Op.equalIn (d + 1) T (.bool a) (.bool b)).run P w = .ok (a == b) w := by
  simp only [Op.equalIn, Sem.run_bind, run_ul hT, Result.andThen]
  rfl
theorem run_eq_bool {P : Program} {T : TypeId} {a b : Bool} (hT : P.underlying T = some .bool) (w : World) : (Op.equal T (.bool a) (.bool b)).run P w = .ok (a == b) w := run_eqIn_bool (d := 9999) hT w
theorem Does.eqlB {T T' : TypeId} {a b t : Bool} (hx : ev L x = some (.bool a)) (hy : ev L y = some (.bool b)) (hT : X.P.underlying T = some .bool) (ht : (a == b) = t) (hk : κ (.bool t) C) : Does X N (.binOp .eql T x y T') .loc L ds C κ :=
  .of_run (fun o ho ac w hs w' => by
    have h1 : binOp .eql T (.bool a) (.bool b) = (do pure (.bool (← Op.equal T (.bool a) (.bool b))) : Sem Value) := rfl
    unfold execOp; rw [ho]
    simp only [hs.ev hx, hs.ev hy, eqGuard, h1]
    subst ht
    simp [run_eq_bool hT]) hk
theorem Does.neqB {T T' : TypeId} {a b t : Bool} (hx : ev L x = some (.bool a)) (hy : ev L y = some (.bool b)) (hT : X.P.underlying T = some .bool) (ht : (!(a == b)) = t) (hk : κ (.bool t) C) : Does X N (.binOp .neq T x y T') .loc L ds C κ :=
  .of_run (fun o ho ac w hs w' => by
    have h1 : binOp .neq T (.bool a) (.bool b) = (do pure (.bool (!(← Op.equal T (.bool a) (.bool b)))) : Sem Value) := rfl
    unfold execOp; rw [ho]
    simp only [hs.ev hx, hs.ev hy, eqGuard, h1]
    subst ht
    simp [run_eq_bool hT]) hk
end

/-! ### readings -/
section
variable {H : Type} {enc : TypeId × Value → H} {P : Program} {w : World} {base : Nat} {sp : Nat → Bool} {hd : Bool}

theorem inv_int {n t : Nat} {k : IntKind} {cs : List Value} {x : DataW H × List MemPlace} (hu : P.underlying t = some (.int k)) (h : DataW.trod enc P w base sp hd n t cs = some x) :
    ∃ m, cs = [.int k m] ∧ (Lit.int k m).wf = true ∧ x = (.lit (.int k m), []) := by
  cases n with
  | zero => simp [DataW.trod] at h
  | succ n =>
    rw [DataW.trod_step] at h
    unfold DataW.trodStep at h
    rw [hu] at h
    split at h <;> simp_all

theorem inv_struct {n t : Nat} {fs : Array Field} {cs : List Value} {x : DataW H × List MemPlace} (hu : P.underlying t = some (.struct fs)) (h : DataW.trod enc P w base sp hd n t cs = some x) :
    ∃ n', cs.length = P.cellsOf t ∧ ∃ xs, (fs.toList.mapM fun f => DataW.trod enc P w base sp hd n' f.type ((cs.drop f.offset).take (P.cellsOf f.type))) = some xs ∧ x = (.agg (xs.map (·.1)), xs.flatMap (·.2)) := by
  cases n with
  | zero => simp [DataW.trod] at h
  | succ n =>
    rw [DataW.trod_step] at h
    unfold DataW.trodStep at h
    split at h
    all_goals first
      | (rename_i hq; rw [hu] at hq; cases hq; done)
      | (rename_i hq _; rw [hu] at hq; cases hq; done)
      | skip
    · rename_i fs' _ hq
      rw [hu] at hq
      cases hq
      split at h
      · rename_i hl
        simp only [Option.map_eq_some_iff] at h
        obtain ⟨a, ha, rfl⟩ := h
        exact ⟨n, hl, a, ha, rfl⟩
      · cases h
    · cases h

theorem inv_slice {n t e : Nat} {cs : List Value} {x : DataW H × List MemPlace} (hu : P.underlying t = some (.slice e)) (h : DataW.trod enc P w base sp hd n t cs = some x) :
    (cs = [.slice none 0 0] ∧ x = (.nil, [])) ∨ ∃ n' a len cap elems rest, cs = [.slice (some a) len cap] ∧ base ≤ a.block ∧ len ≤ cap ∧ cap ≤ maxLen ∧
      ((List.range len).mapM fun i => (w.cells? base (a.add (i * P.cellsOf e)) (P.cellsOf e)).bind (DataW.trod enc P w base sp hd n' e)) = some elems ∧
      (if sp a.block then (List.range (cap - len)).mapM fun j => (w.cells? base (a.add ((len + j) * P.cellsOf e)) (P.cellsOf e)).bind (DataW.trod enc P w base sp hd n' e) else some []) = some rest ∧
      x = (.slice (elems.map (·.1)) (rest.map (·.1)), MemPlace.row a ((elems.length + rest.length) * P.cellsOf e) ++ (elems ++ rest).flatMap (·.2)) := by
  cases n with
  | zero => simp [DataW.trod] at h
  | succ n =>
    rw [DataW.trod_step] at h
    unfold DataW.trodStep at h
    split at h
    all_goals first
      | (rename_i hq; rw [hu] at hq; cases hq; done)
      | (rename_i hq _; rw [hu] at hq; cases hq; done)
      | skip
    · cases h; exact .inl ⟨rfl, rfl⟩
    · rename_i e' a len cap hq
      rw [hu] at hq
      cases hq
      simp only at h
      split at h
      · rename_i hc
        simp only [Option.bind_eq_some_iff, Option.map_eq_some_iff] at h
        obtain ⟨elems, he, rest, hr, rfl⟩ := h
        refine .inr ⟨n, a, len, cap, elems, rest, rfl, hc.1, hc.2.1, hc.2.2, ?_, ?_, rfl⟩
        · exact he
        · exact hr
      · cases h
    · cases h

theorem inv_bool {n t : Nat} {cs : List Value} {x : DataW H × List MemPlace} (hu : P.underlying t = some .bool) (h : DataW.trod enc P w base sp hd n t cs = some x) :
    ∃ b, cs = [.bool b] ∧ x = (.lit (.bool b), []) := by
  cases n with
  | zero => simp [DataW.trod] at h
  | succ n =>
    rw [DataW.trod_step] at h
    unfold DataW.trodStep at h
    rw [hu] at h
    split at h <;> simp_all

theorem inv_string {n t : Nat} {cs : List Value} {x : DataW H × List MemPlace} (hu : P.underlying t = some .string) (h : DataW.trod enc P w base sp hd n t cs = some x) :
    ∃ s, cs = [.string s] ∧ s.size ≤ maxLen ∧ x = (.lit (.string s.data.toList), []) := by
  cases n with
  | zero => simp [DataW.trod] at h
  | succ n =>
    rw [DataW.trod_step] at h
    unfold DataW.trodStep at h
    rw [hu] at h
    split at h <;> simp_all

/-- one of a list's readings, by its place -/
theorem mapM_get {α β : Type} {f : α → Option β} : ∀ {l : List α} {r : List β}, l.mapM f = some r → r.length = l.length ∧ ∀ (i : Nat) (a : α) (b : β), l[i]? = some a → r[i]? = some b → f a = some b := by
  intro l
  induction l with
  | nil => intro r h; simp at h; subst h; simp
  | cons x l ih =>
    intro r h
    simp only [List.mapM_cons, Option.bind_eq_bind, Option.bind_eq_some_iff, Option.pure_def, Option.some.injEq] at h
    obtain ⟨y, hy, r', hr', rfl⟩ := h
    obtain ⟨h1, h2⟩ := ih hr'
    refine ⟨by simp [h1], ?_⟩
    intro i a b ha hb
    cases i with
    | zero => simp at ha hb; subst ha hb; exact hy
    | succ i => exact h2 i a b (by simpa using ha) (by simpa using hb)

theorem trodAll_split {t : TypeId} {ts : List TypeId} {vs : List Value} {ds : List (DataW H)} {ps : List MemPlace} (h : DataW.TrodAll enc P w base sp hd (t :: ts) vs ds ps) :
    ∃ v vs' d ds' p q n, vs = v :: vs' ∧ ds = d :: ds' ∧ ps = p ++ q ∧ DataW.trod enc P w base sp hd n t v.cells.toList = some (d, p) ∧ DataW.TrodAll enc P w base sp hd ts vs' ds' q := by
  cases vs with
  | nil => exact h.elim
  | cons v vs =>
    cases ds with
    | nil => exact h.elim
    | cons d ds =>
      obtain ⟨p, q, ⟨n, h1⟩, h2, rfl⟩ := h
      exact ⟨v, vs, d, ds, p, q, n, rfl, rfl, rfl, h1, h2⟩
theorem trodAll_end {vs : List Value} {ds : List (DataW H)} {ps : List MemPlace} (h : DataW.TrodAll enc P w base sp hd [] vs ds ps) : vs = [] ∧ ds = [] ∧ ps = [] := by
  cases vs with
  | nil => cases ds with
    | nil => exact ⟨rfl, rfl, h⟩
    | cons _ _ => exact h.elim
  | cons _ _ => exact h.elim

theorem TrodAll.carry {w' : World} : ∀ {ts : List TypeId} {vs : List Value} {ds : List (DataW H)} {ps : List MemPlace}, DataW.TrodAll enc P w base sp hd ts vs ds ps → (∀ p ∈ ps, w.sameAt w' p) → DataW.TrodAll enc P w' base sp hd ts vs ds ps
  | [], [], [], _, h, _ => h
  | _ :: _, _ :: _, _ :: _, _, ⟨p, q, ⟨n, h1⟩, h2, e⟩, hs => ⟨p, q, ⟨n, DataW.trod_carry n _ _ _ h1 (fun x hx => hs x (by rw [e]; exact List.mem_append_left _ hx))⟩, TrodAll.carry h2 (fun x hx => hs x (by rw [e]; exact List.mem_append_right _ hx)), e⟩

/-- WHAT A LAW OWES, OUT OF ITS ANSWER 'true' AND 'all that lay lies as it lay'. -/
theorem law_post {f : Func} {s : ChangeSpec} {W W' : World} {args : Array Value} {ds gs : List (DataW H)} {before : List MemPlace} {tb : TypeId}
    (hK : laidOutB P = true) (hm : mapsRowed P = true) (hz : ∀ t e, t < P.types.size → P.underlying t = some (.slice e) → 0 < P.cellsOf e) (hts : ∀ t ∈ f.params.toList, t < P.types.size)
    (hvars : s.vars = []) (hfn : ∀ ds : List (DataW H), ds.length = f.params.toList.length → s.fn H ds = { results := [.lit (.bool true)], args := ds }) (hres : f.resultTypes = #[tb]) (htb : P.underlying tb = some .bool)
    (hW : DataW.Whole enc P f.params.toList s.vars false W args.toList ds gs before) (hb : Below W.heap.size W W') :
    s.post enc P f false true false false W args (.bool true) W' := by
  have hlt := hW.lt
  have hW0 := hW
  obtain ⟨p, q, hA, hV, rfl, hfz, _⟩ := hW
  rw [hvars] at hV
  obtain ⟨rfl, rfl⟩ : gs = [] ∧ q = [] := by cases gs with | nil => exact ⟨rfl, hV⟩ | cons _ _ => exact hV.elim
  rw [List.append_nil] at hlt hfz
  have hlen : ds.length = f.params.toList.length := by
    clear hW0 hfn hts hlt hfz
    generalize f.params.toList = ts at hA ⊢
    generalize args.toList = vs at hA
    induction ts generalizing vs ds p with
    | nil => obtain ⟨_, rfl, _⟩ := trodAll_end hA; rfl
    | cons t ts ih =>
      obtain ⟨v, vs', d, ds', p1, q1, n, rfl, rfl, rfl, _, h2⟩ := trodAll_split hA
      simp [ih _ _ _ h2]
  have hspec := hfn ds hlen
  have hsame : ∀ x ∈ p, W.sameAt W' x := fun x hx => hb.same (hlt x hx)
  have hargs : ∀ sp : Nat → Bool, (∀ x ∈ p, sp x.block = true) → DataW.TrodAll enc P W' 0 sp true f.params.toList args.toList ds p := fun sp hsp =>
    TrodAll.carry (DataW.TrodAll.respare (kids_rows hK hm) hz hts hA hsp) hsame
  have hold : ∀ x ∈ p, (fun b => decide (b < W.heap.size)) x.block = true := fun x hx => by simpa using hlt x hx
  have hr : ∀ (b : Nat) (sp : Nat → Bool) (hd : Bool), DataW.TrodAll enc P W' b sp hd f.resultTypes.toList ((Value.bool true).resultList f.resultTypes.size) [.lit (.bool true)] [] := by
    intro b sp hd
    rw [hres]
    refine ⟨[], [], ⟨1, ?_⟩, rfl, rfl⟩
    simp [DataW.trod, htb, Value.cells]
  rw [List.append_nil] at hW0
  have hspec' : s.fn H (ds ++ []) = { results := [.lit (.bool true)], args := ds } := by rw [List.append_nil]; exact hspec
  refine ⟨ds, [], p, [], p, [], hW0, by rw [hspec']; exact hr _ _ _, by rw [hspec']; exact hargs _ hold, by rw [hspec', hvars]; rfl, World.keptBut_mono (fun x hx => ⟨hx, .inr (by simpa using hx)⟩) (hb.frame _), fun h => by cases h⟩
end
end Go.Lg
namespace Go.Lg
theorem agg_of {v : Value} {l : List Value} (h : v.cells.toList = l) (hl : l.length ≠ 1) : v = .agg l.toArray := by
  subst h
  cases v <;> simp [Value.cells] at hl ⊢
theorem one_of {v x : Value} (h : v.cells.toList = [x]) (hx : ∀ cs, v ≠ .agg cs) : v = x := by
  cases v <;> simp [Value.cells] at h ⊢
  all_goals first | exact h | (exact absurd rfl (hx _))
end Go.Lg
namespace Go.Lg
section
variable {X : Cx} {L L' : Env} {ds : List Deferred} {C C' : Chunks} {N : Nat} {κ : Value → Chunks → Prop} {x y z : Operand} {u v : Value}
theorem run_eql_agg {P : Program} {T : TypeId} {xs ys : Array Value} {b : Bool} {x y : Operand} (hg : P.eqGuardType P.depth T = false) (hq : ∀ w, (Op.equalIn 10000 T (.agg xs) (.agg ys)).run P w = .ok b w) (w : World) :
    (do eqGuard .eql T x y (.agg xs) (.agg ys); binOp .eql T (.agg xs) (.agg ys) : Sem Value).run P w = .ok (.bool b) w := by
  have h1 := run_eqGuard_agg (P := P) w .eql T x y xs ys hg
  have h2 := run_eql_struct (P := P) w T xs ys
  rw [hq] at h2
  simp only [Sem.run_bind, h1, Result.andThen, h2]
theorem run_neq_agg {P : Program} {T : TypeId} {xs ys : Array Value} {b : Bool} {x y : Operand} (hg : P.eqGuardType P.depth T = false) (hq : ∀ w, (Op.equalIn 10000 T (.agg xs) (.agg ys)).run P w = .ok b w) (w : World) :
    (do eqGuard .neq T x y (.agg xs) (.agg ys); binOp .neq T (.agg xs) (.agg ys) : Sem Value).run P w = .ok (.bool (!b)) w := by
  have h1 := run_eqGuard_agg (P := P) w .neq T x y xs ys hg
  have h2 := run_neq_struct (P := P) w T xs ys
  rw [hq] at h2
  simp only [Sem.run_bind, h1, Result.andThen, h2]
theorem Does.eqlA {T T' : TypeId} {xs ys : Array Value} {b t : Bool} (hx : ev L x = some (.agg xs)) (hy : ev L y = some (.agg ys)) (hg : X.P.eqGuardType X.P.depth T = false) (hq : ∀ w, (Op.equalIn 10000 T (.agg xs) (.agg ys)).run X.P w = .ok b w) (ht : b = t) (hk : κ (.bool t) C) : Does X N (.binOp .eql T x y T') .loc L ds C κ :=
  .of_run (fun o ho ac w hs w' => by
    unfold execOp; rw [ho]
    simp only [hs.ev hx, hs.ev hy]
    subst ht
    simp only [Sem.run_bind, run_eql_agg hg hq, Result.andThen]
    rfl) hk
theorem Does.neqA {T T' : TypeId} {xs ys : Array Value} {b t : Bool} (hx : ev L x = some (.agg xs)) (hy : ev L y = some (.agg ys)) (hg : X.P.eqGuardType X.P.depth T = false) (hq : ∀ w, (Op.equalIn 10000 T (.agg xs) (.agg ys)).run X.P w = .ok b w) (ht : (!b) = t) (hk : κ (.bool t) C) : Does X N (.binOp .neq T x y T') .loc L ds C κ :=
  .of_run (fun o ho ac w hs w' => by
    unfold execOp; rw [ho]
    simp only [hs.ev hx, hs.ev hy]
    subst ht
    simp only [Sem.run_bind, run_neq_agg hg hq, Result.andThen]
    rfl) hk

/-- xs[lo:] -/
theorem Does.sliceFrom {T e sz b o len cap : Nat} {n : Int} {kh : IntKind} (l : Nat) (hx : ev L x = some (.slice (some ⟨b, o, none⟩) len cap)) (hy : ev L y = some (.int kh n)) (hT : sliceElem X.P T = some (e, sz)) (hn : n = (l : Int)) (hl : l ≤ len) (hc : len ≤ cap) (hk : κ (.slice (some ⟨b, if cap = l then o else o + l * sz, none⟩) (len - l) (cap - l)) C) : Does X N (.slice T x (some y) none none) .loc L ds C κ :=
  .of_run (fun ope ho a w hs w' => by
    obtain ⟨hu, i, hi, hsz⟩ := sliceElem_spec hT
    unfold execOp; rw [ho]
    subst hn
    simp [hs.ev hx, hs.ev hy, Instr.sliceAt, Instr.slice, Instr.sliceBounds, Instr.sliceBound, asIntOf, run_ul hu, hl, run_sz hi, hsz, add_at]
    split <;> rfl) hk

/-- nothing is appended -/
theorem Does.append0 {T e sz by_ mc n cap : Nat} {ad ad2 : Option Addr} {zs : List Value}
    (hx : ev L x = some (.slice ad n cap)) (hy : ev L y = some (.slice ad2 0 mc)) (hT : sliceInfo X.P T = some (e, sz, by_)) (hn : n ≤ cap)
    (hk : κ (.slice ad n cap) C) : Does X N (.call ⟨.builtin .append, #[x, y], #[T, T]⟩) .gen L ds C κ := by
  intro ope hop a w hs hN
  obtain ⟨hu, inf, hi, hsz, hby⟩ := sliceInfo_spec hT
  have hl : ∀ a w, (loadCells a 0).run X.P w = .ok #[] w := by intro a w; rfl
  have hap : (Builtin.append_ #[T, T] ope.type #[.slice ad n cap, .slice ad2 0 mc]).run X.P w = .ok (.slice ad n cap) w := by
    cases ad <;> cases ad2 <;> simp [Builtin.append_, run_ul hu, run_sz hi, Builtin.lenOf, hn, Builtin.firstCells, hl, storeCells]
  have hrun : (execOp a.eval ope).run X.P w = .ok (.value (.slice ad n cap)) w := by
    unfold execOp; rw [hop]
    simp [resolve, invoke, builtin, hs.ev hx, hs.ev hy, hap]
  simp only [opS, hrun]
  exact ⟨hN, C, hk, hs.st⟩
end
end Go.Lg
namespace Go.Lg
section
variable {X : Cx} {L L' : Env} {ds : List Deferred} {C C' : Chunks}
theorem resc0 {P : Program} {fn : Func} {t T b o : Nat} {vs : List Value} {a : Act} {w : World} (h : fn.results = #[.cell t T]) (hs : Sat X L ds C a w) (hP : X.P = P) (hT : aggT P T = some vs.length) (ht : look L t = some (.pointer (some ⟨b, o, none⟩))) (hr : RowIn X C b o vs) :
    (results fn a.tmps).run P w = .ok (.agg vs.toArray) w := by
  subst hP
  obtain ⟨h1, i, hi, hn⟩ := aggT_spec hT
  have hl := hr.load hs.st
  have ht' := hs.knows _ _ ht
  simp [results, h, ht', asAddr, loadVar, h1, run_sz hi, hn, hl]
theorem Owns.form {e sz n : Nat} {sv : Value} {old : List Value} {C Cr : Chunks} (h : Owns e sz sv n old C Cr) : ∃ ad cap, sv = .slice ad n cap ∧ n ≤ cap := by
  cases h with
  | nil => exact ⟨_, _, rfl, Nat.le_refl _⟩
  | blk h h1 h2 h3 => exact ⟨_, _, rfl, h3⟩
theorem wr_quo {k : IntKind} {a b r : Int} (h0 : 0 ≤ a) (h : a / b = r) (hw : k.wrap r = r) : k.wrap (a.tdiv b) = r := by
  rw [Int.tdiv_eq_ediv_of_nonneg h0, h, hw]
end
end Go.Lg
