/- Part 5 of a small program logic: calls with blocks beside; rows of a list. Nothing is claimed of the program here. -/
import Derived.Test.YtcgenmfnlocbbaaDoorL4
namespace Go.Lg

section
variable {X : Cx} {L L' : Env} {ds : List Deferred} {C C' : Chunks} {k : List Item} {ops : Array Oper} {cl : List Cls} {N i d : Nat} {p q : Plan} {op : Op}
variable {κ : Value → Chunks → Prop} {x y z : Operand} {u v : Value} {n m : Int} {kd : IntKind}

theorem Split.nilL {C : Chunks} : Split [] C C := .nil

/-- a call of a known function: its blocks are the last ones -/
theorem Does.callS {f : Operand} {args : Array Operand} {ats : Array TypeId} {g : FuncId} {fs cs : Array Value} {vs args' : List Value} {pre : World → Prop} (Cl Ci : Chunks) {κ' : Value → Chunks → Prop}
    (hf : ev L f = some (.func (.func g) fs cs)) (ha : Evs L args.toList vs) (hg : callable X.P g = true) (hargs : fs.toList ++ vs ++ cs.toList = args') (hC : C = Cl ++ Ci) (ct : Ct X.P g args'.toArray pre Ci κ')
    (hp : ∀ w, St X.w0 X.B0 C w → pre w) (hk : ∀ v C', κ' v C' → κ v (Cl ++ C')) : Does X N (.call ⟨.value f, args, ats⟩) .gen L ds C κ := by
  intro ope ho a w hsat hN
  have hargs' : args.map a.eval = vs.toArray := by rw [← hsat.evs ha, ← Array.toList_map, Array.toArray_toList]
  have hst : St X.w0 X.B0 (Ci ++ Cl) w := hsat.st.perm (by rw [hC]; exact List.perm_append_comm)
  have hrun : (execOp a.eval ope).run X.P w = .ok (.enter g args'.toArray) w := by
    unfold execOp; rw [ho]
    simp only [resolve, hsat.ev hf, Deferred.ofValue, hargs']
    simp [invoke, run_callFunc hg, ← hargs]
  simp only [opS, hrun]
  refine (ct w hst.left.nd (fun c hc => hst.own c (List.mem_append_left _ hc)) (hp w hsat.st)).mono ?_
  rintro e w' ⟨v, hv, C', hc, hst'⟩
  exact ⟨v, hv, Nat.le_trans hN hst'.mods.size, Cl ++ C', hk v C' hc, (hst.frame hst').perm List.perm_append_comm⟩

/-- a call of a function by its number -/
theorem Does.callF {args : Array Operand} {ats : Array TypeId} {g : FuncId} {vs : List Value} {pre : World → Prop} (Cl Ci : Chunks) {κ' : Value → Chunks → Prop}
    (ha : Evs L args.toList vs) (hg : callable X.P g = true) (hC : C = Cl ++ Ci) (ct : Ct X.P g vs.toArray pre Ci κ')
    (hp : ∀ w, St X.w0 X.B0 C w → pre w) (hk : ∀ v C', κ' v C' → κ v (Cl ++ C')) : Does X N (.call ⟨.value (.func g), args, ats⟩) .gen L ds C κ :=
  Does.callS Cl Ci (fs := #[]) (cs := #[]) (args' := vs) rfl ha hg (by simp) hC ct hp hk

end

section
variable {X : Cx} {L : Env} {ds : List Deferred} {C : Chunks} {N : Nat} {κ : Value → Chunks → Prop}
/-- a call whose blocks stand in the middle -/
theorem Does.callG {args : Array Operand} {ats : Array TypeId} {g : FuncId} {vs : List Value} {pre : World → Prop} (Cl Ci Cr : Chunks) {κ' : Value → Chunks → Prop}
    (ha : Evs L args.toList vs) (hg : callable X.P g = true) (hC : C = Cl ++ (Ci ++ Cr)) (ct : Ct X.P g vs.toArray pre Ci κ')
    (hp : ∀ w, St X.w0 X.B0 C w → pre w) (hk : ∀ v C', κ' v C' → κ v (Cl ++ (C' ++ Cr))) : Does X N (.call ⟨.value (.func g), args, ats⟩) .gen L ds C κ := by
  refine Does.callF Cl (Ci ++ Cr) (κ' := fun v C' => ∃ C1, κ' v C1 ∧ C' = C1 ++ Cr) ha hg hC ?_ hp ?_
  · intro w hnd hown hp
    have hst : St w ((Ci ++ Cr).map Prod.fst) (Ci ++ Cr) w := ⟨hnd, hown, fun c hc => .inl (List.mem_map_of_mem hc), .refl _ _⟩
    refine (ct w hst.left.nd (fun c hc => hown c (List.mem_append_left _ hc)) hp).mono ?_
    rintro e w' ⟨v, hv, C', hc, hst'⟩
    exact ⟨v, hv, C' ++ Cr, ⟨C', hc, rfl⟩, hst.frame hst'⟩
  · rintro v C' ⟨C1, h1, rfl⟩
    exact hk v C1 h1
end
theorem Split.all {A : Chunks} : Split A A [] := by
  induction A with
  | nil => exact .nil
  | cons x A ih => exact .cons .head ih

theorem Take.frame {α : Type} {x : α} {C Cr : List α} (h : Take x C Cr) : ∀ (pre post : List α), Take x (pre ++ (C ++ post)) (pre ++ (Cr ++ post)) := by
  intro pre post
  induction pre with
  | nil =>
    induction h with
    | head => exact .head
    | tail _ ih => exact .tail ih
  | cons y pre ih => exact .tail ih
theorem Owns.frame {e sz n : Nat} {sv : Value} {old : List Value} {C Cr : Chunks} (h : Owns e sz sv n old C Cr) (pre post : Chunks) : Owns e sz sv n old (pre ++ (C ++ post)) (pre ++ (Cr ++ post)) := by
  cases h with
  | nil => exact .nil
  | blk h h1 h2 h3 => exact .blk (h.frame pre post) h1 h2 h3

/-! ### rows of equal length, one behind the other -/
section
variable {β : Type} (row : β → List Value) (s : Nat)

theorem flat_length (h : ∀ x, (row x).length = s) (l : List β) : (l.flatMap row).length = l.length * s := by
  induction l with
  | nil => simp
  | cons x l ih => simp [ih, h, Nat.add_mul, Nat.add_comm]

theorem flat_drop (h : ∀ x, (row x).length = s) : ∀ (l : List β) (sp : List Value) (i : Nat), i ≤ l.length → (l.flatMap row ++ sp).drop (i * s) = (l.drop i).flatMap row ++ sp := by
  intro l
  induction l with
  | nil => intro sp i hi; have : i = 0 := by simpa using hi
           subst this; simp
  | cons x l ih =>
    intro sp i hi
    cases i with
    | zero => simp
    | succ i =>
      simp only [List.flatMap_cons, List.drop_succ_cons, List.append_assoc]
      rw [Nat.add_mul, Nat.one_mul, Nat.add_comm, ← List.drop_drop, List.drop_left' (h x)]
      exact ih sp i (by simpa using hi)

theorem flat_take (h : ∀ x, (row x).length = s) : ∀ (l : List β) (sp : List Value) (i : Nat), i ≤ l.length → (l.flatMap row ++ sp).take (i * s) = (l.take i).flatMap row := by
  intro l
  induction l with
  | nil => intro sp i hi; have : i = 0 := by simpa using hi
           subst this; simp
  | cons x l ih =>
    intro sp i hi
    cases i with
    | zero => simp
    | succ i =>
      simp only [List.flatMap_cons, List.take_succ_cons, List.append_assoc]
      rw [Nat.add_mul, Nat.one_mul, Nat.add_comm, List.take_append, List.take_of_length_le (by rw [h]; omega), h, Nat.add_sub_cancel_left]
      rw [ih sp i (by simpa using hi)]

theorem flat_row (h : ∀ x, (row x).length = s) (l : List β) (sp : List Value) (i : Nat) (hi : i < l.length) : ((l.flatMap row ++ sp).drop (0 + i * s)).take (row l[i]).length = row l[i] := by
  rw [Nat.zero_add, flat_drop row s h l sp i (by omega), List.drop_eq_getElem_cons hi, List.flatMap_cons, List.append_assoc, List.take_left' rfl]

theorem setRow_gen : ∀ (vs pre mid post : List Value), (∀ v ∈ vs, oneC v = true) → mid.length = vs.length → SetRow vs (pre ++ mid ++ post) pre.length (pre ++ vs ++ post) := by
  intro vs
  induction vs with
  | nil =>
    intro pre mid post _ hl
    have : mid = [] := List.eq_nil_of_length_eq_zero hl
    subst this; exact .nil
  | cons v vs ih =>
    intro pre mid post h1 hl
    cases mid with
    | nil => simp at hl
    | cons u mid =>
      have hset : SetAt v (pre ++ u :: mid ++ post) pre.length (pre ++ v :: mid ++ post) := by
        have : (pre ++ u :: mid ++ post).set pre.length v = pre ++ v :: mid ++ post := by
          rw [List.append_assoc, List.set_append_right _ _ (by omega)]; simp
        rw [← this]; exact .gen (by simp)
      refine .cons (h1 v (List.mem_cons_self ..)) hset ?_
      have := ih (pre ++ [v]) mid post (fun x hx => h1 x (List.mem_cons_of_mem _ hx)) (by simpa using hl)
      simpa using this

theorem flat_set (h : ∀ x, (row x).length = s) (h1 : ∀ x, ∀ v ∈ row x, oneC v = true) (l : List β) (sp : List Value) (i : Nat) (hi : i < l.length) (x : β) : SetRow (row x) (l.flatMap row ++ sp) (0 + i * s) ((l.set i x).flatMap row ++ sp) := by
  have e1 : l.flatMap row ++ sp = (l.take i).flatMap row ++ row l[i] ++ ((l.drop (i + 1)).flatMap row ++ sp) := by
    have hl : l = l.take i ++ l[i] :: l.drop (i + 1) := by rw [← List.drop_eq_getElem_cons hi, List.take_append_drop]
    have : l.flatMap row = (l.take i ++ l[i] :: l.drop (i + 1)).flatMap row := by rw [← hl]
    rw [this, List.flatMap_append, List.flatMap_cons]; simp only [List.append_assoc]
  have e2 : (l.set i x).flatMap row ++ sp = (l.take i).flatMap row ++ row x ++ ((l.drop (i + 1)).flatMap row ++ sp) := by
    rw [List.set_eq_take_append_cons_drop, if_pos hi]; simp
  have e3 : ((l.take i).flatMap row).length = 0 + i * s := by rw [flat_length row s h, List.length_take, Nat.min_eq_left (by omega)]; omega
  rw [e1, e2, ← e3]
  exact setRow_gen _ _ _ _ (h1 x) (by rw [h, h])
end
end Go.Lg
namespace Go.Lg
section
variable {X : Cx} {L : Env} {ds : List Deferred} {C : Chunks} {k : List Item}
/-- what is left is proved once, from every state s that Φ lets in -/
theorem G.join {S : Type} {c : Item} (LS : S → Env) (CS : S → Chunks) (Φ : S → Prop) (hk : ∀ s, Φ s → G X k (LS s) ds (CS s)) (h : (∀ s, Φ s → G X k (LS s) ds (CS s)) → G X (c :: k) L ds C) : G X (c :: k) L ds C := h hk
end
/-- what lies behind the first ones -/
theorem Split.tail : ∀ (R A : Chunks), Split A (R ++ A) R := by
  intro R A
  induction A generalizing R with
  | nil => rw [List.append_nil]; exact .nil
  | cons x A ih =>
    refine .cons (C1 := R ++ A) ?_ (ih R)
    clear ih
    induction R with
    | nil => exact .head
    | cons y R ih => exact .tail ih
theorem Split.split1 {a : Nat × Obj} {A : Chunks} : Split A (a :: A) [a] := Split.tail [a] A
theorem Split.split2 {a b : Nat × Obj} {A : Chunks} : Split A (a :: b :: A) [a, b] := Split.tail [a, b] A
theorem Split.split3 {a b c : Nat × Obj} {A : Chunks} : Split A (a :: b :: c :: A) [a, b, c] := Split.tail [a, b, c] A
end Go.Lg
namespace Go.Lg
section
variable {X : Cx} {L : Env} {ds : List Deferred} {C : Chunks} {k : List Item}
/-- likewise behind two statements -/
theorem G.join2 {S : Type} {c : Item} {x y : Code} (LS : S → Env) (CS : S → Chunks) (Φ : S → Prop) (hk : ∀ s, Φ s → G X (.code y :: k) (LS s) ds (CS s)) (h : (∀ s, Φ s → G X (.code y :: k) (LS s) ds (CS s)) → G X (c :: .code (.seq x y) :: k) L ds C) : G X (c :: .code (.seq x y) :: k) L ds C := h hk
theorem G.joinB {S : Type} {c c2 : Item} (LS : S → Env) (CS : S → Chunks) (Φ : S → Prop) (hk : ∀ s, Φ s → G X k (LS s) ds (CS s)) (h : (∀ s, Φ s → G X k (LS s) ds (CS s)) → G X (c :: c2 :: k) L ds C) : G X (c :: c2 :: k) L ds C := h hk
/-- the blocks in another order -/
theorem G.reord {A R C' : Chunks} (hs : Split A C R) (hA : A ++ R = C') (h : G X k L ds C') : G X k L ds C := by
  subst hA; exact h.perm hs.perm
theorem GP.reord {N : Nat} {ops : Array Oper} {cl : List Cls} {p : Plan} {A R C' : Chunks} (hs : Split A C R) (hA : A ++ R = C') (h : GP X N ops cl p L ds C' k) : GP X N ops cl p L ds C k := by
  subst hA; exact h.perm hs.perm
theorem wrc_i64 {n r : Int} (h : n = r) (h1 : -9223372036854775808 ≤ n) (h2 : n ≤ 9223372036854775807) : IntKind.i64.wrap n = r := by rw [wr_i64 h1 h2, h]
theorem wrc_u64 {n r : Int} (h : n = r) (h1 : 0 ≤ n) (h2 : n ≤ 18446744073709551615) : IntKind.u64.wrap n = r := by rw [wr_u64 h1 h2, h]
end
end Go.Lg
namespace Go.Lg
theorem flat_get {β : Type} (row : β → List Value) (s : Nat) (h : ∀ x, (row x).length = s) (l : List β) (j : Nat) (hj : j < l.length) (i : Nat) (v : Value) (hv : (row l[j])[i]? = some v) : (l.flatMap row)[j * s + i]? = some v := by
  have h1 := flat_drop row s h l [] j (by omega)
  rw [List.append_nil, List.append_nil, List.drop_eq_getElem_cons hj, List.flatMap_cons] at h1
  rw [← List.getElem?_drop, h1, List.getElem?_append_left (List.getElem?_eq_some_iff.1 hv).1]
  exact hv
end Go.Lg
