/- Part 7 of a small program logic: appending lists; nil pointers; max and min. Nothing is claimed of the program here. -/
import Derived.Test.YtcgenmfnlocbbaaDoorL6
namespace Go.Lg
section
variable {X : Cx} {L L' : Env} {ds : List Deferred} {C C' : Chunks} {N : Nat} {κ : Value → Chunks → Prop} {x y z : Operand} {u v : Value} {n m : Int} {kd : IntKind} {op : Op} {c : Cls}

theorem Does.perm (h : Does X N op .gen L ds C fun v C' => ∃ C2, C2.Perm C' ∧ κ v C2) : Does X N op .gen L ds C κ := by
  intro o ho a w hs hN
  refine opS_mono (h o ho a w hs hN) ?_
  rintro v w' ⟨h1, C1, ⟨C2, h2, h3⟩, h4⟩
  exact ⟨h1, C2, h3, h4.perm h2⟩

/-- a call whose blocks stand anywhere -/
theorem Does.callP {args : Array Operand} {ats : Array TypeId} {g : FuncId} {vs : List Value} {pre : World → Prop} (Cl Ci : Chunks) {κ' : Value → Chunks → Prop}
    (ha : Evs L args.toList vs) (hg : callable X.P g = true) (hC : (Cl ++ Ci).Perm C) (ct : Ct X.P g vs.toArray pre Ci κ')
    (hp : ∀ w, St X.w0 X.B0 (Cl ++ Ci) w → pre w) (hk : ∀ v C', κ' v C' → ∃ C2, C2.Perm (Cl ++ C') ∧ κ v C2) : Does X N (.call ⟨.value (.func g), args, ats⟩) .gen L ds C κ := by
  intro o ho a w hs hN
  exact Does.perm (Does.callF Cl Ci (κ := fun v C' => ∃ C2, C2.Perm C' ∧ κ v C2) ha hg rfl ct hp hk) o ho a w (hs.with (hs.st.perm hC)) hN
/-- a call that owns nothing -/
theorem Does.callN {args : Array Operand} {ats : Array TypeId} {g : FuncId} {vs : List Value} {pre : World → Prop} {κ' : Value → Chunks → Prop}
    (ha : Evs L args.toList vs) (hg : callable X.P g = true) (ct : Ct X.P g vs.toArray pre [] κ')
    (hp : ∀ w, St X.w0 X.B0 C w → pre w) (hk : ∀ v C', κ' v C' → κ v (C ++ C')) : Does X N (.call ⟨.value (.func g), args, ats⟩) .gen L ds C κ :=
  Does.callF C [] ha hg (List.append_nil C).symm ct hp hk

/-- append of a list's cells onto a slice that is owned: what comes is owned again -/
theorem Does.appendL {β : Type} {row : β → List Value} {T e sz by_ mc : Nat} {l xs : List β} {ad2 : Option Addr} {zs : List Value} {sv : Value} (Cl Cn Cr : Chunks)
    (hx : ev L x = some sv) (hy : ev L y = some (.slice ad2 xs.length mc)) (hT : sliceInfo X.P T = some (e, sz, by_)) (hz : zeroL X.P e = some zs) (hC : C = Cl ++ (Cn ++ Cr)) (ho : Owns e sz sv l.length (l.flatMap row) Cn [])
    (hxs : xs ≠ [] → ∃ xb xo, ad2 = some ⟨xb, xo, none⟩ ∧ RowIn X C xb xo (xs.flatMap row)) (hrow : ∀ x, (row x).length = sz) (h1 : ∀ x, ∀ v ∈ row x, oneC v = true) (hzs : zs.length = sz) (hb0 : by_ ≠ 0)
    (hroom : (2 * (l.length + xs.length) + 192) * by_ ≤ 281474976710656)
    (hk : ∀ sv' Cn', Owns e sz sv' (l ++ xs).length ((l ++ xs).flatMap row) Cn' [] → κ sv' (Cl ++ (Cn' ++ Cr))) :
    Does X N (.call ⟨.builtin .append, #[x, y], #[T, T]⟩) .gen L ds C κ := by
  by_cases hne : xs = []
  · subst hne
    obtain ⟨ad, cap, rfl, hcap⟩ := ho.form
    refine Does.append0 (zs := zs) (mc := mc) (ad2 := ad2) hx hy hT hcap ?_
    rw [hC]
    exact hk _ _ (by simpa using ho)
  · obtain ⟨xb, xo, rfl, hr⟩ := hxs hne
    have hpos : 1 ≤ xs.length := by cases xs with | nil => exact absurd rfl hne | cons _ _ => simp
    have ho2 := ho.frame Cl Cr
    rw [← hC] at ho2
    refine Does.perm (Does.append (m := xs.length) (mc := mc) hx hy hT hz ho2 hr (flat_length row sz hrow xs) (fun v hv => ?_) hpos hzs hb0 hroom fun rb rcap sp hc hsp => ?_)
    · obtain ⟨b, hb, hv⟩ := List.mem_flatMap.1 hv
      exact h1 b v hv
    · refine ⟨Cl ++ ([(rb, cel e ((l ++ xs).flatMap row ++ sp))] ++ Cr), ?_, hk _ _ ?_⟩
      · rw [List.flatMap_append]
        simp only [List.append_assoc, List.cons_append, List.nil_append]
        exact List.perm_middle
      · rw [List.length_append]
        exact .blk .head (by rw [flat_length row sz hrow, List.length_append]) hsp hc

/-- likewise: a list's cells out of nothing -/
theorem RowIn.nilIff {b o : Nat} : RowIn X C b o [] := fun w hs i v hi => by simp at hi

theorem run_eqIn_ptr {P : Program} {T d e : Nat} {a : Addr} (hT : P.underlying T = some (.pointer e)) (w : World) : (Op.equalIn (d + 1) T (.pointer (some a)) (.pointer none)).run P w = .ok false w := by
  simp only [Op.equalIn, Sem.run_bind, run_ul hT, Result.andThen]
  rfl
theorem Does.eqlNil {T T' e : TypeId} {a : Addr} {t : Bool} (hx : ev L x = some (.pointer (some a))) (hy : ev L y = some (.pointer none)) (hT : X.P.underlying T = some (.pointer e)) (hg : X.P.eqGuardType X.P.depth T = false) (ht : false = t) (hk : κ (.bool t) C) : Does X N (.binOp .eql T x y T') .loc L ds C κ :=
  .of_run (fun o ho ac w hs w' => by
    have h1 : binOp .eql T (.pointer (some a)) (.pointer none) = (do pure (.bool (← Op.equal T (.pointer (some a)) (.pointer none))) : Sem Value) := rfl
    unfold execOp; rw [ho]
    simp only [hs.ev hx, hs.ev hy, eqGuard, h1]
    subst ht
    have h2 := run_eqIn_ptr (P := X.P) (d := 9999) (a := a) hT
    have h3 : ∀ w, (Op.equal T (.pointer (some a)) (.pointer none)).run X.P w = .ok false w := h2
    simp [h3]) hk

theorem Does.max {T1 T2 : TypeId} {r : Int} (hx : ev L x = some (.int kd n)) (hy : ev L y = some (.int kd m)) (hr : (if m > n then m else n) = r) (hk : κ (.int kd r) C) : Does X N (.call ⟨.builtin .max, #[x, y], #[T1, T2]⟩) .loc L ds C κ :=
  .of_run (fun o ho a w hs w' => by
    unfold execOp; rw [ho]
    simp [hs.ev hx, hs.ev hy, resolve, invoke, builtin, Builtin.max_, Builtin.max2, hr]) hk
theorem Does.min {T1 T2 : TypeId} {r : Int} (hx : ev L x = some (.int kd n)) (hy : ev L y = some (.int kd m)) (hr : (if m < n then m else n) = r) (hk : κ (.int kd r) C) : Does X N (.call ⟨.builtin .min, #[x, y], #[T1, T2]⟩) .loc L ds C κ :=
  .of_run (fun o ho a w hs w' => by
    unfold execOp; rw [ho]
    simp [hs.ev hx, hs.ev hy, resolve, invoke, builtin, Builtin.min_, Builtin.min2, hr]) hk
end
theorem wrap_i64_add (a b : Int) : IntKind.i64.wrap (IntKind.i64.wrap a + b) = IntKind.i64.wrap (a + b) := by
  have hw : ∀ n, IntKind.i64.wrap n = if n % 18446744073709551616 ≥ 9223372036854775808 then n % 18446744073709551616 - 18446744073709551616 else n % 18446744073709551616 := by
    intro n; simp [IntKind.wrap, IntKind.signed, IntKind.bits]
  have h : (IntKind.i64.wrap a + b) % 18446744073709551616 = (a + b) % 18446744073709551616 := by
    rw [hw a]; split <;> omega
  rw [hw (_ + b), hw (a + b), h]
end Go.Lg
