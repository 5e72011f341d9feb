/- Part 9 of a small program logic: a loop that leaves marks of deferred calls; a result that lies in a cell. Nothing is claimed of the program here. -/
import Derived.Test.YtcgenmfnlocbbaaL8
namespace Go.Lg
section
variable {X : Cx} {L L' : Env} {ds : List Deferred} {C C' : Chunks} {N : Nat} {κ : Value → Chunks → Prop} {k : List Item}

/-- A loop whose rounds may add deferred calls. -/
theorem G.loopD {S : Type} {c : Code} (LS : S → Env) (DS : S → List Deferred) (CS : S → Chunks) (Φ : S → Prop) (μ : S → Nat) (s0 : S) (h0 : Φ s0) (hL : Covers L (LS s0)) (hD : DS s0 = ds) (hC : Split (CS s0) C C')
    (round : ∀ s, Φ s → (∀ s', Φ s' → μ s' < μ s → G X (.inLoop c :: k) (LS s') (DS s') (CS s')) → G X (.code c :: .inLoop c :: k) (LS s) (DS s) (CS s)) : G X (.code (.loop c) :: k) L ds C := by
  have key : ∀ n s, μ s = n → Φ s → G X (.code c :: .inLoop c :: k) (LS s) (DS s) (CS s) := by
    intro n
    induction n using Nat.strongRecOn with
    | _ n ih =>
      intro s hn hs
      exact round s hs fun s' hs' hlt => G.inLoop (ih (μ s') (hn ▸ hlt) s' rfl hs')
  subst hD
  exact G.loop1 fun a w hs => key _ s0 rfl h0 a w ((hs.weak hL.look).with (hs.st.sub hC))

theorem G.joinD {S : Type} {c : Item} (LS : S → Env) (DS : S → List Deferred) (CS : S → Chunks) (Φ : S → Prop) (hk : ∀ s, Φ s → G X k (LS s) (DS s) (CS s)) (h : (∀ s, Φ s → G X k (LS s) (DS s) (CS s)) → G X (c :: k) L ds C) : G X (c :: k) L ds C := h hk
theorem fin_retDC {P : Program} {f : FuncId} {n : Nat} {w0 : World} {B0 : List Nat} {fn : Func} {A A2 R R2 : Chunks} {v : Value} (Ds : List Nat) (hf : P.funcs[f]? = some fn)
    (hr : ∀ a w, Sat (cxF P f n w0 B0 κ) L (marks Ds) C a w → ∀ w', St w0 B0 A w' → (results fn a.tmps).run P w' = .ok v w') (hs : ((Ds.map fun D => (D, Obj.deferred (some []))) ++ A ++ R).Perm C) (hs2 : Split A2 A R2) (hk : κ v A2) : G (cxF P f n w0 B0 κ) (.code .ret :: k) L (marks Ds) C := by
  intro a w h cs
  have hst := (h.st.perm hs).left
  obtain ⟨w', h1, h2⟩ := out_marks (P := P) (fr := { at' (baseF f) a (.code .ret :: k) with mode := .returning }) Ds A w (by simp) hst
  have hstep : step P (lone (at' (baseF f) a (.code .ret :: k)) cs w) = .next (lone { at' (baseF f) a (.code .ret :: k) with mode := .returning } cs w) := step_lone_go (by simp [stepG, stepG.exec, at', baseF])
  refine ⟨{ at' (baseF f) a (.code .ret :: k) with mode := .returning, defers := [] }, w', ⟨v, A2, hk, h1.sub hs2, rfl, rfl, rfl, rfl, fn, hf, hr a w h w' h1⟩, .head hstep ?_⟩
  have h3 := h2 cs
  have hd : a.defers = marks Ds := h.defers
  rw [← hd] at h3
  exact h3
theorem rescF {P : Program} {fn : Func} {t T b o : Nat} {v : Value} {a : Act} {w w' : World} (h : fn.results = #[.cell t T]) (hs : Sat X L ds C a w) (hT : flatT P T = true) (ht : look L t = some (.pointer (some ⟨b, o, none⟩))) (hr : w'.cell? ⟨b, o, none⟩ = some v) :
    (results fn a.tmps).run P w' = .ok v w' := by
  have ht' := hs.knows _ _ ht
  simp [results, h, ht', asAddr, loadVar, flatT_spec hT, load, Sem.run, hr]
end
end Go.Lg
