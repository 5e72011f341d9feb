/- What the reading of an argument says of memory: lists of ints, of things, of turns, and how long they are together. Nothing is claimed of a law here. -/
import Derived.Test.YtcgenmfnlocbbaaRows
import Derived.Test.YtcgenmfnlocbbaaH5
namespace Go.Proofs.Ytcgenmfnlocbbaa.T
open Go.Lg Go.Hp Go.RowKit
section
variable {H : Type} {enc : TypeId × Value → H} {P : Program} {w : World} {base : Nat} {sp : Nat → Bool} {hd : Bool}

theorem bulk_one {H : Type} (d : DataW H) : 1 ≤ Rows.uptoBulk d := by
  cases d with
  | lit l => cases l <;> simp [Rows.uptoBulk]
  | nil => simp [Rows.uptoBulk]
  | ptr d => simp [Rows.uptoBulk]
  | slice elems spare => simp [Rows.uptoBulk]
  | agg parts => simp [Rows.uptoBulk]
  | iface t d => simp [Rows.uptoBulk]
  | map entries => simp [Rows.uptoBulk]
  | held h => simp [Rows.uptoBulk]

theorem cells_get {a : Addr} {n : Nat} {cs : List Value} (h : w.cells? base a n = some cs) : cs.length = n ∧ ∀ (i : Nat) (v : Value), cs[i]? = some v → w.cell? (a.add i) = some v := by
  unfold World.cells? at h
  split at h
  · obtain ⟨h1, h2⟩ := mapM_get h
    refine ⟨by simpa using h1, fun i v hv => ?_⟩
    have hi : i < n := by have := (List.getElem?_eq_some_iff.1 hv).1; simp at h1; omega
    exact h2 i i v (by simp [hi]) hv
  · cases h

theorem flat_inv {β : Type} (row : β → List Value) (s : Nat) (hs : 0 < s) (h : ∀ x, (row x).length = s) (l : List β) (i : Nat) (v : Value) (hv : (l.flatMap row)[i]? = some v) :
    ∃ j r, ∃ hj : j < l.length, i = j * s + r ∧ (row l[j])[r]? = some v := by
  have hi := (List.getElem?_eq_some_iff.1 hv).1
  rw [flat_length row s h] at hi
  have hj : i / s < l.length := Nat.div_lt_of_lt_mul (by rw [Nat.mul_comm]; exact hi)
  have hr : i % s < s := Nat.mod_lt _ hs
  have he : i = i / s * s + i % s := by rw [Nat.mul_comm]; exact (Nat.div_add_mod i s).symm
  refine ⟨i / s, i % s, hj, he, ?_⟩
  have h1 : (row l[i / s])[i % s]? = some ((row l[i / s])[i % s]'(by rw [h]; exact hr)) := List.getElem?_eq_getElem _
  have h2 := flat_get row s h l (i / s) hj (i % s) _ h1
  rw [← he, hv] at h2
  rw [h1, ← h2]

theorem sum_ones {β : Type} (l : List β) : (l.map fun _ => 1).sum = l.length := by induction l <;> simp_all [Nat.add_comm]

theorem inv_list {β : Type} {row : β → List Value} {Q : β → Prop} {f : β → Nat} {s e t n : Nat} {cs : List Value} {x : DataW H × List MemPlace} (hu : P.underlying t = some (.slice e)) (hs : P.cellsOf e = s) (hs0 : 0 < s) (hrow : ∀ y, (row y).length = s)
    (hel : ∀ n cs x, cs.length = s → DataW.trod enc P w base sp hd n e cs = some x → ∃ y, cs = row y ∧ Q y ∧ f y ≤ Rows.uptoBulk x.1) (h : DataW.trod enc P w base sp hd n t cs = some x) :
    ∃ (l : List β) (ad : Option Addr) (cap b o : Nat), cs = [.slice ad l.length cap] ∧ l.length ≤ cap ∧ (l ≠ [] → ad = some ⟨b, o, none⟩) ∧ (∀ i v, (l.flatMap row)[i]? = some v → w.cell? ⟨b, o + i, none⟩ = some v) ∧ (∀ y ∈ l, Q y) ∧ (l.map f).sum + 1 ≤ Rows.uptoBulk x.1 := by
  rcases inv_slice hu h with ⟨rfl, rfl⟩ | ⟨n', a, len, cap, elems, rest, rfl, _, hcap, _, hm, _, rfl⟩
  · exact ⟨[], none, 0, 0, 0, rfl, Nat.le_refl _, fun h => absurd rfl h, fun i v hv => by simp at hv, fun y hy => by simp at hy, by simp [Rows.uptoBulk]⟩
  · have key : ∀ (is : List Nat) (elems : List (DataW H × List MemPlace)), (is.mapM fun i => (w.cells? base (a.add (i * P.cellsOf e)) (P.cellsOf e)).bind (DataW.trod enc P w base sp hd n' e)) = some elems →
        ∃ l : List β, l.length = is.length ∧ (∀ (j i : Nat) (y : β), is[j]? = some i → l[j]? = some y → w.cells? base (a.add (i * s)) s = some (row y)) ∧ (∀ y ∈ l, Q y) ∧ (l.map f).sum ≤ Rows.uptoBulkAll (elems.map (·.1)) := by
      intro is
      induction is with
      | nil => intro elems h; exact ⟨[], rfl, fun j i y hj => by simp at hj, fun y hy => by simp at hy, by simp⟩
      | cons i is ih =>
        intro elems h
        simp only [List.mapM_cons, Option.bind_eq_bind, Option.bind_eq_some_iff, Option.pure_def, Option.some.injEq] at h
        obtain ⟨x, ⟨cs, hcs, hx⟩, r', hr', rfl⟩ := h
        rw [hs] at hcs
        obtain ⟨y, rfl, hq, hf⟩ := hel _ _ _ (cells_get hcs).1 hx
        obtain ⟨l, h1, h2, h3, h4⟩ := ih _ hr'
        refine ⟨y :: l, by simp [h1], ?_, ?_, by simp [Rows.uptoBulkAll]; omega⟩
        · intro j i' y' hj hy
          cases j with
          | zero => simp at hj hy; subst hj hy; exact hcs
          | succ j => exact h2 j i' y' (by simpa using hj) (by simpa using hy)
        · intro z hz
          rcases List.mem_cons.1 hz with rfl | hz
          · exact hq
          · exact h3 z hz
    obtain ⟨l, h1, h2, h3, h4⟩ := key _ _ hm
    simp only [List.length_range] at h1
    subst h1
    have hcell : ∀ (j r : Nat) (hj : j < l.length) (v : Value), (row l[j])[r]? = some v → w.cell? ((a.add (j * s)).add r) = some v := by
      intro j r hj v hv
      have := h2 j j l[j] (by simp [hj]) (by simp)
      exact (cells_get this).2 r v hv
    have hspot : l ≠ [] → a = ⟨a.block, a.off, none⟩ := by
      intro hne
      have hpos : 0 < l.length := List.length_pos_iff.2 hne
      have h0 := hcell 0 0 hpos ((row l[0])[0]'(by rw [hrow]; exact hs0)) (by simp)
      have ea : (a.add (0 * s)).add 0 = a := by simp [Addr.add]
      rw [ea] at h0
      unfold World.cell? at h0
      obtain ⟨ab, ao, asp⟩ := a
      cases asp with
      | none => rfl
      | some q => simp at h0; split at h0 <;> simp at h0
    refine ⟨l, some a, cap, a.block, a.off, rfl, hcap, fun hne => congrArg some (hspot hne), ?_, h3, ?_⟩
    · intro i v hv
      obtain ⟨j, r, hj, rfl, hv2⟩ := flat_inv row s hs0 hrow l i v hv
      have hne : l ≠ [] := by rintro rfl; simp at hj
      have := hcell j r hj v hv2
      rw [hspot hne, add_at, add_at] at this
      rw [← Nat.add_assoc]; exact this
    · simp only [Rows.uptoBulk]; omega

theorem inv_ints {n : Nat} {cs : List Value} {x : DataW H × List MemPlace} (h : DataW.trod enc Try.prog w base sp hd n 48 cs = some x) :
    ∃ (l : List Int) (ad : Option Addr) (cap b o : Nat), cs = [.slice ad l.length cap] ∧ l.length ≤ cap ∧ (l ≠ [] → ad = some ⟨b, o, none⟩) ∧ At w b o (l.flatMap fun x => [.int .i64 x]) ∧ (∀ y ∈ l, (Lit.int .i64 y).wf = true) ∧ l.length + 1 ≤ Rows.uptoBulk x.1 := by
  obtain ⟨l, ad, cap, b, o, h1, h2, h3, h4, h5, h6⟩ := inv_list (row := fun x : Int => [Value.int .i64 x]) (Q := fun y => (Lit.int .i64 y).wf = true) (f := fun _ => 1) (s := 1) (e := 3) Try.underlying48 (by kernel_rfl) (by omega) (fun _ => rfl)
    (fun n cs x hl hx => by
      obtain ⟨m, rfl, hw, rfl⟩ := inv_int (k := .i64) Try.underlying3 hx
      exact ⟨m, rfl, hw, bulk_one _⟩) h
  exact ⟨l, ad, cap, b, o, h1, h2, h3, h4, h5, by rw [sum_ones] at h6; exact h6⟩

theorem inv_thing {n : Nat} {cs : List Value} {x : DataW H × List MemPlace} (hl : cs.length = 2) (h : DataW.trod enc Try.prog w base sp hd n 31 cs = some x) : ∃ y : Int × Int, cs = enc1 y := by
  obtain ⟨n', hl', xs, hm, -⟩ := inv_struct Try.underlying31 h
  obtain ⟨hx1, hx2⟩ := mapM_get hm
  have hxl : xs.length = 2 := hx1
  have h0 := hx2 0 _ (xs[0]'(by omega)) rfl (by simp [hxl])
  have h1 := hx2 1 _ (xs[1]'(by omega)) rfl (by simp [hxl])
  obtain ⟨c0, c1, rfl⟩ : ∃ c0 c1, cs = [c0, c1] := by
    match cs, hl with
    | [c0, c1], _ => exact ⟨_, _, rfl⟩
  obtain ⟨s, e0, -, -⟩ := inv_int (k := .i64) Try.underlying3 h0
  obtain ⟨r, e1, -, -⟩ := inv_int (k := .i64) Try.underlying3 h1
  have e0' : [c0] = [Value.int .i64 s] := e0
  have e1' : [c1] = [Value.int .i64 r] := e1
  simp only [List.cons.injEq, and_true] at e0' e1'
  subst e0' e1'
  exact ⟨(s, r), rfl⟩

theorem inv_things {n : Nat} {cs : List Value} {x : DataW H × List MemPlace} (h : DataW.trod enc Try.prog w base sp hd n 34 cs = some x) :
    ∃ (l : List (Int × Int)) (ad : Option Addr) (cap b o : Nat), cs = [.slice ad l.length cap] ∧ l.length ≤ cap ∧ (l ≠ [] → ad = some ⟨b, o, none⟩) ∧ At w b o (l.flatMap enc1) ∧ l.length + 1 ≤ Rows.uptoBulk x.1 := by
  obtain ⟨l, ad, cap, b, o, h1, h2, h3, h4, h5, h6⟩ := inv_list (row := enc1) (Q := fun _ => True) (f := fun _ => 1) (s := 2) (e := 31) Try.underlying34 (by kernel_rfl) (by omega) enc1_length
    (fun n cs x hl hx => by
      obtain ⟨y, rfl⟩ := inv_thing hl hx
      exact ⟨y, rfl, trivial, bulk_one _⟩) h
  exact ⟨l, ad, cap, b, o, h1, h2, h3, h4, by rw [sum_ones] at h6; exact h6⟩

/-- one turn of a script, and where its list lies -/
structure Tn where
  kind : Int
  which : Int
  ad : Option Addr
  cap : Nat
  b : Nat
  o : Nat
  l : List (Int × Int)
def rowT (t : Tn) : List Value := [.int .i64 t.kind, .int .i64 t.which, .slice t.ad t.l.length t.cap]
def Tn.ok (w : World) (t : Tn) : Prop := t.l.length ≤ t.cap ∧ (t.l ≠ [] → t.ad = some ⟨t.b, t.o, none⟩) ∧ At w t.b t.o (t.l.flatMap enc1)
theorem rowT_length (t : Tn) : (rowT t).length = 3 := rfl

theorem inv_turns {n : Nat} {cs : List Value} {x : DataW H × List MemPlace} (h : DataW.trod enc Try.prog w base sp hd n 27 cs = some x) :
    ∃ (l : List Tn) (ad : Option Addr) (cap b o : Nat), cs = [.slice ad l.length cap] ∧ l.length ≤ cap ∧ (l ≠ [] → ad = some ⟨b, o, none⟩) ∧ At w b o (l.flatMap rowT) ∧ (∀ t ∈ l, t.ok w) ∧ (l.map fun t => t.l.length + 1).sum + 1 ≤ Rows.uptoBulk x.1 := by
  refine inv_list (row := rowT) (Q := fun t => t.ok w) (f := fun t => t.l.length + 1) (s := 3) (e := 38) Try.underlying27 (by kernel_rfl) (by omega) rowT_length (fun n cs x hl hx => ?_) h
  obtain ⟨n', hl', xs, hm, rfl⟩ := inv_struct Try.underlying38 hx
  obtain ⟨hx1, hx2⟩ := mapM_get hm
  have hxl : xs.length = 3 := hx1
  have h0 := hx2 0 _ (xs[0]'(by omega)) rfl (by simp [hxl])
  have h1 := hx2 1 _ (xs[1]'(by omega)) rfl (by simp [hxl])
  have h2 := hx2 2 _ (xs[2]'(by omega)) rfl (by simp [hxl])
  obtain ⟨c0, c1, c2, rfl⟩ : ∃ c0 c1 c2, cs = [c0, c1, c2] := by
    match cs, hl with
    | [c0, c1, c2], _ => exact ⟨_, _, _, rfl⟩
  obtain ⟨s, e0, -, -⟩ := inv_int (k := .i64) Try.underlying3 h0
  obtain ⟨r, e1, -, -⟩ := inv_int (k := .i64) Try.underlying3 h1
  obtain ⟨l, ad, cap, b, o, e2, g1, g2, g3, g4⟩ := inv_things h2
  have e0' : [c0] = [Value.int .i64 s] := e0
  have e1' : [c1] = [Value.int .i64 r] := e1
  have e2' : [c2] = [Value.slice ad l.length cap] := e2
  simp only [List.cons.injEq, and_true] at e0' e1' e2'
  subst e0' e1' e2'
  refine ⟨⟨s, r, ad, cap, b, o, l⟩, rfl, ⟨g1, g2, g3⟩, ?_⟩
  obtain ⟨x0, x1, x2, rfl⟩ : ∃ x0 x1 x2, xs = [x0, x1, x2] := by
    match xs, hxl with
    | [x0, x1, x2], _ => exact ⟨_, _, _, rfl⟩
  have g4' : l.length + 1 ≤ Rows.uptoBulk x2.1 := g4
  simp [Rows.uptoBulk, Rows.uptoBulkAll]
  omega
end
end Go.Proofs.Ytcgenmfnlocbbaa.T
