/- What the reading of an argument, and of the strokes' variable, says of memory. Nothing is claimed of a law here. -/
import Derived.Test.YtcgenmfnlocbbaaDoorRows
import Derived.Test.YtcgenmfnlocbbaaDoorB2
import Derived.Lib.LaidTab
namespace Go.Proofs.YtcgenmfnlocbbaaDoor.T
open Go.Lg Go.RowKit
section
variable {H : Type} {enc : TypeId × Value → H} {P : Program} {w : World} {base : Nat} {sp : Nat → Bool} {hd : Bool}
theorem bulk_one {H : Type} (d : DataW H) : 1 ≤ Rows.uptoBulk d := by
  cases d with
  | lit l => cases l <;> simp [Rows.uptoBulk]
  | nil => simp [Rows.uptoBulk]
  | ptr d => simp [Rows.uptoBulk]
  | slice elems spare => simp [Rows.uptoBulk]
  | agg parts => simp [Rows.uptoBulk]
  | iface t d => simp [Rows.uptoBulk]
  | map entries => simp [Rows.uptoBulk]
  | held h => simp [Rows.uptoBulk]

theorem cells_get {a : Addr} {n : Nat} {cs : List Value} (h : w.cells? base a n = some cs) : cs.length = n ∧ ∀ (i : Nat) (v : Value), cs[i]? = some v → w.cell? (a.add i) = some v := by
  unfold World.cells? at h
  split at h
  · obtain ⟨h1, h2⟩ := mapM_get h
    refine ⟨by simpa using h1, fun i v hv => ?_⟩
    have hi : i < n := by have := (List.getElem?_eq_some_iff.1 hv).1; simp at h1; omega
    exact h2 i i v (by simp [hi]) hv
  · cases h

theorem flat_inv {β : Type} (row : β → List Value) (s : Nat) (hs : 0 < s) (h : ∀ x, (row x).length = s) (l : List β) (i : Nat) (v : Value) (hv : (l.flatMap row)[i]? = some v) :
    ∃ j r, ∃ hj : j < l.length, i = j * s + r ∧ (row l[j])[r]? = some v := by
  have hi := (List.getElem?_eq_some_iff.1 hv).1
  rw [flat_length row s h] at hi
  have hj : i / s < l.length := Nat.div_lt_of_lt_mul (by rw [Nat.mul_comm]; exact hi)
  have hr : i % s < s := Nat.mod_lt _ hs
  have he : i = i / s * s + i % s := by rw [Nat.mul_comm]; exact (Nat.div_add_mod i s).symm
  refine ⟨i / s, i % s, hj, he, ?_⟩
  have h1 : (row l[i / s])[i % s]? = some ((row l[i / s])[i % s]'(by rw [h]; exact hr)) := List.getElem?_eq_getElem _
  have h2 := flat_get row s h l (i / s) hj (i % s) _ h1
  rw [← he, hv] at h2
  rw [h1, ← h2]

theorem sum_ones {β : Type} (l : List β) : (l.map fun _ => 1).sum = l.length := by induction l <;> simp_all [Nat.add_comm]

theorem inv_list {β : Type} {row : β → List Value} {Q : β → Prop} {f : β → Nat} {s e t n : Nat} {cs : List Value} {x : DataW H × List MemPlace} (hu : P.underlying t = some (.slice e)) (hs : P.cellsOf e = s) (hs0 : 0 < s) (hrow : ∀ y, (row y).length = s)
    (hel : ∀ n cs x, cs.length = s → DataW.trod enc P w base sp hd n e cs = some x → ∃ y, cs = row y ∧ Q y ∧ f y ≤ Rows.uptoBulk x.1) (h : DataW.trod enc P w base sp hd n t cs = some x) :
    ∃ (l : List β) (ad : Option Addr) (cap b o : Nat), cs = [.slice ad l.length cap] ∧ l.length ≤ cap ∧ (l ≠ [] → ad = some ⟨b, o, none⟩) ∧ (∀ i v, (l.flatMap row)[i]? = some v → w.cell? ⟨b, o + i, none⟩ = some v) ∧ (∀ y ∈ l, Q y) ∧ (l.map f).sum + 1 ≤ Rows.uptoBulk x.1 := by
  rcases inv_slice hu h with ⟨rfl, rfl⟩ | ⟨n', a, len, cap, elems, rest, rfl, _, hcap, _, hm, _, rfl⟩
  · exact ⟨[], none, 0, 0, 0, rfl, Nat.le_refl _, fun h => absurd rfl h, fun i v hv => by simp at hv, fun y hy => by simp at hy, by simp [Rows.uptoBulk]⟩
  · have key : ∀ (is : List Nat) (elems : List (DataW H × List MemPlace)), (is.mapM fun i => (w.cells? base (a.add (i * P.cellsOf e)) (P.cellsOf e)).bind (DataW.trod enc P w base sp hd n' e)) = some elems →
        ∃ l : List β, l.length = is.length ∧ (∀ (j i : Nat) (y : β), is[j]? = some i → l[j]? = some y → w.cells? base (a.add (i * s)) s = some (row y)) ∧ (∀ y ∈ l, Q y) ∧ (l.map f).sum ≤ Rows.uptoBulkAll (elems.map (·.1)) := by
      intro is
      induction is with
      | nil => intro elems h; exact ⟨[], rfl, fun j i y hj => by simp at hj, fun y hy => by simp at hy, by simp⟩
      | cons i is ih =>
        intro elems h
        simp only [List.mapM_cons, Option.bind_eq_bind, Option.bind_eq_some_iff, Option.pure_def, Option.some.injEq] at h
        obtain ⟨x, ⟨cs, hcs, hx⟩, r', hr', rfl⟩ := h
        rw [hs] at hcs
        obtain ⟨y, rfl, hq, hf⟩ := hel _ _ _ (cells_get hcs).1 hx
        obtain ⟨l, h1, h2, h3, h4⟩ := ih _ hr'
        refine ⟨y :: l, by simp [h1], ?_, ?_, by simp [Rows.uptoBulkAll]; omega⟩
        · intro j i' y' hj hy
          cases j with
          | zero => simp at hj hy; subst hj hy; exact hcs
          | succ j => exact h2 j i' y' (by simpa using hj) (by simpa using hy)
        · intro z hz
          rcases List.mem_cons.1 hz with rfl | hz
          · exact hq
          · exact h3 z hz
    obtain ⟨l, h1, h2, h3, h4⟩ := key _ _ hm
    simp only [List.length_range] at h1
    subst h1
    have hcell : ∀ (j r : Nat) (hj : j < l.length) (v : Value), (row l[j])[r]? = some v → w.cell? ((a.add (j * s)).add r) = some v := by
      intro j r hj v hv
      have := h2 j j l[j] (by simp [hj]) (by simp)
      exact (cells_get this).2 r v hv
    have hspot : l ≠ [] → a = ⟨a.block, a.off, none⟩ := by
      intro hne
      have hpos : 0 < l.length := List.length_pos_iff.2 hne
      have h0 := hcell 0 0 hpos ((row l[0])[0]'(by rw [hrow]; exact hs0)) (by simp)
      have ea : (a.add (0 * s)).add 0 = a := by simp [Addr.add]
      rw [ea] at h0
      unfold World.cell? at h0
      obtain ⟨ab, ao, asp⟩ := a
      cases asp with
      | none => rfl
      | some q => simp at h0; split at h0 <;> simp at h0
    refine ⟨l, some a, cap, a.block, a.off, rfl, hcap, fun hne => congrArg some (hspot hne), ?_, h3, ?_⟩
    · intro i v hv
      obtain ⟨j, r, hj, rfl, hv2⟩ := flat_inv row s hs0 hrow l i v hv
      have hne : l ≠ [] := by rintro rfl; simp at hj
      have := hcell j r hj v hv2
      rw [hspot hne, add_at, add_at] at this
      rw [← Nat.add_assoc]; exact this
    · simp only [Rows.uptoBulk]; omega



theorem inv_bytes {n : Nat} {cs : List Value} {x : DataW H × List MemPlace} (h : DataW.trod enc Tryd.prog w base sp hd n 30 cs = some x) :
    ∃ (l : List UInt8) (ad : Option Addr) (cap b o : Nat), cs = [.slice ad l.length cap] ∧ l.length ≤ cap ∧ (l ≠ [] → ad = some ⟨b, o, none⟩) ∧ AtU w b o l ∧ l.length + 1 ≤ Rows.uptoBulk x.1 := by
  obtain ⟨l, ad, cap, b, o, h1, h2, h3, h4, h5, h6⟩ := inv_list (row := fun x : UInt8 => [rU x]) (Q := fun _ => True) (f := fun _ => 1) (s := 1) (e := 5) Tryd.underlying30 (by kernel_rfl) (by omega) (fun _ => rfl)
    (fun n cs x hl hx => by
      obtain ⟨m, rfl, hw, rfl⟩ := inv_int (k := .u8) Tryd.underlying5 hx
      have hm : 0 ≤ m ∧ m ≤ 255 := by
        have h1 : IntKind.u8.min ≤ m ∧ m ≤ IntKind.u8.max := by simpa [Lit.wf] using hw
        exact h1
      refine ⟨UInt8.ofNat m.toNat, ?_, trivial, bulk_one _⟩
      simp only [rU, UInt8.toNat_ofNat']
      congr 2
      omega) h
  exact ⟨l, ad, cap, b, o, h1, h2, h3, h4, by rw [sum_ones] at h6; exact h6⟩
theorem inv_pair {n : Nat} {cs : List Value} {a b : Int} {p : List MemPlace} (h : DataW.trod enc Tryd.prog w base sp hd n 44 cs = some (.agg [.lit (.int .i32 a), .lit (.int .u8 b)], p)) : cs = [.int .i32 a, .int .u8 b] := by
  obtain ⟨n', hl, xs, hm, hx⟩ := inv_struct Tryd.underlying44 h
  have hc44 : Tryd.prog.cellsOf 44 = 2 := by kernel_rfl
  have hc21 : Tryd.prog.cellsOf 21 = 1 := by kernel_rfl
  have hc5 : Tryd.prog.cellsOf 5 = 1 := by kernel_rfl
  rw [hc44] at hl
  match cs, hl with
  | [c0, c1], _ =>
    simp only [List.mapM_cons, List.mapM_nil, Option.bind_eq_bind, Option.bind_eq_some_iff, Option.pure_def, Option.some.injEq, hc21, hc5, List.drop_zero, List.take_succ_cons, List.take_zero, List.drop_succ_cons] at hm
    obtain ⟨x0, hx0, r1, ⟨x1, hx1, r2, rfl, rfl⟩, rfl⟩ := hm
    obtain ⟨m0, e0, -, rfl⟩ := inv_int (k := .i32) Tryd.underlying21 hx0
    obtain ⟨m1, e1, -, rfl⟩ := inv_int (k := .u8) Tryd.underlying5 hx1
    simp only [List.map_cons, List.map_nil, Prod.mk.injEq, DataW.agg.injEq, List.cons.injEq, DataW.lit.injEq, Lit.int.injEq, true_and, and_true] at hx
    simp only [List.cons.injEq, and_true] at e0 e1
    rw [e0, e1, hx.1.1, hx.1.2]
theorem glob_of {W : World} (h : laidMet Tryd.prog Rows.consoleQuotesRow.laid W) : GlobW W := by
  obtain ⟨ps, ⟨g', t', cs, fuel, p, q, hg', ht', hvar, hd, _, _⟩, _⟩ := h
  have hg : Tryd.prog.globalNamed "witness/console.strokes" = some 0 := by kernel_rfl
  have hty : (Tryd.prog.globals[0]?).map (·.type) = some 45 := by kernel_rfl
  obtain rfl := Option.some.inj (hg.symm.trans hg')
  obtain rfl := Option.some.inj (hty.symm.trans ht')
  have hc44 : Tryd.prog.cellsOf 44 = 2 := by kernel_rfl
  have hc45 : Tryd.prog.cellsOf 45 = 8 := by kernel_rfl
  have hc21 : Tryd.prog.cellsOf 21 = 1 := by kernel_rfl
  have hc5 : Tryd.prog.cellsOf 5 = 1 := by kernel_rfl
  have key : cs.toList = ([.int .i32 92, .int .u8 92, .int .i32 34, .int .u8 34, .int .i32 110, .int .u8 10, .int .i32 116, .int .u8 9] : List Value) := by
    clear hvar
    generalize cs.toList = cl at hd ⊢
    cases fuel with
    | zero => simp [DataW.trod] at hd
    | succ fuel =>
      simp only [DataW.trod, Tryd.underlying45, hc44, hc45] at hd
      split at hd
      · rename_i hl
        obtain ⟨xs, hm, hx⟩ := Option.map_eq_some_iff.1 hd
        have hx1 := congrArg Prod.fst hx
        match cl, hl with
        | [c0, c1, c2, c3, c4, c5, c6, c7], _ =>
          rw [show List.range 4 = [0, 1, 2, 3] from rfl] at hm
          simp only [List.mapM_cons, List.mapM_nil, Option.bind_eq_bind, Option.bind_eq_some_iff, Option.pure_def, Option.some.injEq] at hm
          obtain ⟨x0, hx0, r1, ⟨x1, hx1', r2, ⟨x2, hx2, r3, ⟨x3, hx3, r4, rfl, rfl⟩, rfl⟩, rfl⟩, rfl⟩ := hm
          simp only [Rows.laid_witness_console_strokes, List.map_cons, List.map_nil, DataW.agg.injEq, List.cons.injEq, and_true] at hx1
          have e0 := hx1.1
          have e1 := hx1.2.1
          have e2 := hx1.2.2.1
          have e3 := hx1.2.2.2
          have q0 := inv_pair (a := 92) (b := 92) (p := x0.2) (hx0.trans (congrArg some (Prod.ext e0 rfl)))
          have q1 := inv_pair (a := 34) (b := 34) (p := x1.2) (hx1'.trans (congrArg some (Prod.ext e1 rfl)))
          have q2 := inv_pair (a := 110) (b := 10) (p := x2.2) (hx2.trans (congrArg some (Prod.ext e2 rfl)))
          have q3 := inv_pair (a := 116) (b := 9) (p := x3.2) (hx3.trans (congrArg some (Prod.ext e3 rfl)))
          simp at q0 q1 q2 q3
          obtain ⟨rfl, rfl⟩ := q0
          obtain ⟨rfl, rfl⟩ := q1
          obtain ⟨rfl, rfl⟩ := q2
          obtain ⟨rfl, rfl⟩ := q3
          rfl
      · cases hd
  intro i v hv
  have := World.var?_cell hg hvar i
  rw [← Array.getElem?_toList, key] at this
  rw [Nat.zero_add, this]
  exact hv
end
/-- string(bytes) of a list that lies in memory -/
theorem Does.strG {X : Cx} {L : Env} {ds : List Deferred} {C : Chunks} {N : Nat} {κ : Value → Chunks → Prop} {x : Operand} {S T e : TypeId} {l : List UInt8} {ad : Option Addr} {bb bo cap : Nat} (hx : ev L x = some (.slice ad l.length cap)) (hS : X.P.underlying S = some (.slice e)) (he : X.P.underlying e = some (.int .u8)) (hT : X.P.underlying T = some .string) (had : l ≠ [] → ad = some ⟨bb, bo, none⟩) (hr : l ≠ [] → RowIn X C bb bo (l.flatMap rowU)) (hk : κ (str l) C) : Does X N (.convert S T x) .gen L ds C κ := by
  by_cases hne : l = []
  · subst hne
    cases ad with
    | none => exact Does.strOfNil hx hS he hT hk
    | some a =>
      intro ope ho ac w hs hN
      have hrun : (execOp ac.eval ope).run X.P w = .ok (.value (str [])) w := by
        unfold execOp; rw [ho]
        have h1 := run_convert_bytes_string (P := X.P) w S T e (some a) 0 cap hS he hT
        have h2 := run_bytesToString (P := X.P) w a 0 cap [] rfl
        rw [h2] at h1
        simp [hs.ev hx, h1]
        rfl
      simp only [opS, hrun]
      exact ⟨hN, _, hk, hs.st⟩
  · obtain rfl := had hne
    exact Does.strOfN hx hS he hT (hr hne) hk
end Go.Proofs.YtcgenmfnlocbbaaDoor.T
