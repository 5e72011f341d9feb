/- What HeapSorts, HeapWild and HeapFresh share: a list of booleans in memory of its own, things that bear their number, and who has left. Nothing is claimed of a law here. -/
import Derived.Test.YtcgenmfnlocbbaaHa
namespace Go.Proofs.Ytcgenmfnlocbbaa.T
open Go.Lg Go.Hp

theorem si67 : sliceInfo Try.prog 67 = some (4, 1, 1) := by kernel_rfl
theorem sl67 : sliceElem Try.prog 67 = some (4, 1) := by kernel_rfl
theorem is67 : isSlice Try.prog 67 = true := by kernel_rfl
theorem bz4 : zeroL Try.prog 4 = some [.bool false] := by kernel_rfl
theorem ft4 : flatT Try.prog 4 = true := by kernel_rfl
theorem sz4 : sizeT Try.prog 4 = some 1 := by kernel_rfl

def rowB (b : Bool) : List Value := [.bool b]
theorem rowB_length (b : Bool) : (rowB b).length = 1 := rfl
theorem rowB_one (b : Bool) : ∀ v ∈ rowB b, oneC v = true := by intro v hv; simp [rowB] at hv; rw [hv]; rfl
/-- a list of booleans in memory of its own -/
def BRep (g : List Bool) (sv : Value) (C : Chunks) : Prop := Owns 4 1 sv g.length (g.flatMap rowB) C []
theorem BRep.nil : BRep [] (.slice none 0 0) [] := Owns.nil
theorem BRep.form {g : List Bool} {sv : Value} {C : Chunks} (h : BRep g sv C) : ∃ ad cap, sv = .slice ad g.length cap := by
  unfold BRep at h
  generalize hn : g.length = n at h ⊢
  generalize hf : g.flatMap rowB = fl at h
  cases h with
  | nil => exact ⟨none, 0, rfl⟩
  | @blk sb n cap old sp _ _ h h1 h2 h3 => exact ⟨_, cap, rfl⟩
theorem BRep.full {g : List Bool} {sv : Value} {C : Chunks} (h : BRep g sv C) (hne : g ≠ []) : ∃ b cap sp, sv = .slice (some ⟨b, 0, none⟩) g.length cap ∧ C = [(b, cel 4 (g.flatMap rowB ++ sp))] ∧ g.length ≤ cap ∧ sp.length = (cap - g.length) * 1 := by
  unfold BRep at h
  generalize hn : g.length = n at h ⊢
  generalize hf : g.flatMap rowB = fl at h ⊢
  cases h with
  | nil => exact absurd (List.eq_nil_of_length_eq_zero hn) hne
  | @blk sb n cap old sp _ _ h h1 h2 h3 =>
    obtain rfl := take_nil h
    exact ⟨sb, cap, sp, rfl, rfl, h3, h2⟩
theorem BRep.of_full {g : List Bool} {b cap : Nat} {sp : List Value} (h : g.length ≤ cap) (hs : sp.length = (cap - g.length) * 1) : BRep g (.slice (some ⟨b, 0, none⟩) g.length cap) [(b, cel 4 (g.flatMap rowB ++ sp))] :=
  Owns.blk .head (by rw [flat_length rowB 1 rowB_length]) hs h
theorem BRep.set {g : List Bool} {b cap : Nat} {sp : List Value} (h : g.length ≤ cap) (hs : sp.length = (cap - g.length) * 1) (n : Nat) (x : Bool) : BRep (g.set n x) (.slice (some ⟨b, 0, none⟩) g.length cap) [(b, cel 4 ((g.set n x).flatMap rowB ++ sp))] := by
  have := BRep.of_full (g := g.set n x) (b := b) (cap := cap) (sp := sp) (by rw [List.length_set]; exact h) (by rw [List.length_set]; exact hs)
  rw [List.length_set] at this
  exact this
theorem Does.appendB {X : Cx} {L : Env} {ds : List Deferred} {C : Chunks} {N : Nat} {κ : Value → Chunks → Prop} {x y : Operand} {mc : Nat} {l xs : List Bool} {ad2 : Option Addr} {sv : Value} (hP : X.P = Try.prog) (Cl Cn Cr : Chunks)
    (hx : ev L x = some sv) (hy : ev L y = some (.slice ad2 xs.length mc)) (hC : C = Cl ++ (Cn ++ Cr)) (ho : BRep l sv Cn)
    (hxs : xs ≠ [] → ∃ xb xo, ad2 = some ⟨xb, xo, none⟩ ∧ RowIn X C xb xo (xs.flatMap rowB)) (hroom : l.length + xs.length ≤ 4294967296)
    (hk : ∀ sv' Cn', BRep (l ++ xs) sv' Cn' → κ sv' (Cl ++ (Cn' ++ Cr))) : Does X N (.call ⟨.builtin .append, #[x, y], #[67, 67]⟩) .gen L ds C κ :=
  Does.appendL (row := rowB) Cl Cn Cr hx hy (by rw [hP]; exact si67) (by rw [hP]; exact bz4) hC ho hxs rowB_length rowB_one rfl (by decide) (by omega) hk
theorem rowB_at (g : List Bool) (sp : List Value) (i : Nat) (b : Bool) (h : g[i]? = some b) : (g.flatMap rowB ++ sp)[i]? = some (.bool b) := by
  obtain ⟨hi, rfl⟩ := List.getElem?_eq_some_iff.1 h
  have := flat_get rowB 1 rowB_length g i hi 0 _ rfl
  rw [List.getElem?_append_left (by rw [flat_length rowB 1 rowB_length]; omega)]
  simpa using this
theorem rowB_map (g : List Bool) : g.flatMap rowB = g.map Value.bool := by
  induction g with
  | nil => rfl
  | cons b g ih => rw [List.flatMap_cons, ih]; rfl
theorem rowB_set (g : List Bool) (sp : List Value) (i : Nat) (hi : i < g.length) (b : Bool) : SetAt (.bool b) (g.flatMap rowB ++ sp) (0 + i * 1) ((g.set i b).flatMap rowB ++ sp) := by
  have e : (g.set i b).flatMap rowB ++ sp = (g.flatMap rowB ++ sp).set (0 + i * 1) (.bool b) := by
    rw [rowB_map, rowB_map, List.map_set, List.set_append_left _ _ (by simp; omega)]
    simp
  rw [e]
  exact .gen (by rw [rowB_map]; simp; omega)
theorem Does.sliceToG {X : Cx} {L : Env} {ds : List Deferred} {C : Chunks} {N : Nat} {κ : Value → Chunks → Prop} {x y : Operand} {n : Int} {T e sz len cap : Nat} {kh : IntKind} {ad : Option Addr} (h : Nat) (hx : ev L x = some (.slice ad len cap)) (hy : ev L y = some (.int kh n)) (hT : sliceElem X.P T = some (e, sz)) (hn : n = (h : Int)) (hh : h ≤ cap) (hk : κ (.slice ad h cap) C) : Does X N (.slice T x none (some y) none) .loc L ds C κ :=
  .of_run (fun ope ho a w hs w' => by
    obtain ⟨hu, i, hi, hsz⟩ := sliceElem_spec hT
    unfold execOp; rw [ho]
    subst hn
    cases ad with
    | none => simp [hs.ev hx, hs.ev hy, Instr.sliceAt, Instr.slice, Instr.sliceBounds, Instr.sliceBound, asIntOf, run_ul hu, hh, run_sz hi]
    | some a0 => simp [hs.ev hx, hs.ev hy, Instr.sliceAt, Instr.slice, Instr.sliceBounds, Instr.sliceBound, asIntOf, run_ul hu, hh, run_sz hi, Addr.add]) hk
/-- things that bear their number: what has come, who of them has left, what the heap holds -/
structure SInv (inn : List (Int × Int)) (g : List Bool) (items : List ((Int × Int) × Nat)) : Prop where
  num : ∀ (j : Nat) (x : Int × Int), inn[j]? = some x → x.2 = (j : Int)
  gl : g.length = inn.length
  nd : (items.map (·.2)).Nodup
  mem : ∀ x ∈ items, inn[x.2]? = some x.1 ∧ g[x.2]? = some false
  cnt : items.length = g.count false
theorem SInv.nil : SInv [] [] [] := ⟨fun j x h => by simp at h, rfl, .nil, fun x h => by simp at h, rfl⟩
theorem SInv.perm {inn : List (Int × Int)} {g : List Bool} {items items' : List ((Int × Int) × Nat)} (h : SInv inn g items) (hp : items'.Perm items) : SInv inn g items' :=
  ⟨h.num, h.gl, ((hp.map _).nodup_iff).2 h.nd, fun x hx => h.mem x (hp.mem_iff.1 hx), hp.length_eq.trans h.cnt⟩
theorem SInv.lt {inn : List (Int × Int)} {g : List Bool} {items : List ((Int × Int) × Nat)} (h : SInv inn g items) {x : (Int × Int) × Nat} (hx : x ∈ items) : x.2 < inn.length := by
  obtain ⟨h1, -⟩ := h.mem x hx
  obtain ⟨h2, -⟩ := List.getElem?_eq_some_iff.1 h1
  exact h2
theorem SInv.push {inn : List (Int × Int)} {g : List Bool} {items items' : List ((Int × Int) × Nat)} (h : SInv inn g items) (k : Int) (hp : items'.Perm (items ++ [((k, (inn.length : Int)), inn.length)])) :
    SInv (inn ++ [(k, (inn.length : Int))]) (g ++ [false]) items' := by
  refine SInv.perm ?_ hp
  refine ⟨fun j x hj => ?_, by simp [h.gl], ?_, fun x hx => ?_, by simp [h.cnt]⟩
  · rcases Nat.lt_or_ge j inn.length with hl | hl
    · rw [List.getElem?_append_left hl] at hj; exact h.num j x hj
    · rw [List.getElem?_append_right hl] at hj
      rcases Nat.eq_or_lt_of_le hl with he | he
      · rw [← he] at hj ⊢
        simp at hj
        rw [← hj]
      · rw [List.getElem?_eq_none (by simp; omega)] at hj; cases hj
  · rw [List.map_append]
    refine List.nodup_append.2 ⟨h.nd, by simp, fun a ha b hb => ?_⟩
    obtain ⟨y, hy, rfl⟩ := List.mem_map.1 ha
    simp at hb
    have := h.lt hy
    omega
  · rcases List.mem_append.1 hx with hx | hx
    · have h1 := h.lt hx
      rw [List.getElem?_append_left h1, List.getElem?_append_left (by rw [h.gl]; exact h1)]
      exact h.mem x hx
    · simp at hx
      subst hx
      simp [← h.gl]
theorem SInv.take {inn : List (Int × Int)} {g : List Bool} {items items' : List ((Int × Int) × Nat)} {x : (Int × Int) × Nat} (h : SInv inn g items) (hp : (x :: items').Perm items) : SInv inn (g.set x.2 true) items' := by
  have h2 := h.perm hp
  have hxl := h2.lt (x := x) (by simp)
  have hxg := (h2.mem x (by simp)).2
  have hnd := h2.nd
  rw [List.map_cons, List.nodup_cons] at hnd
  refine ⟨h.num, by simp [h.gl], hnd.2, fun y hy => ⟨(h2.mem y (by simp [hy])).1, ?_⟩, ?_⟩
  · rw [List.getElem?_set_ne (fun e => hnd.1 (by rw [e]; exact List.mem_map_of_mem hy))]
    exact (h2.mem y (by simp [hy])).2
  · have h3 := h2.cnt
    rw [List.count_set (by rw [h.gl]; exact hxl)]
    obtain ⟨hh, he⟩ := List.getElem?_eq_some_iff.1 hxg
    simp only [he]
    simp at h3 ⊢
    omega
/-- what is first in a heap of such things -/
theorem SInv.first {inn : List (Int × Int)} {g : List Bool} {items : List ((Int × Int) × Nat)} (h : SInv inn g items) (hne : items ≠ []) :
    ∃ (k : Int) (n : Nat), at_ items 0 = ((k, (n : Int)), n) ∧ firstF items = (k, (n : Int)) ∧ n < inn.length ∧ inn[n]? = some (k, (n : Int)) ∧ g[n]? = some false := by
  have hpos : 0 < items.length := List.length_pos_iff.2 hne
  have hm : at_ items 0 ∈ items := by rw [at_eq items 0 hpos]; exact List.getElem_mem hpos
  obtain ⟨h1, h2⟩ := h.mem _ hm
  have h3 := h.num _ _ h1
  refine ⟨(at_ items 0).1.1, (at_ items 0).2, ?_, ?_, h.lt hm, ?_, h2⟩
  · rw [← h3]
  · unfold firstF; rw [← h3]
  · rw [h1, ← h3]
theorem SInv.pushN {inn : List (Int × Int)} {g : List Bool} {items items' : List ((Int × Int) × Nat)} (h : SInv inn g items) {n : Nat} (hn : inn.length = n) (k : Int) (hp : items'.Perm (items ++ [((k, (n : Int)), n)])) :
    SInv (inn ++ [(k, (n : Int))]) (g ++ [false]) items' := by subst hn; exact h.push k hp
theorem SInv.le {inn : List (Int × Int)} {g : List Bool} {items : List ((Int × Int) × Nat)} (h : SInv inn g items) : items.length ≤ inn.length := by
  rw [h.cnt, ← h.gl]; exact List.count_le_length
/-- left: how many have not gone -/
theorem count_take (g : List Bool) (i : Nat) (hi : i < g.length) : (g.take (i + 1)).count false = (g.take i).count false + if g[i] then 0 else 1 := by
  rw [List.take_succ_eq_append_getElem hi, List.count_append]
  cases g[i] <;> simp
theorem pushF_snoc {cmp : Int × Int → Int × Int → Int} (l : List (Int × Int)) (x : Int × Int) : ∀ (items : List ((Int × Int) × Nat)) (came : Nat),
    (pushF cmp items came (l ++ [x])).1 = (pushF cmp (pushF cmp items came l).1 (pushF cmp items came l).2.1 [x]).1 := by
  induction l with
  | nil => intro items came; rfl
  | cons y l ih => intro items came; exact ih _ _
theorem leK (a b : (Int × Int) × Nat) : Le cmpK a b ↔ (a.1.1 < b.1.1 ∨ (a.1.1 = b.1.1 ∧ a.2 ≤ b.2)) := by
  obtain ⟨⟨a1, a2⟩, n⟩ := a
  obtain ⟨⟨b1, b2⟩, m⟩ := b
  simp only [Le, ahB, cmpK, Bool.or_eq_false_iff, Bool.and_eq_false_iff, decide_eq_false_iff_not]
  (repeat' split) <;> omega
/-- two lists at hand are the same -/
theorem same_call {X : Cx} {C : Chunks} (la lb : List (Int × Int)) (sva svb : Value) (C1 Ca C2 C3 Cb C4 : Chunks) (ha : LRep la sva Ca) (hb : LRep lb svb Cb) (heq : la = lb) (hbig : la.length ≤ 4611686018427387904) (e1 : C = C1 ++ (Ca ++ C2)) (e2 : C = C3 ++ (Cb ++ C4)) :
    ∃ pre, Ct Try.prog 29 [sva, svb].toArray pre [] (fun r C' => r = .bool true ∧ C' = []) ∧ ∀ w, St X.w0 X.B0 C w → pre w := by
  obtain ⟨ada, capa, b1, rfl, h1, -, -, r1⟩ := ha.form
  obtain ⟨adb, capb, b2, rfl, h2, -, -, r2⟩ := hb.form
  refine ⟨_, (sames_ct la lb ada adb capa capb b1 0 b2 0 h1 h2 hbig).mono (fun _ h => h) (fun v C' h => by rw [decide_eq_true heq] at h; exact h), fun w hs => ⟨fun i u hi => r1 X C1 C2 w (e1 ▸ hs) i u hi, fun i u hi => r2 X C3 C4 w (e2 ▸ hs) i u hi⟩⟩
/-- a list at hand is the first part of another one -/
theorem same_take {X : Cx} {C : Chunks} (la lb : List (Int × Int)) (sva : Value) (adb : Option Addr) (capb t : Nat) (C1 Ca C2 C3 Cb C4 : Chunks) (ha : LRep la sva Ca) (hb : LRep lb (.slice adb lb.length capb) Cb) (ht : t ≤ lb.length) (heq : la = lb.take t) (hbig : la.length ≤ 4611686018427387904) (e1 : C = C1 ++ (Ca ++ C2)) (e2 : C = C3 ++ (Cb ++ C4)) :
    ∃ pre, Ct Try.prog 29 [sva, .slice adb t capb].toArray pre [] (fun r C' => r = .bool true ∧ C' = []) ∧ ∀ w, St X.w0 X.B0 C w → pre w := by
  obtain ⟨ada, capa, b1, rfl, h1, -, -, r1⟩ := ha.form
  obtain ⟨adb', capb', b2, e, h2, -, -, r2⟩ := hb.form
  simp only [Value.slice.injEq] at e
  obtain ⟨rfl, -, rfl⟩ := e
  have hlt : (lb.take t).length = t := by rw [List.length_take]; omega
  have hs := sames_ct la (lb.take t) ada adb capa capb b1 0 b2 0 h1 (fun hne => h2 (by rintro rfl; simp at hne)) hbig
  rw [hlt] at hs
  refine ⟨_, hs.mono (fun _ h => h) (fun v C' h => by rw [decide_eq_true heq] at h; exact h), fun w hs => ⟨fun i u hi => r1 X C1 C2 w (e1 ▸ hs) i u hi, ?_⟩⟩
  exact At.take (fun i u hi => r2 X C3 C4 w (e2 ▸ hs) i u hi) t ht
theorem enc_at (out : List (Int × Int)) (sp : List Value) (j : Nat) (x : Int × Int) (h : out[j]? = some x) : (out.flatMap enc1 ++ sp)[j * 2]? = some (.int .i64 x.1) ∧ (out.flatMap enc1 ++ sp)[j * 2 + 1]? = some (.int .i64 x.2) := by
  obtain ⟨hj, rfl⟩ := List.getElem?_eq_some_iff.1 h
  have hl := flat_length enc1 2 enc1_length out
  constructor
  · rw [List.getElem?_append_left (by rw [hl]; omega)]
    exact flat_get enc1 2 enc1_length out j hj 0 _ rfl
  · rw [List.getElem?_append_left (by rw [hl]; omega)]
    exact flat_get enc1 2 enc1_length out j hj 1 _ rfl
end Go.Proofs.Ytcgenmfnlocbbaa.T
