/- What the heap's functions compute, on lists: no program here. -/
import Derived.Test.YtcgenmfnlocbbaaL5
namespace Go.Hp
open Go.Lg

section
variable {α : Type} [Inhabited α] (cmp : α → α → Int)

/-- does a go ahead of b? -/
def ahB (a b : α × Nat) : Bool := decide (cmp a.1 b.1 < 0) || (decide (cmp a.1 b.1 = 0) && decide (a.2 < b.2))

def at_ (l : List (α × Nat)) (i : Nat) : α × Nat := l.getD i default
theorem at_eq (l : List (α × Nat)) (i : Nat) (h : i < l.length) : at_ l i = l[i] := by simp [at_, h]

def swp (l : List (α × Nat)) (i k : Nat) : List (α × Nat) := (l.set i (at_ l k)).set k (at_ l i)
omit cmp in
theorem swp_length (l : List (α × Nat)) (i k : Nat) : (swp l i k).length = l.length := by simp [swp]

/-- a thing rises: the list behind it, and how often was compared -/
def upF : Nat → List (α × Nat) → Nat → List (α × Nat) × Nat
  | 0, l, _ => (l, 0)
  | f + 1, l, i =>
    if i = 0 then (l, 0) else
      if ahB cmp (at_ l i) (at_ l ((i - 1) / 2)) then let r := upF f (swp l i ((i - 1) / 2)) ((i - 1) / 2); (r.1, r.2 + 1) else (l, 1)

/-- which of the two kids goes on, and how often was compared -/
def kid (l : List (α × Nat)) (i : Nat) : Nat × Nat :=
  if 2 * i + 2 < l.length then (if ahB cmp (at_ l (2 * i + 2)) (at_ l (2 * i + 1)) then 2 * i + 2 else 2 * i + 1, 1) else (2 * i + 1, 0)

/-- a thing sinks -/
def downF : Nat → List (α × Nat) → Nat → List (α × Nat) × Nat
  | 0, l, _ => (l, 0)
  | f + 1, l, i =>
    if l.length ≤ 2 * i + 1 then (l, 0) else
      if ahB cmp (at_ l (kid cmp l i).1) (at_ l i) then let r := downF f (swp l i (kid cmp l i).1) (kid cmp l i).1; (r.1, r.2 + (kid cmp l i).2 + 1) else (l, (kid cmp l i).2 + 1)
end

section
variable {α : Type} [Inhabited α] (cmp : α → α → Int)

theorem downF_stop (f : Nat) (l : List (α × Nat)) (i : Nat) (h : l.length ≤ 2 * i + 1) : downF cmp f l i = (l, 0) := by
  cases f with
  | zero => rfl
  | succ f => simp only [downF]; rw [if_pos h]
theorem downF_no (f : Nat) (l : List (α × Nat)) (i : Nat) (h : 2 * i + 1 < l.length) (hf : 1 ≤ f) (ha : ahB cmp (at_ l (kid cmp l i).1) (at_ l i) = false) : downF cmp f l i = (l, (kid cmp l i).2 + 1) := by
  obtain ⟨f, rfl⟩ : ∃ g, f = g + 1 := ⟨f - 1, by omega⟩
  simp only [downF]; rw [if_neg (by omega), if_neg (by simp [ha])]
theorem downF_yes (f : Nat) (l : List (α × Nat)) (i : Nat) (h : 2 * i + 1 < l.length) (hf : 1 ≤ f) (ha : ahB cmp (at_ l (kid cmp l i).1) (at_ l i) = true) : downF cmp f l i = ((downF cmp (f - 1) (swp l i (kid cmp l i).1) (kid cmp l i).1).1, (downF cmp (f - 1) (swp l i (kid cmp l i).1) (kid cmp l i).1).2 + (kid cmp l i).2 + 1) := by
  obtain ⟨f, rfl⟩ : ∃ g, f = g + 1 := ⟨f - 1, by omega⟩
  simp only [downF]; rw [if_neg (by omega), if_pos ha]; rfl
theorem kid_lt (l : List (α × Nat)) (i : Nat) (h : 2 * i + 1 < l.length) : (kid cmp l i).1 < l.length ∧ i < (kid cmp l i).1 := by
  unfold kid
  split
  · split <;> simp <;> omega
  · simp; omega

theorem upF_zero (f : Nat) (l : List (α × Nat)) : upF cmp f l 0 = (l, 0) := by cases f <;> simp [upF]
theorem upF_no (f : Nat) (l : List (α × Nat)) (i : Nat) (h : 0 < i) (hf : 1 ≤ f) (ha : ahB cmp (at_ l i) (at_ l ((i - 1) / 2)) = false) : upF cmp f l i = (l, 1) := by
  obtain ⟨f, rfl⟩ : ∃ g, f = g + 1 := ⟨f - 1, by omega⟩
  simp only [upF]; rw [if_neg (by omega), if_neg (by simp [ha])]
theorem upF_yes (f : Nat) (l : List (α × Nat)) (i : Nat) (h : 0 < i) (hf : 1 ≤ f) (ha : ahB cmp (at_ l i) (at_ l ((i - 1) / 2)) = true) : upF cmp f l i = ((upF cmp (f - 1) (swp l i ((i - 1) / 2)) ((i - 1) / 2)).1, (upF cmp (f - 1) (swp l i ((i - 1) / 2)) ((i - 1) / 2)).2 + 1) := by
  obtain ⟨f, rfl⟩ : ∃ g, f = g + 1 := ⟨f - 1, by omega⟩
  simp only [upF]; rw [if_neg (by omega), if_pos ha]; rfl

theorem downF_length (f : Nat) : ∀ (l : List (α × Nat)) (i : Nat), (downF cmp f l i).1.length = l.length := by
  induction f with
  | zero => intro l i; rfl
  | succ f ih =>
    intro l i
    simp only [downF]
    split
    · rfl
    · split
      · simp [ih, swp_length]
      · rfl
theorem upF_length (f : Nat) : ∀ (l : List (α × Nat)) (i : Nat), (upF cmp f l i).1.length = l.length := by
  induction f with
  | zero => intro l i; rfl
  | succ f ih =>
    intro l i
    simp only [upF]
    split
    · rfl
    · split
      · simp [ih, swp_length]
      · rfl
end

section
variable {α : Type} [Inhabited α] (cmp : α → α → Int)
/-- a thing is put behind all others, and rises -/
def putF (l : List (α × Nat)) (x : α) (nth : Nat) : List (α × Nat) × Nat := upF cmp (l.length + 1) (l ++ [(x, nth)]) l.length
/-- things are put in, one behind the other: the list, the number of the next one, and how often was compared -/
def pushF : List (α × Nat) → Nat → List α → List (α × Nat) × Nat × Nat
  | l, came, [] => (l, came, 0)
  | l, came, x :: r => let p := putF cmp l x came; let q := pushF p.1 (came + 1) r; (q.1, q.2.1, p.2 + q.2.2)
/-- the first thing is taken out -/
def popF (l : List (α × Nat)) : List (α × Nat) × Nat :=
  if l = [] then (l, 0) else downF cmp (l.length - 1) ((l.set 0 (at_ l (l.length - 1))).take (l.length - 1)) 0
/-- it gives way to another one: the list, the next number, how often was compared -/
def swapF (l : List (α × Nat)) (came : Nat) (x : α) : List (α × Nat) × Nat × Nat :=
  if l = [] then pushF cmp l came [x] else let r := downF cmp l.length (l.set 0 (x, came)) 0; (r.1, came + 1, r.2)
omit cmp in
/-- the first thing, or none -/
def firstF (l : List (α × Nat)) : α := (at_ l 0).1

theorem putF_length (l : List (α × Nat)) (x : α) (n : Nat) : (putF cmp l x n).1.length = l.length + 1 := by simp [putF, upF_length]
theorem pushF_length (r : List α) : ∀ (l : List (α × Nat)) (came : Nat), (pushF cmp l came r).1.length = l.length + r.length ∧ (pushF cmp l came r).2.1 = came + r.length := by
  induction r with
  | nil => intro l came; simp [pushF]
  | cons x r ih =>
    intro l came
    simp only [pushF, List.length_cons]
    have := ih (putF cmp l x came).1 (came + 1)
    rw [putF_length] at this
    omega
theorem popF_length (l : List (α × Nat)) : (popF cmp l).1.length = l.length - 1 := by
  unfold popF
  split
  · rename_i h; subst h; rfl
  · simp [downF_length]
end

/-- how a heap lies in memory -/
def HRep {β : Type} (Th Te : TypeId) (row : β → List Value) (s : Nat) (hb : Nat) (f : Value) (items : List β) (came : Nat) (C : Chunks) : Prop :=
  ∃ sv Cr, C = (hb, cel Th [f, sv, .int .u64 (came : Int)]) :: Cr ∧ Owns Te s sv items.length (items.flatMap row) Cr []

theorem HRep.mk {β : Type} {Th Te : TypeId} {row : β → List Value} {s : Nat} {hb : Nat} {f : Value} {items : List β} {came : Nat} {ib cap : Nat} {sp : List Value} (h : ∀ x, (row x).length = s) (h1 : items.length ≤ cap) (h2 : sp.length = (cap - items.length) * s) :
    HRep Th Te row s hb f items came [(hb, cel Th [f, .slice (some ⟨ib, 0, none⟩) items.length cap, .int .u64 (came : Int)]), (ib, cel Te (items.flatMap row ++ sp))] :=
  ⟨_, _, rfl, .blk .head (flat_length row s h items) h2 h1⟩

theorem HRep.empty {β : Type} {Th Te : TypeId} {row : β → List Value} {s : Nat} {hb : Nat} {f : Value} {came : Nat} {C : Chunks} (h : HRep Th Te row s hb f [] came C) :
    ∃ ad cap Cr, C = (hb, cel Th [f, .slice ad 0 cap, .int .u64 (came : Int)]) :: Cr := by
  obtain ⟨sv, Cr, rfl, ho⟩ := h
  cases ho with
  | nil => exact ⟨_, _, _, rfl⟩
  | blk h h1 h2 h3 => exact ⟨_, _, _, rfl⟩

theorem take_nil {α : Type} {x : α} {C : List α} (h : Take x C []) : C = [x] := by
  cases h with
  | head => rfl

theorem HRep.full {β : Type} {Th Te : TypeId} {row : β → List Value} {s : Nat} {hb : Nat} {f : Value} {items : List β} {came : Nat} {C : Chunks} (h : HRep Th Te row s hb f items came C) (hne : items ≠ []) :
    ∃ ib cap sp, C = [(hb, cel Th [f, .slice (some ⟨ib, 0, none⟩) items.length cap, .int .u64 (came : Int)]), (ib, cel Te (items.flatMap row ++ sp))] ∧ items.length ≤ cap ∧ sp.length = (cap - items.length) * s := by
  obtain ⟨sv, Cr, rfl, ho⟩ := h
  generalize hn : items.length = n at ho
  generalize hf : items.flatMap row = fl at ho
  cases ho with
  | nil => exact absurd (List.eq_nil_of_length_eq_zero hn) hne
  | blk h h1 h2 h3 =>
    obtain rfl := take_nil h
    exact ⟨_, _, _, rfl, h3, h2⟩

/-- a compare, as a function value: what it answers is a function of the two things; E c: its own blocks when it has been called c times -/
def CmpOk {α : Type} (P : Program) (g : FuncId) (fs cs : Array Value) (E : Nat → Chunks) (enc : α → List Value) (cmp : α → α → Int) : Prop :=
  callable P g = true ∧ ∀ c x y, Ct P g (fs.toList ++ [Value.agg (enc x).toArray, Value.agg (enc y).toArray] ++ cs.toList).toArray (fun _ => True) (E c) (fun v C' => v = .int .i64 (cmp x y) ∧ C' = E (c + 1))

end Go.Hp
