/- A heap's order, what it holds, and how often it compares: on lists, no program. Nothing is claimed of a law here. -/
import Derived.Test.YtcgenmfnlocbbaaH0
namespace Go.Hp
open Go.Lg

section
variable {α : Type} [Inhabited α] (cmp : α → α → Int)

/-- a stands ahead of b, or the two are one -/
def Le (a b : α × Nat) : Prop := ahB cmp b a = false
structure Law : Prop where
  trans : ∀ a b c, Le cmp a b → Le cmp b c → Le cmp a c
  total : ∀ a b, Le cmp a b ∨ Le cmp b a
omit [Inhabited α] in
theorem Law.of_ah {cmp : α → α → Int} (L : Law cmp) {a b : α × Nat} (h : ahB cmp a b = true) : Le cmp a b := by
  rcases L.total a b with h1 | h1
  · exact h1
  · unfold Le at h1; rw [h] at h1; cases h1
omit [Inhabited α] in
theorem Law.refl {cmp : α → α → Int} (L : Law cmp) (a : α × Nat) : Le cmp a a := by
  rcases L.total a a with h1 | h1 <;> exact h1

omit cmp in
theorem at_swp (l : List (α × Nat)) (i k j : Nat) (hi : i < l.length) (hk : k < l.length) : at_ (swp l i k) j = if j = k then at_ l i else if j = i then at_ l k else at_ l j := by
  simp only [swp, at_, List.getD_eq_getElem?_getD, List.getElem?_set, List.length_set]
  by_cases h1 : j = k
  · subst h1; simp [hk]
  · have h1' : ¬ k = j := fun e => h1 e.symm
    simp only [h1, h1', if_false]
    by_cases h2 : j = i
    · subst h2; simp [hi]
    · have h2' : ¬ i = j := fun e => h2 e.symm
      simp only [h2, h2', if_false]

omit cmp in
theorem swp_perm (l : List (α × Nat)) (i k : Nat) (hi : i < l.length) (hk : k < l.length) : (swp l i k).Perm l := by
  have h1 := Array.swap_perm (xs := l.toArray) (by simpa using hi : i < l.toArray.size) (by simpa using hk : k < l.toArray.size)
  rw [List.swap_toArray] at h1
  have h2 := Array.perm_iff_toList_perm.1 h1
  simpa [swp, at_eq _ _ hi, at_eq _ _ hk] using h2

theorem upF_perm (f : Nat) : ∀ (l : List (α × Nat)) (i : Nat), i < l.length → (upF cmp f l i).1.Perm l := by
  induction f with
  | zero => intro l i _; exact .refl _
  | succ f ih =>
    intro l i hi
    simp only [upF]
    split
    · exact .refl _
    · split
      · exact (ih _ _ (by rw [swp_length]; omega)).trans (swp_perm l _ _ hi (by omega))
      · exact .refl _
theorem downF_perm (f : Nat) : ∀ (l : List (α × Nat)) (i : Nat), (downF cmp f l i).1.Perm l := by
  induction f with
  | zero => intro l i; exact .refl _
  | succ f ih =>
    intro l i
    simp only [downF]
    split
    · exact .refl _
    · have := kid_lt cmp l i (by omega)
      split
      · exact (ih _ _).trans (swp_perm l _ _ (by omega) (by omega))
      · exact .refl _

theorem putF_perm (l : List (α × Nat)) (x : α) (n : Nat) : (putF cmp l x n).1.Perm (l ++ [(x, n)]) := upF_perm cmp _ _ _ (by simp)
theorem pushF_perm (r : List α) : ∀ (l : List (α × Nat)) (came : Nat), (pushF cmp l came r).1.Perm (l ++ r.zipIdx came) := by
  induction r with
  | nil => intro l came; simp [pushF]
  | cons x r ih =>
    intro l came
    simp only [pushF, List.zipIdx_cons]
    refine (ih _ _).trans ?_
    refine ((putF_perm cmp l x came).append_right _).trans ?_
    simp
theorem popF_perm (l : List (α × Nat)) (h : l ≠ []) : (at_ l 0 :: (popF cmp l).1).Perm l := by
  unfold popF
  rw [if_neg h]
  refine ((downF_perm cmp _ _ _).cons _).trans ?_
  cases l with
  | nil => exact absurd rfl h
  | cons x r =>
    rcases List.eq_nil_or_concat r with rfl | ⟨r', z, rfl⟩
    · simp [at_]
    · rw [List.concat_eq_append] at h ⊢
      have h1 : at_ (x :: (r' ++ [z])) ((x :: (r' ++ [z])).length - 1) = z := by simp [at_]
      rw [h1]
      have h2 : ((x :: (r' ++ [z])).set 0 z).take ((x :: (r' ++ [z])).length - 1) = z :: r' := by simp
      rw [h2]
      refine List.Perm.cons x ?_
      exact (List.perm_append_comm (l₁ := [z]) (l₂ := r'))
theorem swapF_perm (l : List (α × Nat)) (came : Nat) (x : α) (h : l ≠ []) : (at_ l 0 :: (swapF cmp l came x).1).Perm (l ++ [(x, came)]) := by
  unfold swapF
  rw [if_neg h]
  refine ((downF_perm cmp _ _ _).cons _).trans ?_
  cases l with
  | nil => exact absurd rfl h
  | cons y r =>
    simp only [at_, List.getD_cons_zero, List.set_cons_zero]
    exact List.Perm.cons _ (List.perm_append_comm (l₁ := [(x, came)]) (l₂ := r))

/-- a heap's order -/
def Hd (l : List (α × Nat)) : Prop := ∀ j, 0 < j → j < l.length → Le cmp (at_ l ((j - 1) / 2)) (at_ l j)

variable {cmp}
theorem upF_hd (L : Law cmp) (f : Nat) : ∀ (l : List (α × Nat)) (i : Nat), i ≤ f → i < l.length → (∀ j, 0 < j → j < l.length → j ≠ i → Le cmp (at_ l ((j - 1) / 2)) (at_ l j)) →
    (∀ j, 0 < j → j < l.length → (j - 1) / 2 = i → 0 < i → Le cmp (at_ l ((i - 1) / 2)) (at_ l j)) → Hd cmp (upF cmp f l i).1 := by
  induction f with
  | zero =>
    intro l i hf hi h1 h2 j hj hl
    exact h1 j hj hl (by omega)
  | succ f ih =>
    intro l i hf hi h1 h2
    simp only [upF]
    split
    · intro j hj hl; exact h1 j hj hl (by omega)
    · rename_i hi0
      split
      · rename_i ha
        have hle := L.of_ah ha
        have hp : (i - 1) / 2 < i := by omega
        refine ih _ _ (by omega) (by rw [swp_length]; omega) ?_ ?_
        · intro j hj hl hne
          rw [swp_length] at hl
          rw [at_swp l _ _ _ hi (by omega), at_swp l _ _ _ hi (by omega)]
          rw [if_neg hne]
          by_cases hji : j = i
          · subst hji
            rw [if_pos rfl, if_pos rfl]; exact hle
          · rw [if_neg hji]
            by_cases h3 : (j - 1) / 2 = (i - 1) / 2
            · rw [if_pos h3]
              refine L.trans _ _ _ hle ?_
              rw [← h3]; exact h1 j hj hl hji
            · rw [if_neg h3]
              by_cases h4 : (j - 1) / 2 = i
              · rw [if_pos h4]; exact h2 j hj hl h4 (by omega)
              · rw [if_neg h4]; exact h1 j hj hl hji
        · intro j hj hl hpj hp0
          rw [swp_length] at hl
          rw [at_swp l _ _ _ hi (by omega), at_swp l _ _ _ hi (by omega)]
          rw [if_neg (by omega), if_neg (by omega), if_neg (by omega)]
          have hpp := h1 ((i - 1) / 2) hp0 (by omega) (by omega)
          by_cases hji : j = i
          · rw [if_pos hji]; exact hpp
          · rw [if_neg hji]
            refine L.trans _ _ _ hpp ?_
            rw [← hpj]; exact h1 j hj hl hji
      · rename_i ha
        intro j hj hl
        simp only at hl ⊢
        by_cases hji : j = i
        · subst hji; unfold Le; simpa using ha
        · exact h1 j hj hl hji

theorem kid_le (L : Law cmp) (l : List (α × Nat)) (i : Nat) (h : 2 * i + 1 < l.length) : ((kid cmp l i).1 = 2 * i + 1 ∨ (kid cmp l i).1 = 2 * i + 2) ∧ ∀ j, 0 < j → j < l.length → (j - 1) / 2 = i → Le cmp (at_ l (kid cmp l i).1) (at_ l j) := by
  unfold kid
  split
  · rename_i h2
    split
    · rename_i ha
      refine ⟨.inr rfl, fun j hj hl hp => ?_⟩
      simp only
      rcases (by omega : j = 2 * i + 1 ∨ j = 2 * i + 2) with rfl | rfl
      · exact L.of_ah ha
      · exact L.refl _
    · rename_i ha
      refine ⟨.inl rfl, fun j hj hl hp => ?_⟩
      simp only
      rcases (by omega : j = 2 * i + 1 ∨ j = 2 * i + 2) with rfl | rfl
      · exact L.refl _
      · unfold Le; simpa using ha
  · refine ⟨.inl rfl, fun j hj hl hp => ?_⟩
    simp only
    obtain rfl : j = 2 * i + 1 := by omega
    exact L.refl _

theorem downF_hd (L : Law cmp) (f : Nat) : ∀ (l : List (α × Nat)) (i : Nat), l.length ≤ f + i → (∀ j, 0 < j → j < l.length → (j - 1) / 2 ≠ i → Le cmp (at_ l ((j - 1) / 2)) (at_ l j)) →
    (∀ j, 0 < j → j < l.length → (j - 1) / 2 = i → 0 < i → Le cmp (at_ l ((i - 1) / 2)) (at_ l j)) → Hd cmp (downF cmp f l i).1 := by
  induction f with
  | zero =>
    intro l i hf h1 h2 j hj hl
    simp only [downF] at hl ⊢
    exact h1 j hj hl (by omega)
  | succ f ih =>
    intro l i hf h1 h2
    simp only [downF]
    split
    · intro j hj hl; exact h1 j hj hl (by simp only at hl; omega)
    · rename_i hlen
      obtain ⟨hk, hmin⟩ := kid_le L l i (by omega)
      have hkl := kid_lt cmp l i (by omega)
      generalize hkk : (kid cmp l i).1 = k at *
      split
      · rename_i ha
        have hle := L.of_ah ha
        refine ih _ _ (by rw [swp_length]; omega) ?_ ?_
        · intro j hj hl hne
          rw [swp_length] at hl
          rw [at_swp l _ _ _ (by omega) hkl.1, at_swp l _ _ _ (by omega) hkl.1]
          rw [if_neg hne]
          by_cases hjk : j = k
          · subst hjk
            rw [if_pos rfl, if_pos (by omega)]; exact hle
          · rw [if_neg hjk]
            by_cases hji : j = i
            · subst hji
              rw [if_pos rfl, if_neg (by omega)]
              exact h2 k (by omega) hkl.1 (by omega) hj
            · rw [if_neg hji]
              by_cases h3 : (j - 1) / 2 = i
              · rw [if_pos h3]; exact hmin j hj hl h3
              · rw [if_neg h3]; exact h1 j hj hl h3
        · intro j hj hl hpj hk0
          rw [swp_length] at hl
          have hpk : (k - 1) / 2 = i := by omega
          rw [at_swp l _ _ _ (by omega) hkl.1, at_swp l _ _ _ (by omega) hkl.1]
          rw [if_neg (by omega), if_pos hpk, if_neg (by omega), if_neg (by omega)]
          have := h1 j hj hl (by omega)
          rw [hpj] at this; exact this
      · rename_i ha
        intro j hj hl
        simp only at hl ⊢
        by_cases h3 : (j - 1) / 2 = i
        · have h4 : Le cmp (at_ l i) (at_ l k) := by unfold Le; simpa using ha
          rw [h3]; exact L.trans _ _ _ h4 (hmin j hj hl h3)
        · exact h1 j hj hl h3

theorem hd_nil : Hd cmp ([] : List (α × Nat)) := fun _ _ h => absurd h (by simp)
theorem Hd.root (L : Law cmp) {l : List (α × Nat)} (h : Hd cmp l) : ∀ j, j < l.length → Le cmp (at_ l 0) (at_ l j) := by
  intro j
  induction j using Nat.strongRecOn with
  | _ j ih =>
    intro hj
    by_cases h0 : j = 0
    · subst h0; exact L.refl _
    · exact L.trans _ _ _ (ih ((j - 1) / 2) (by omega) (by omega)) (h j (by omega) hj)
theorem Hd.root' (L : Law cmp) {l : List (α × Nat)} (h : Hd cmp l) : ∀ x ∈ l, Le cmp (at_ l 0) x := by
  intro x hx
  obtain ⟨j, hj, rfl⟩ := List.mem_iff_getElem.1 hx
  rw [← at_eq l j hj]; exact h.root L j hj

theorem putF_hd (L : Law cmp) {l : List (α × Nat)} (h : Hd cmp l) (x : α) (n : Nat) : Hd cmp (putF cmp l x n).1 := by
  refine upF_hd L _ _ _ (by omega) (by simp) ?_ ?_
  · intro j hj hl hne
    have hjl : j < l.length := by simp at hl; omega
    have e : ∀ q, q < l.length → at_ (l ++ [(x, n)]) q = at_ l q := by intro q hq; simp [at_, List.getElem?_append_left hq]
    rw [e _ hjl, e _ (by omega)]; exact h j hj hjl
  · intro j hj hl hp h0; simp at hl; omega
theorem pushF_hd (L : Law cmp) (r : List α) : ∀ {l : List (α × Nat)} (_ : Hd cmp l) (came : Nat), Hd cmp (pushF cmp l came r).1 := by
  induction r with
  | nil => intro l h came; exact h
  | cons x r ih => intro l h came; exact ih (putF_hd L h x came) _
theorem popF_hd (L : Law cmp) {l : List (α × Nat)} (h : Hd cmp l) : Hd cmp (popF cmp l).1 := by
  unfold popF
  split
  · exact h
  · rename_i hne
    have hpos : 0 < l.length := List.length_pos_iff.2 hne
    have e : ∀ q, 0 < q → q < l.length - 1 → at_ ((l.set 0 (at_ l (l.length - 1))).take (l.length - 1)) q = at_ l q := by
      intro q h0 hq
      simp only [at_, List.getD_eq_getElem?_getD]
      rw [List.getElem?_take, if_pos hq, List.getElem?_set_ne (by omega)]
    have hlen : ((l.set 0 (at_ l (l.length - 1))).take (l.length - 1)).length = l.length - 1 := by simp
    refine downF_hd L _ _ _ (by rw [hlen]; omega) ?_ (fun j hj hl hp h0 => absurd h0 (by omega))
    intro j hj hl hp
    rw [hlen] at hl
    rw [e _ (by omega) hl, e _ (by omega) (by omega)]
    exact h j hj (by omega)
theorem swapF_hd (L : Law cmp) {l : List (α × Nat)} (h : Hd cmp l) (came : Nat) (x : α) : Hd cmp (swapF cmp l came x).1 := by
  unfold swapF
  split
  · exact pushF_hd L _ h _
  · have e : ∀ q, 0 < q → at_ (l.set 0 (x, came)) q = at_ l q := by
      intro q h0
      simp only [at_, List.getD_eq_getElem?_getD]
      rw [List.getElem?_set_ne (by omega)]
    refine downF_hd L _ _ _ (by simp) ?_ (fun j hj hl hp h0 => absurd h0 (by omega))
    intro j hj hl hp
    rw [e _ hj, e _ (by omega)]
    exact h j hj (by simpa using hl)

/-! ### how often -/
end

/-- how many binary digits, and a bit of room for the count -/
def nd (n : Nat) : Nat := if n = 0 then 0 else Nat.log2 n + 1
theorem nd_zero : nd 0 = 0 := rfl
theorem nd_pos (n : Nat) (h : 0 < n) : nd n = nd (n / 2) + 1 := by
  unfold nd
  rw [if_neg (by omega)]
  by_cases h1 : n / 2 = 0
  · rw [if_pos h1]
    obtain rfl : n = 1 := by omega
    rfl
  · rw [if_neg h1, Nat.log2_def, if_pos (by omega)]
theorem nd_mono : ∀ (m n : Nat), m ≤ n → nd m ≤ nd n := by
  intro m
  induction m using Nat.strongRecOn with
  | _ m ih =>
    intro n h
    by_cases h0 : m = 0
    · subst h0; simp [nd_zero]
    · rw [nd_pos m (by omega), nd_pos n (by omega)]
      have := ih (m / 2) (by omega) (n / 2) (by omega)
      omega
section
variable {α : Type} [Inhabited α] (cmp : α → α → Int)
theorem upF_cost (f : Nat) : ∀ (l : List (α × Nat)) (i : Nat), (upF cmp f l i).2 ≤ nd i := by
  induction f with
  | zero => intro l i; simp [upF]
  | succ f ih =>
    intro l i
    simp only [upF]
    split
    · simp
    · have h1 := nd_pos i (by omega)
      split
      · have h2 := ih (swp l i ((i - 1) / 2)) ((i - 1) / 2)
        have h3 := nd_mono ((i - 1) / 2) (i / 2) (by omega)
        simp only
        omega
      · simp only; omega
theorem kid_cost (l : List (α × Nat)) (i : Nat) : (kid cmp l i).2 ≤ 1 := by
  unfold kid; split
  · split <;> simp
  · simp
theorem downF_cost (f : Nat) : ∀ (l : List (α × Nat)) (i : Nat), (downF cmp f l i).2 ≤ 2 * nd (l.length / (i + 1)) := by
  induction f with
  | zero => intro l i; simp [downF]
  | succ f ih =>
    intro l i
    simp only [downF]
    split
    · simp
    · rename_i hlen
      have hk := kid_cost cmp l i
      have hkl := kid_lt cmp l i (by omega)
      have hpos : 0 < l.length / (i + 1) := Nat.div_pos (by omega) (by omega)
      have h1 := nd_pos _ hpos
      have hki : 2 * i + 1 ≤ (kid cmp l i).1 := by unfold kid; split <;> (try split) <;> simp
      split
      · have h2 := ih (swp l i (kid cmp l i).1) (kid cmp l i).1
        rw [swp_length] at h2
        have h3 : l.length / ((kid cmp l i).1 + 1) ≤ l.length / (i + 1) / 2 := by
          rw [Nat.div_div_eq_div_mul]
          exact Nat.div_le_div_left (by omega) (by omega)
        have h4 := nd_mono _ _ h3
        simp only
        omega
      · simp only; omega
theorem putF_cost (l : List (α × Nat)) (x : α) (n : Nat) : (putF cmp l x n).2 ≤ nd l.length := upF_cost cmp _ _ _
theorem popF_cost (l : List (α × Nat)) : (popF cmp l).2 ≤ 2 * nd l.length := by
  unfold popF
  split
  · simp
  · refine Nat.le_trans (downF_cost cmp _ _ _) ?_
    refine Nat.mul_le_mul_left 2 (nd_mono _ _ ?_)
    simp
theorem swapF_cost (l : List (α × Nat)) (came : Nat) (x : α) : (swapF cmp l came x).2.2 ≤ 2 * nd l.length := by
  unfold swapF
  split
  · rename_i h; subst h
    have := putF_cost cmp ([] : List (α × Nat)) x came
    simp [pushF, nd_zero] at this ⊢; exact this
  · refine Nat.le_trans (downF_cost cmp _ _ _) ?_
    simp
/-- pushes of r things on n -/
def pushMost : Nat → Nat → Nat
  | _, 0 => 0
  | n, r + 1 => nd n + 1 + pushMost (n + 1) r
theorem pushF_cost (r : List α) : ∀ (l : List (α × Nat)) (came : Nat), (pushF cmp l came r).2.2 ≤ pushMost l.length r.length := by
  induction r with
  | nil => intro l came; simp [pushF]
  | cons x r ih =>
    intro l came
    simp only [pushF, List.length_cons, pushMost]
    have h1 := putF_cost cmp l x came
    have h2 := ih (putF cmp l x came).1 (came + 1)
    rw [putF_length] at h2
    omega

/-! ### the things in the order of their coming -/
/-- l: the things of a heap in the order of their coming -/
def Coming (items : List (α × Nat)) (came : Nat) (l : List α) : Prop :=
  ∃ ns : List (α × Nat), ns.Perm items ∧ ns.Pairwise (fun a b => a.2 < b.2) ∧ (∀ x ∈ ns, x.2 < came) ∧ l = ns.map (·.1)

omit [Inhabited α] cmp in
theorem Coming.nil : Coming ([] : List (α × Nat)) 0 [] := ⟨[], .nil, .nil, by simp, rfl⟩
omit [Inhabited α] cmp in
theorem Coming.length {items : List (α × Nat)} {came : Nat} {l : List α} (h : Coming items came l) : items.length = l.length := by
  obtain ⟨ns, hp, _, _, rfl⟩ := h
  simp [hp.length_eq]

omit [Inhabited α] cmp in
theorem zipIdx_pairwise (r : List α) : ∀ n, (r.zipIdx n).Pairwise (fun a b => a.2 < b.2) ∧ ∀ x ∈ r.zipIdx n, n ≤ x.2 ∧ x.2 < n + r.length := by
  induction r with
  | nil => intro n; simp
  | cons x r ih =>
    intro n
    obtain ⟨h1, h2⟩ := ih (n + 1)
    simp only [List.zipIdx_cons, List.pairwise_cons, List.mem_cons, List.length_cons]
    refine ⟨⟨fun y hy => by have := h2 y hy; show n < _; omega, h1⟩, ?_⟩
    rintro y (rfl | hy)
    · simp
    · have := h2 y hy; omega

theorem Coming.push {items : List (α × Nat)} {came : Nat} {l : List α} (h : Coming items came l) (r : List α) : Coming (pushF cmp items came r).1 (came + r.length) (l ++ r) := by
  obtain ⟨ns, hp, hs, hlt, rfl⟩ := h
  obtain ⟨h1, h2⟩ := zipIdx_pairwise r came
  refine ⟨ns ++ r.zipIdx came, (hp.append_right _).trans (pushF_perm cmp r items came).symm, ?_, ?_, by simp [List.zipIdx_map_fst]⟩
  · rw [List.pairwise_append]
    exact ⟨hs, h1, fun a ha b hb => Nat.lt_of_lt_of_le (hlt a ha) (h2 b hb).1⟩
  · intro x hx
    rcases List.mem_append.1 hx with hx | hx
    · have := hlt x hx; omega
    · exact (h2 x hx).2

/-- the place of the first thing -/
def IsFst (l : List α) (i : Nat) : Prop := i < l.length ∧ (∀ j x y, j < i → l[j]? = some x → l[i]? = some y → cmp x y > 0) ∧ (∀ j x y, i < j → l[j]? = some x → l[i]? = some y → ¬ cmp x y < 0)

omit [Inhabited α] cmp in
theorem mem_split {ns : List (α × Nat)} {x : α × Nat} (h : x ∈ ns) : ∃ i, ns[i]? = some x ∧ (x :: ns.eraseIdx i).Perm ns := by
  obtain ⟨a, b, rfl⟩ := List.append_of_mem h
  refine ⟨a.length, by simp, ?_⟩
  rw [List.eraseIdx_append_of_length_le (Nat.le_refl _)]
  simpa using List.perm_middle.symm

variable {cmp}
theorem fst_of (L : Law cmp) {items : List (α × Nat)} {came : Nat} {ns : List (α × Nat)} (hh : Hd cmp items) (hp : ns.Perm items) (hs : ns.Pairwise (fun a b => a.2 < b.2)) (hne : items ≠ []) :
    ∃ i, ns[i]? = some (at_ items 0) ∧ (at_ items 0 :: ns.eraseIdx i).Perm ns ∧ IsFst cmp (ns.map (·.1)) i := by
  have hpos : 0 < items.length := List.length_pos_iff.2 hne
  have hm : at_ items 0 ∈ ns := hp.mem_iff.2 (by rw [at_eq _ _ hpos]; exact List.getElem_mem _)
  obtain ⟨i, h1, h2⟩ := mem_split hm
  refine ⟨i, h1, h2, ?_⟩
  have hi := (List.getElem?_eq_some_iff.1 h1).1
  have hle : ∀ y ∈ ns, Le cmp (at_ items 0) y := fun y hy => hh.root' L y (hp.mem_iff.1 hy)
  rw [List.pairwise_iff_getElem] at hs
  refine ⟨by simpa using hi, ?_, ?_⟩
  · intro j x y hj hx hy
    simp only [List.getElem?_map, h1, Option.map_some, Option.some.injEq] at hx hy
    subst hy
    have hjl : j < ns.length := by omega
    rw [List.getElem?_eq_getElem hjl] at hx
    simp only [Option.map_some, Option.some.injEq] at hx
    subst hx
    have hlt := hs j i hjl hi hj
    have := hle _ (List.getElem_mem hjl)
    have e : ns[i] = at_ items 0 := (List.getElem?_eq_some_iff.1 h1).2
    rw [e] at hlt
    simp only [Le, ahB, Bool.or_eq_false_iff, decide_eq_false_iff_not, Bool.and_eq_false_iff] at this
    omega
  · intro j x y hj hx hy
    simp only [List.getElem?_map, h1, Option.map_some, Option.some.injEq, Option.map_eq_some_iff] at hx hy
    subst hy
    obtain ⟨a, ha, rfl⟩ := hx
    have := hle a (List.mem_of_getElem? ha)
    simp only [Le, ahB, Bool.or_eq_false_iff, decide_eq_false_iff_not] at this
    exact this.1

omit [Inhabited α] in
theorem map_eraseIdx (f : α × Nat → α) : ∀ (l : List (α × Nat)) (i : Nat), (l.eraseIdx i).map f = (l.map f).eraseIdx i := by
  intro l
  induction l with
  | nil => intro i; simp
  | cons x l ih => intro i; cases i <;> simp [ih]

/-- the first one leaves -/
theorem Coming.pop (L : Law cmp) {items : List (α × Nat)} {came : Nat} {l : List α} (h : Coming items came l) (hh : Hd cmp items) (hne : items ≠ []) :
    ∃ i, IsFst cmp l i ∧ l[i]? = some (firstF items) ∧ Coming (popF cmp items).1 came (l.eraseIdx i) := by
  obtain ⟨ns, hp, hs, hlt, rfl⟩ := h
  obtain ⟨i, h1, h2, h3⟩ := fst_of (came := came) L hh hp hs hne
  refine ⟨i, h3, by simp [h1, firstF], ns.eraseIdx i, ?_, hs.eraseIdx i, fun x hx => hlt x (List.mem_of_mem_eraseIdx hx), (map_eraseIdx _ _ _).symm⟩
  exact (List.Perm.cons_inv (h2.trans (hp.trans (popF_perm cmp items hne).symm)))
theorem Coming.swap (L : Law cmp) {items : List (α × Nat)} {came : Nat} {l : List α} (h : Coming items came l) (hh : Hd cmp items) (hne : items ≠ []) (x : α) :
    ∃ i, IsFst cmp l i ∧ l[i]? = some (firstF items) ∧ Coming (swapF cmp items came x).1 (came + 1) (l.eraseIdx i ++ [x]) := by
  obtain ⟨ns, hp, hs, hlt, rfl⟩ := h
  obtain ⟨i, h1, h2, h3⟩ := fst_of (came := came) L hh hp hs hne
  have hlt' : ∀ y ∈ ns.eraseIdx i, y.2 < came := fun y hy => hlt y (List.mem_of_mem_eraseIdx hy)
  refine ⟨i, h3, by simp [h1, firstF], ns.eraseIdx i ++ [(x, came)], ?_, ?_, ?_, ?_⟩
  · refine List.Perm.cons_inv (a := at_ items 0) ?_
    refine .trans ?_ (swapF_perm cmp items came x hne).symm
    exact (h2.trans hp).append_right [(x, came)]
  · rw [List.pairwise_append]
    exact ⟨hs.eraseIdx i, by simp, fun a ha b hb => by simp at hb; subst hb; exact hlt' a ha⟩
  · intro y hy
    rcases List.mem_append.1 hy with hy | hy
    · have := hlt' y hy; omega
    · simp at hy; subst hy; simp
  · simp [map_eraseIdx]
end
end Go.Hp
