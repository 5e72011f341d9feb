/- Sort and Least on lists: in order, stable, the document's; how often they compare. No program; nothing is claimed of a law here. -/
import Derived.Test.YtcgenmfnlocbbaaH7
import Derived.Test.YtcgenmfnlocbbaaH9
namespace Go.Proofs.Ytcgenmfnlocbbaa.T
open Go.Lg Go.Hp

section
variable {α : Type} [Inhabited α] (cmp : α → α → Int)
def popsI : Nat → List (α × Nat) → List (α × Nat)
  | 0, _ => []
  | n + 1, items => at_ items 0 :: popsI n (popF cmp items).1
theorem popsF_map : ∀ (n : Nat) (items : List (α × Nat)), (popsF cmp n items).1 = (popsI cmp n items).map (·.1) := by
  intro n
  induction n with
  | zero => intro items; rfl
  | succ n ih => intro items; simp only [popsF, popsI, List.map_cons, ih]; rfl
theorem popsI_length : ∀ (n : Nat) (items : List (α × Nat)), (popsI cmp n items).length = n := by
  intro n
  induction n with
  | zero => intro items; rfl
  | succ n ih => intro items; simp [popsI, ih]
theorem popsI_perm : ∀ (n : Nat) (items : List (α × Nat)), items.length = n → (popsI cmp n items).Perm items := by
  intro n
  induction n with
  | zero => intro items h; rw [List.eq_nil_of_length_eq_zero h]; exact .nil
  | succ n ih =>
    intro items h
    have hne : items ≠ [] := by rintro rfl; simp at h
    refine ((ih (popF cmp items).1 (by rw [popF_length]; omega)).cons _).trans (popF_perm cmp items hne)
theorem popsF_cost : ∀ (n : Nat) (items : List (α × Nat)), items.length = n → (popsF cmp n items).2 ≤ n * (2 * nd n) := by
  intro n
  induction n with
  | zero => intro items h; simp [popsF]
  | succ n ih =>
    intro items h
    simp only [popsF]
    have h1 := popF_cost cmp items
    have h2 := ih (popF cmp items).1 (by rw [popF_length]; omega)
    have h3 := nd_mono n (n + 1) (by omega)
    have h4 : n * (2 * nd n) ≤ n * (2 * nd (n + 1)) := Nat.mul_le_mul_left _ (by omega)
    rw [h] at h1
    rw [Nat.add_mul]; omega
variable {cmp}
theorem popsI_sorted (L : Law cmp) : ∀ (n : Nat) (items : List (α × Nat)), items.length = n → Hd cmp items → (popsI cmp n items).Pairwise (Le cmp) := by
  intro n
  induction n with
  | zero => intro items h _; exact .nil
  | succ n ih =>
    intro items h hh
    have hne : items ≠ [] := by rintro rfl; simp at h
    have hl : (popF cmp items).1.length = n := by rw [popF_length]; omega
    refine List.pairwise_cons.2 ⟨fun y hy => ?_, ih _ hl (popF_hd L hh)⟩
    have h1 := (popsI_perm cmp n _ hl).mem_iff.1 hy
    exact hh.root' L y ((popF_perm cmp items hne).mem_iff.1 (List.mem_cons_of_mem _ h1))
end

abbrev Cmp1 := Int × Int → Int × Int → Int
def sortI (cmp : Cmp1) (l : List (Int × Int)) : List ((Int × Int) × Nat) := popsI cmp l.length (pushF cmp [] 0 l).1
theorem sortF_map (cmp : Cmp1) (l : List (Int × Int)) : sortF cmp l = (sortI cmp l).map (·.1) := popsF_map cmp _ _
theorem push0_length (cmp : Cmp1) (l : List (Int × Int)) : (pushF cmp [] 0 l).1.length = l.length := by have := (pushF_length cmp l [] 0).1; simpa using this
theorem sortI_perm (cmp : Cmp1) (l : List (Int × Int)) : (sortI cmp l).Perm (l.zipIdx 0) := by
  have h := (popsI_perm cmp l.length _ (push0_length cmp l)).trans (pushF_perm cmp l [] 0)
  exact h
theorem sortF_length (cmp : Cmp1) (l : List (Int × Int)) : (sortF cmp l).length = l.length := by rw [sortF_map, List.length_map]; exact popsI_length cmp _ _
theorem sortI_sorted {cmp : Cmp1} (L : Law cmp) (l : List (Int × Int)) : (sortI cmp l).Pairwise (Le cmp) := popsI_sorted L _ _ (push0_length cmp l) (pushF_hd L l hd_nil 0)
theorem pushMost_nd : ∀ (k n : Nat), pushMost n k ≤ k * (nd (n + k) + 1) := by
  intro k
  induction k with
  | zero => intro n; simp [pushMost]
  | succ k ih =>
    intro n
    simp only [pushMost]
    have h1 := ih (n + 1)
    have h2 := nd_mono n (n + (k + 1)) (by omega)
    rw [show n + 1 + k = n + (k + 1) by omega] at h1
    rw [Nat.add_mul]; omega
theorem sortC_le (cmp : Cmp1) (l : List (Int × Int)) : sortC cmp l ≤ l.length * (3 * nd l.length + 3) := by
  unfold sortC
  have h1 := pushF_cost cmp l [] 0
  have h2 := popsF_cost cmp l.length _ (push0_length cmp l)
  have h3 := pushMost_nd l.length 0
  simp only [List.length_nil, Nat.zero_add] at h1 h3
  have e : l.length * (3 * nd l.length + 3) = l.length * (nd l.length + 1) + l.length * (2 * nd l.length) + l.length * 2 := by
    rw [← Nat.mul_add, ← Nat.mul_add]; congr 1; omega
  omega

/-! ### Least -/
theorem ah_cmpL (cmp : Cmp1) (a b : ((Int × Int) × Nat) × Nat) : ahB (cmpL cmp) a b = ahB cmp b.1 a.1 := by
  unfold ahB cmpL
  by_cases h1 : cmp b.1.1 a.1.1 = 0
  · by_cases h2 : a.1.2 > b.1.2
    · simp [h1, h2]
    · simp [h1, h2]
  · by_cases h2 : cmp b.1.1 a.1.1 < 0
    · simp [h1, h2]
    · simp [h1, h2]
theorem le_cmpL (cmp : Cmp1) (a b : ((Int × Int) × Nat) × Nat) : Le (cmpL cmp) a b ↔ Le cmp b.1 a.1 := by unfold Le; rw [ah_cmpL]
theorem lawL {cmp : Cmp1} (L : Law cmp) : Law (cmpL cmp) := by
  constructor
  · intro a b c h1 h2
    rw [le_cmpL] at *
    exact L.trans _ _ _ h2 h1
  · intro a b
    rw [le_cmpL, le_cmpL]
    exact (L.total _ _)
def Anti (cmp : Cmp1) : Prop := ∀ a b : (Int × Int) × Nat, Le cmp a b → Le cmp b a → a.2 = b.2
theorem antiK : Anti cmpK := by
  rintro ⟨⟨a, _⟩, n⟩ ⟨⟨b, _⟩, m⟩ h1 h2
  simp only [Le, ahB, cmpK, Bool.or_eq_false_iff, Bool.and_eq_false_iff, decide_eq_false_iff_not] at *
  (repeat' split at h1) <;> (repeat' split at h2) <;> omega
theorem anti0 : Anti cmp0 := by
  rintro ⟨_, n⟩ ⟨_, m⟩ h1 h2
  simp [Le, ahB, cmp0] at *
  omega
theorem AllOk.anti {all : Bool} {cmp : Cmp1} (h : AllOk all cmp) : Anti cmp := by
  rcases h with ⟨_, rfl⟩ | ⟨_, rfl⟩
  · exact antiK
  · exact anti0

theorem zipIdx_take_succ (l : List (Int × Int)) (i : Nat) (hi : i < l.length) : (l.zipIdx 0).take (i + 1) = (l.zipIdx 0).take i ++ [(l[i], i)] := by
  rw [List.take_add_one]
  simp [hi]
theorem zipIdx_mem_lt {l : List (Int × Int)} {i : Nat} {x : (Int × Int) × Nat} (h : x ∈ (l.zipIdx 0).take i) : x.2 < i := by
  obtain ⟨j, hj, rfl⟩ := List.mem_iff_getElem.1 h
  simp at hj ⊢; omega

/-- what Least's heap holds behind i things, in any case -/
theorem ls_perm (cmp : Cmp1) (m : Nat) (hm : 0 < m) (l : List (Int × Int)) : ∀ i, i ≤ l.length → ∃ R, ((lsRun cmp m l i).items.map (·.1) ++ R).Perm ((l.zipIdx 0).take i) := by
  intro i
  induction i with
  | zero => intro _; exact ⟨[], by simp [lsRun]⟩
  | succ i ih =>
    intro hi
    obtain ⟨R, hR⟩ := ih (by omega)
    have hgd : l.getD i (0, 0) = l[i]'(by omega) := by simp [show i < l.length by omega]
    rw [zipIdx_take_succ l i (by omega)]
    simp only [lsRun, lsStep, hgd]
    obtain ⟨hlen, _⟩ := lsRun_length cmp m hm l i
    generalize (lsRun cmp m l i) = s at *
    split
    · refine ⟨R, ?_⟩
      have h1 := (pushF_perm (cmpL cmp) [(l[i]'(by omega), i)] s.items s.came).map (·.1)
      refine (h1.append_right R).trans ?_
      simp only [List.zipIdx_cons, List.zipIdx_nil, List.map_append, List.map_cons, List.map_nil]
      refine .trans ?_ (hR.append_right _)
      classical exact List.perm_iff_count.2 fun q => by simp only [List.count_append, List.count_cons, List.count_nil]; omega
    · rename_i him
      have hne : s.items ≠ [] := List.length_pos_iff.1 (by omega)
      split
      · refine ⟨(at_ s.items 0).1 :: R, ?_⟩
        have h1 := (swapF_perm (cmpL cmp) s.items s.came (l[i]'(by omega), i) hne).map (·.1)
        simp only [List.map_cons, List.map_append, List.map_nil] at h1
        refine .trans ?_ (hR.append_right _)
        have h2 := h1.append_right R
        refine .trans ?_ (h2.trans ?_)
        · classical exact List.perm_iff_count.2 fun q => by simp only [List.count_append, List.count_cons, List.count_nil]; omega
        · classical exact List.perm_iff_count.2 fun q => by simp only [List.count_append, List.count_cons, List.count_nil]; omega
      · refine ⟨R ++ [(l[i]'(by omega), i)], ?_⟩
        rw [← List.append_assoc]
        exact hR.append_right _

theorem ls_inv {cmp : Cmp1} (L : Law cmp) (m : Nat) (hm : 0 < m) (l : List (Int × Int)) : ∀ i, i ≤ l.length → Hd (cmpL cmp) (lsRun cmp m l i).items ∧
    ∃ R, ((lsRun cmp m l i).items.map (·.1) ++ R).Perm ((l.zipIdx 0).take i) ∧ (∀ x ∈ (lsRun cmp m l i).items, ∀ y ∈ R, Le cmp x.1 y) ∧ (i < m → R = []) := by
  intro i
  induction i with
  | zero => intro _; exact ⟨hd_nil, [], by simp [lsRun], by simp, fun _ => rfl⟩
  | succ i ih =>
    intro hi
    obtain ⟨hh, R, hR, hle, hR0⟩ := ih (by omega)
    have hgd : l.getD i (0, 0) = l[i]'(by omega) := by simp [show i < l.length by omega]
    have hil : i < l.length := by omega
    rw [zipIdx_take_succ l i hil]
    simp only [lsRun, lsStep, hgd]
    obtain ⟨hlen, _⟩ := lsRun_length cmp m hm l i
    have hmem : ∀ x ∈ (lsRun cmp m l i).items, x.1.2 < i := fun x hx => zipIdx_mem_lt (hR.mem_iff.1 (List.mem_append_left _ (List.mem_map_of_mem (f := (·.1)) hx)))
    generalize (lsRun cmp m l i) = s at *
    have LL := lawL L
    split
    · rename_i him
      obtain rfl := hR0 him
      refine ⟨pushF_hd LL _ hh _, [], ?_, by simp, fun _ => rfl⟩
      have h1 := (pushF_perm (cmpL cmp) [(l[i], i)] s.items s.came).map (·.1)
      refine (h1.append_right []).trans ?_
      simp only [List.zipIdx_cons, List.zipIdx_nil, List.map_append, List.map_cons, List.map_nil, List.append_nil] at hR ⊢
      exact hR.append_right _
    · rename_i him
      have hne : s.items ≠ [] := List.length_pos_iff.1 (by omega)
      have hroot : ∀ x ∈ s.items, Le cmp x.1 (at_ s.items 0).1 := fun x hx => (le_cmpL cmp _ _).1 (hh.root' LL x hx)
      have hrm : at_ s.items 0 ∈ s.items := first_mem2 hne
      have hr2 := hmem _ hrm
      split
      · rename_i hc
        have hz : Le cmp (l[i], i) (at_ s.items 0).1 := L.of_ah (by unfold ahB; rw [decide_eq_true (show cmp l[i] (at_ s.items 0).1.1 < 0 from hc)]; rfl)
        have h1 := swapF_perm (cmpL cmp) s.items s.came (l[i], i) hne
        refine ⟨swapF_hd LL hh _ _, (at_ s.items 0).1 :: R, ?_, ?_, fun h => absurd h (by omega)⟩
        · have h1 := h1.map (·.1)
          simp only [List.map_cons, List.map_append, List.map_nil] at h1
          refine .trans ?_ (hR.append_right _)
          have h2 := h1.append_right R
          refine .trans ?_ (h2.trans ?_)
          · classical exact List.perm_iff_count.2 fun q => by simp only [List.count_append, List.count_cons, List.count_nil]; omega
          · classical exact List.perm_iff_count.2 fun q => by simp only [List.count_append, List.count_cons, List.count_nil]; omega
        · intro x hx y hy
          have hx' := h1.mem_iff.1 (List.mem_cons_of_mem _ hx)
          have hxr : Le cmp x.1 (at_ s.items 0).1 := by
            rcases List.mem_append.1 hx' with hx' | hx'
            · exact hroot x hx'
            · simp at hx'; subst hx'; exact hz
          rcases List.mem_cons.1 hy with rfl | hy
          · exact hxr
          · exact L.trans _ _ _ hxr (hle _ hrm y hy)
      · rename_i hc
        have hz : Le cmp (at_ s.items 0).1 (l[i], i) := by
          unfold Le ahB
          rw [decide_eq_false (show ¬ cmp l[i] (at_ s.items 0).1.1 < 0 from hc), decide_eq_false (show ¬ i < (at_ s.items 0).1.2 by omega)]
          simp
        refine ⟨hh, R ++ [(l[i], i)], ?_, ?_, fun h => absurd h (by omega)⟩
        · rw [← List.append_assoc]; exact hR.append_right _
        · intro x hx y hy
          rcases List.mem_append.1 hy with hy | hy
          · exact hle x hx y hy
          · simp at hy; subst hy; exact L.trans _ _ _ (hroot x hx) hz
where
  first_mem2 {items : List (((Int × Int) × Nat) × Nat)} (h : items ≠ []) : at_ items 0 ∈ items := by
    have hpos : 0 < items.length := List.length_pos_iff.2 h
    rw [at_eq _ _ hpos]; exact List.getElem_mem _

theorem least_take {cmp : Cmp1} (L : Law cmp) (An : Anti cmp) (l : List (Int × Int)) (m : Nat) (hml : m ≤ l.length) : leastF cmp l m = (sortF cmp l).take m := by
  by_cases hm : m = 0
  · subst hm; simp [leastF, popsF]
  have hm0 : 0 < m := by omega
  obtain ⟨hh, R, hR, hle, -⟩ := ls_inv L m hm0 l l.length (Nat.le_refl _)
  have hlen := (lsRun_length cmp m hm0 l l.length).1
  have hmm : min l.length m = m := by omega
  rw [hmm] at hlen
  rw [List.take_of_length_le (by simp)] at hR
  let A := ((popsI (cmpL cmp) m (lsRun cmp m l l.length).items).map (·.1)).reverse
  have hA : leastF cmp l m = A.map (·.1) := by
    show _ = (((popsI (cmpL cmp) m (lsRun cmp m l l.length).items).map (·.1)).reverse).map (·.1)
    unfold leastF
    rw [popsF_map, List.map_reverse]
  have hAp : A.Perm ((lsRun cmp m l l.length).items.map (·.1)) := (List.reverse_perm _).trans ((popsI_perm (cmpL cmp) m _ hlen).map _)
  have hAs : A.Pairwise (Le cmp) := by
    rw [List.pairwise_reverse, List.pairwise_map]
    exact (popsI_sorted (lawL L) m _ hlen hh).imp fun {a b} h => (le_cmpL cmp a b).1 h
  have hAl : A.length = m := by rw [hAp.length_eq, List.length_map, hlen]
  let le' : (Int × Int) × Nat → (Int × Int) × Nat → Bool := fun a b => !ahB cmp b a
  have hRs : (R.mergeSort le').Pairwise (Le cmp) := by
    have h := List.pairwise_mergeSort (le := le') (fun a b c h1 h2 => by
      have h1' : ahB cmp b a = false := by simpa [le'] using h1
      have h2' : ahB cmp c b = false := by simpa [le'] using h2
      have := L.trans a b c h1' h2'
      simpa [le', Le] using this) (fun a b => by
      rcases L.total a b with h | h
      · simp [le', show ahB cmp b a = false from h]
      · simp [le', show ahB cmp a b = false from h]) R
    exact h.imp fun {a b} h => by simpa [le', Le] using h
  have hRp : (R.mergeSort le').Perm R := List.mergeSort_perm R le'
  have hS : (A ++ R.mergeSort le').Pairwise (Le cmp) := List.pairwise_append.2 ⟨hAs, hRs, fun x hx y hy => by
    obtain ⟨z, hz, rfl⟩ := List.mem_map.1 (hAp.mem_iff.1 hx)
    exact hle z hz y (hRp.mem_iff.1 hy)⟩
  have hP : (A ++ R.mergeSort le').Perm (l.zipIdx 0) := (hAp.append hRp).trans hR
  have heq : A ++ R.mergeSort le' = sortI cmp l := by
    refine List.Perm.eq_of_pairwise (le := Le cmp) (fun a b ha hb h1 h2 => ?_) hS (sortI_sorted L l) (hP.trans (sortI_perm cmp l).symm)
    have e := An a b h1 h2
    have ha' := hP.mem_iff.1 ha
    have hb' := (sortI_perm cmp l).mem_iff.1 hb
    obtain ⟨i, hi, rfl⟩ := List.mem_iff_getElem.1 ha'
    obtain ⟨j, hj, rfl⟩ := List.mem_iff_getElem.1 hb'
    simp at e
    subst e; rfl
  rw [hA, sortF_map, ← heq, ← List.map_take, List.take_left' hAl]

/-! ### how often Least compares -/
theorem lsRun_cost (cmp : Cmp1) (m : Nat) (hm : 0 < m) (l : List (Int × Int)) : ∀ i, (lsRun cmp m l i).cn ≤ (min i m) * nd m + (i - m) * (2 * nd m + 1) := by
  intro i
  induction i with
  | zero => simp [lsRun]
  | succ i ih =>
    obtain ⟨hlen, _⟩ := lsRun_length cmp m hm l i
    simp only [lsRun, lsStep]
    split
    · rename_i him
      have h1 := putF_cost (cmpL cmp) (lsRun cmp m l i).items (l.getD i (0, 0), i) (lsRun cmp m l i).came
      have h2 := nd_mono (lsRun cmp m l i).items.length m (by omega)
      have e1 : min (i + 1) m = min i m + 1 := by omega
      have e2 : i + 1 - m = i - m := by omega
      have e3 : (pushF (cmpL cmp) (lsRun cmp m l i).items (lsRun cmp m l i).came [(l.getD i (0, 0), i)]).2.2 = (putF (cmpL cmp) (lsRun cmp m l i).items (l.getD i (0, 0), i) (lsRun cmp m l i).came).2 := by simp [pushF]
      rw [e1, e2, Nat.add_mul]
      simp only [e3]
      omega
    · rename_i him
      have e1 : min (i + 1) m = min i m := by omega
      have e2 : i + 1 - m = i - m + 1 := by omega
      rw [e1, e2, Nat.add_mul (i - m) 1]
      split
      · have h1 := swapF_cost (cmpL cmp) (lsRun cmp m l i).items (lsRun cmp m l i).came (l.getD i (0, 0), i)
        have h2 := nd_mono (lsRun cmp m l i).items.length m (by omega)
        simp only at h1 ⊢
        omega
      · simp only; omega
theorem leastC_le (cmp : Cmp1) (l : List (Int × Int)) (m : Nat) (hml : m ≤ l.length) : leastC cmp l m ≤ l.length * (3 * nd m + 3) := by
  unfold leastC
  split
  · simp
  · rename_i hm
    have hm0 : 0 < m := by omega
    have hlen := (lsRun_length cmp m hm0 l l.length).1
    have h1 := lsRun_cost cmp m hm0 l l.length
    have h2 := popsF_cost (cmpL cmp) m _ (show (lsRun cmp m l l.length).items.length = m by omega)
    have e : min l.length m = m := by omega
    rw [e] at h1
    obtain ⟨d, hd⟩ : ∃ d, l.length = m + d := ⟨l.length - m, by omega⟩
    have e2 : l.length - m = d := by omega
    rw [e2] at h1
    have e4 : l.length * (3 * nd m + 3) = m * (3 * nd m + 3) + d * (3 * nd m + 3) := by rw [hd, Nat.add_mul]
    rw [e4]
    have h3 : d * (2 * nd m + 1) ≤ d * (3 * nd m + 3) := Nat.mul_le_mul_left _ (by omega)
    have h4 : m * nd m + m * (2 * nd m) ≤ m * (3 * nd m + 3) := by
      rw [← Nat.mul_add]; exact Nat.mul_le_mul_left _ (by omega)
    omega
theorem leastF_length (cmp : Cmp1) (l : List (Int × Int)) (m : Nat) : (leastF cmp l m).length = m := by
  unfold leastF
  rw [List.length_reverse, List.length_map, popsF_map, List.length_map, popsI_length]

/-! ### the document's sort -/
/-- one thing behind the other is sought -/
def docF (all : Bool) : Nat → List (Int × Int) → List (Int × Int)
  | 0, _ => []
  | n + 1, l => match fstI all l l.length with
    | none => []
    | some i => l.getD i (0, 0) :: docF all n (l.eraseIdx i)
theorem docF_pops {all : Bool} {cmp : Cmp1} (h : AllOk all cmp) : ∀ (n : Nat) (items : List ((Int × Int) × Nat)) (came : Nat) (l : List (Int × Int)), l.length = n → Hd cmp items → Coming items came l → (popsF cmp n items).1 = docF all n l := by
  intro n
  induction n with
  | zero => intro items came l _ _ _; rfl
  | succ n ih =>
    intro items came l hl hh hc
    have hne : items ≠ [] := by
      rintro rfl
      have := hc.length
      simp at this; omega
    obtain ⟨i, h1, h2, h3⟩ := hc.pop h.law hh hne
    have h4 := fstI_of h h1
    simp only [popsF, docF, h4]
    rw [ih _ came (l.eraseIdx i) (by rw [List.length_eraseIdx_of_lt h1.1]; omega) (popF_hd h.law hh) h3]
    simp [h2]
theorem sortF_doc {all : Bool} {cmp : Cmp1} (h : AllOk all cmp) (l : List (Int × Int)) : sortF cmp l = docF all l.length l :=
  docF_pops h l.length _ (0 + l.length) l rfl (pushF_hd h.law l hd_nil 0) (by simpa using Coming.nil.push cmp l)
end Go.Proofs.Ytcgenmfnlocbbaa.T
