/- The console's words are the document's. Plain Lean; nothing is claimed of the program here. -/
import Derived.Test.YtcgenmfnlocbbaaDoorC2
namespace Go.Proofs.YtcgenmfnlocbbaaDoor.T
open Go.Lg

theorem runA_cons (b : UInt8) (r : List UInt8) (s : Sc) : runA (b :: r) s = match stepF s b.toNat [b] with
    | .go s' => runA r s'
    | .brk s' => some s'
    | .bad => none := rfl
theorem step2 (h : Int) (w : List UInt8) (ws : List (List UInt8)) (x : UInt8) (b : List UInt8) : stepF ⟨2, h, w, ws⟩ x.toNat b = if x.toNat = 34 then .go ⟨6, h, w, ws⟩ else if x.toNat = 92 then .go ⟨3, h, w, ws⟩ else .go ⟨2, h, w ++ b, ws⟩ := by
  have i2 : inF ⟨2, h, w, ws⟩ x.toNat b = (if x.toNat = 34 then ⟨6, h, w, ws⟩ else if x.toNat = 92 then ⟨3, h, w, ws⟩ else ⟨2, h, w ++ b, ws⟩, true) := rfl
  show (if (inF ⟨2, h, w, ws⟩ x.toNat b).2 = true then Stp.go _ else Stp.bad) = _
  rw [i2, if_pos rfl]
  (repeat' split) <;> rfl
theorem step3 (h : Int) (w : List UInt8) (ws : List (List UInt8)) (x : UInt8) (b : List UInt8) : stepF ⟨3, h, w, ws⟩ x.toNat b = if x.toNat = 120 then .go ⟨4, h, w, ws⟩ else match strokeF x.toNat with
    | some y => .go ⟨2, h, w ++ [y], ws⟩
    | none => .bad := by
  have i3 : inF ⟨3, h, w, ws⟩ x.toNat b = if x.toNat = 120 then (⟨4, h, w, ws⟩, true) else match strokeF x.toNat with
      | some y => (⟨2, h, w ++ [y], ws⟩, true)
      | none => (⟨3, h, w, ws⟩, false) := rfl
  show (if (inF ⟨3, h, w, ws⟩ x.toNat b).2 = true then Stp.go _ else Stp.bad) = _
  rw [i3]
  by_cases h1 : x.toNat = 120
  · rw [if_pos h1, if_pos h1]; rfl
  · rw [if_neg h1, if_neg h1]
    cases strokeF x.toNat <;> rfl
theorem step4 (h : Int) (w : List UInt8) (ws : List (List UInt8)) (c : Nat) (b : List UInt8) : stepF ⟨4, h, w, ws⟩ c b = if 0 ≤ digF c then .go ⟨5, digF c, w, ws⟩ else .bad := by
  have i4 : inF ⟨4, h, w, ws⟩ c b = (⟨5, digF c, w, ws⟩, decide (digF c ≥ 0)) := rfl
  show (if (inF ⟨4, h, w, ws⟩ c b).2 = true then Stp.go _ else Stp.bad) = _
  rw [i4]
  by_cases h0 : 0 ≤ digF c
  · rw [if_pos h0, if_pos (decide_eq_true h0)]
  · rw [if_neg h0, if_neg (fun hh => h0 (of_decide_eq_true hh))]
theorem step5 (h : Int) (w : List UInt8) (ws : List (List UInt8)) (c : Nat) (b : List UInt8) : stepF ⟨5, h, w, ws⟩ c b = if 0 ≤ digF c then .go ⟨2, h, w ++ [byteF (16 * h + digF c)], ws⟩ else .bad := by
  have i5 : inF ⟨5, h, w, ws⟩ c b = (⟨2, h, w ++ [byteF (16 * h + digF c)], ws⟩, decide (digF c ≥ 0)) := rfl
  show (if (inF ⟨5, h, w, ws⟩ c b).2 = true then Stp.go _ else Stp.bad) = _
  rw [i5]
  by_cases h0 : 0 ≤ digF c
  · rw [if_pos h0, if_pos (decide_eq_true h0)]
  · rw [if_neg h0, if_neg (fun hh => h0 (of_decide_eq_true hh))]
theorem strokeF_some (y : UInt8) (h : y.toNat = 92 ∨ y.toNat = 34) : strokeF y.toNat = some y := by
  unfold strokeF
  rcases h with h | h
  · rw [if_pos h]; exact congrArg some (UInt8.toNat_inj.1 h.symm)
  · rw [if_neg (by omega), if_pos h]; exact congrArg some (UInt8.toNat_inj.1 h.symm)
theorem quoted_eq : ∀ (f : Nat) (r b : List UInt8) (h : Int) (ws : List (List UInt8)), r.length ≤ f → ∃ h', (runA r ⟨2, h, b, ws⟩).bind lastF = match quotedL f r b with
    | none => none
    | some (w, rest) => (runA rest ⟨6, h', w, ws⟩).bind lastF := by
  intro f
  induction f with
  | zero =>
    intro r b h ws hr
    obtain rfl : r = [] := List.eq_nil_of_length_eq_zero (by omega)
    exact ⟨h, rfl⟩
  | succ f ih =>
    intro r b h ws hr
    cases r with
    | nil => exact ⟨h, rfl⟩
    | cons x r =>
      simp only [List.length_cons] at hr
      rw [runA_cons, step2, quotedL]
      by_cases x34 : x.toNat = 34
      · rw [if_pos x34, if_pos x34]; exact ⟨h, rfl⟩
      rw [if_neg x34, if_neg x34]
      by_cases x92 : x.toNat = 92
      case neg =>
        rw [if_neg x92, if_pos x92]
        exact ih r (b ++ [x]) h ws (by omega)
      rw [if_pos x92, if_neg (fun hh => hh x92)]
      simp only
      cases r with
      | nil => exact ⟨h, rfl⟩
      | cons y r =>
        simp only [List.length_cons] at hr
        rw [runA_cons, step3]
        by_cases y1 : y.toNat = 92 ∨ y.toNat = 34
        · have hs : strokedF (y :: r) = (y, 1) := by simp only [strokedF]; rw [if_pos y1]
          rw [if_neg (by omega), strokeF_some y y1, hs, if_neg (show ¬ ((1 : Nat) = 0) by decide)]
          exact ih r (b ++ [y]) h ws (by omega)
        have n92 : ¬ y.toNat = 92 := fun hh => y1 (.inl hh)
        have n34 : ¬ y.toNat = 34 := fun hh => y1 (.inr hh)
        by_cases y2 : y.toNat = 110
        · have hs : strokedF (y :: r) = (10, 1) := by simp only [strokedF]; rw [if_neg y1, if_pos y2]
          have ht : strokeF y.toNat = some 10 := by rw [strokeF, if_neg n92, if_neg n34, if_pos y2]
          rw [if_neg (by omega), ht, hs, if_neg (show ¬ ((1 : Nat) = 0) by decide)]
          exact ih r (b ++ [10]) h ws (by omega)
        by_cases y3 : y.toNat = 116
        · have hs : strokedF (y :: r) = (9, 1) := by simp only [strokedF]; rw [if_neg y1, if_neg y2, if_pos y3]
          have ht : strokeF y.toNat = some 9 := by rw [strokeF, if_neg n92, if_neg n34, if_neg y2, if_pos y3]
          rw [if_neg (by omega), ht, hs, if_neg (show ¬ ((1 : Nat) = 0) by decide)]
          exact ih r (b ++ [9]) h ws (by omega)
        by_cases y4 : y.toNat = 120
        case neg =>
          have hs : strokedF (y :: r) = (0, 0) := by simp only [strokedF]; rw [if_neg y1, if_neg y2, if_neg y3, if_neg (fun hh => y4 hh.1)]
          have ht : strokeF y.toNat = none := by rw [strokeF, if_neg n92, if_neg n34, if_neg y2, if_neg y3]
          rw [if_neg y4, ht, hs, if_pos rfl]
          exact ⟨h, rfl⟩
        rw [if_pos y4]
        simp only
        have bad : ∀ r', (3 ≤ (y :: r').length → ¬ (0 ≤ digF ((y :: r').getD 1 0).toNat ∧ 0 ≤ digF ((y :: r').getD 2 0).toNat)) → strokedF (y :: r') = (0, 0) := fun r' hb => by
          simp only [strokedF]
          rw [if_neg y1, if_neg y2, if_neg y3, if_neg (fun hh => hb hh.2.1 ⟨hh.2.2.1, hh.2.2.2⟩)]
        match r with
        | [] =>
          rw [bad [] (fun hh => by simp at hh), if_pos rfl]
          exact ⟨h, rfl⟩
        | [c1] =>
          rw [bad [c1] (fun hh => by simp at hh), if_pos rfl, runA_cons, step4]
          refine ⟨h, ?_⟩
          split <;> rename_i hq
          · split at hq
            · cases hq; rfl
            · cases hq
          · split at hq <;> cases hq
          · rfl
        | c1 :: c2 :: r3 =>
          rw [runA_cons, step4]
          by_cases d1 : 0 ≤ digF c1.toNat
          case neg =>
            rw [bad (c1 :: c2 :: r3) (fun _ hh => d1 hh.1), if_pos rfl, if_neg d1]
            exact ⟨h, rfl⟩
          rw [if_pos d1]
          simp only
          rw [runA_cons, step5]
          by_cases d2 : 0 ≤ digF c2.toNat
          case neg =>
            rw [bad (c1 :: c2 :: r3) (fun _ hh => d2 hh.2), if_pos rfl, if_neg d2]
            exact ⟨h, rfl⟩
          have hs : strokedF (y :: c1 :: c2 :: r3) = (byteF (16 * digF c1.toNat + digF c2.toNat), 3) := by
            simp only [strokedF]
            rw [if_neg y1, if_neg y2, if_neg y3, if_pos ⟨y4, by simp, d1, d2⟩]
            rfl
          rw [if_pos d2, hs, if_neg (show ¬ ((3 : Nat) = 0) by decide)]
          simp only [List.length_cons] at hr
          exact ih r3 (b ++ [byteF (16 * digF c1.toNat + digF c2.toNat)]) (digF c1.toNat) ws (by omega)
theorem quotedL_len : ∀ (f : Nat) (r b w rest : List UInt8), quotedL f r b = some (w, rest) → rest.length ≤ r.length := by
  intro f
  induction f with
  | zero => intro r b w rest h; cases h
  | succ f ih =>
    intro r b w rest h
    cases r with
    | nil => cases h
    | cons x r =>
      rw [quotedL] at h
      split at h
      · simp only [Option.some.injEq, Prod.mk.injEq] at h
        obtain ⟨-, rfl⟩ := h
        simp
      · split at h
        · have := ih _ _ _ _ h
          simp; omega
        · split at h
          · cases h
          · have := ih _ _ _ _ h
            rw [List.length_drop] at this
            simp; omega
theorem step0 (h : Int) (ws : List (List UInt8)) (x : UInt8) : stepF ⟨0, h, [], ws⟩ x.toNat [x] = if blankF x.toNat = true then .go ⟨0, h, [], ws⟩ else if x.toNat = 35 then .brk ⟨0, h, [], ws⟩ else if x.toNat = 34 then .go ⟨2, h, [], ws⟩ else .go ⟨1, h, [x], ws⟩ := by
  have i0 : outF ⟨0, h, [], ws⟩ x.toNat [x] = if blankF x.toNat = true then (⟨0, h, [], ws⟩, true, true) else if x.toNat = 35 ∧ (0 : Int) ≠ 1 then (⟨0, h, [], ws⟩, false, true) else if (0 : Int) = 6 ∨ (x.toNat = 34 ∧ (0 : Int) = 1) then (⟨0, h, [], ws⟩, false, false) else if x.toNat = 34 then (⟨2, h, [], ws⟩, true, true) else (⟨1, h, [] ++ [x], ws⟩, true, true) := rfl
  have key : ∀ q, outF ⟨0, h, [], ws⟩ x.toNat [x] = q → stepF ⟨0, h, [], ws⟩ x.toNat [x] = if q.2.2 = true then (if q.2.1 = true then Stp.go q.1 else Stp.brk q.1) else Stp.bad := fun q hq => by
    rw [← hq]; rfl
  by_cases h1 : blankF x.toNat = true
  · rw [if_pos h1] at i0 ⊢; rw [key _ i0]; rfl
  rw [if_neg h1] at i0 ⊢
  by_cases h2 : x.toNat = 35
  · rw [if_pos ⟨h2, by decide⟩] at i0; rw [if_pos h2, key _ i0]; rfl
  rw [if_neg (fun hh => h2 hh.1), if_neg (by omega)] at i0
  rw [if_neg h2]
  by_cases h3 : x.toNat = 34
  · rw [if_pos h3] at i0 ⊢; rw [key _ i0]; rfl
  · rw [if_neg h3] at i0 ⊢; rw [key _ i0]; rfl
theorem step1 (h : Int) (b : List UInt8) (ws : List (List UInt8)) (x : UInt8) : stepF ⟨1, h, b, ws⟩ x.toNat [x] = if blankF x.toNat = true then .go ⟨0, h, [], ws ++ [b]⟩ else if x.toNat = 34 then .bad else .go ⟨1, h, b ++ [x], ws⟩ := by
  have i1 : outF ⟨1, h, b, ws⟩ x.toNat [x] = if blankF x.toNat = true then (⟨0, h, [], ws ++ [b]⟩, true, true) else if x.toNat = 35 ∧ (1 : Int) ≠ 1 then (⟨1, h, b, ws⟩, false, true) else if (1 : Int) = 6 ∨ (x.toNat = 34 ∧ (1 : Int) = 1) then (⟨1, h, b, ws⟩, false, false) else if x.toNat = 34 then (⟨2, h, b, ws⟩, true, true) else (⟨1, h, b ++ [x], ws⟩, true, true) := rfl
  have key : ∀ q, outF ⟨1, h, b, ws⟩ x.toNat [x] = q → stepF ⟨1, h, b, ws⟩ x.toNat [x] = if q.2.2 = true then (if q.2.1 = true then Stp.go q.1 else Stp.brk q.1) else Stp.bad := fun q hq => by
    rw [← hq]; rfl
  by_cases h1 : blankF x.toNat = true
  · rw [if_pos h1] at i1 ⊢; rw [key _ i1]; rfl
  rw [if_neg h1, if_neg (fun hh => hh.2 rfl)] at i1
  rw [if_neg h1]
  by_cases h3 : x.toNat = 34
  · rw [if_pos (.inr ⟨h3, rfl⟩)] at i1; rw [if_pos h3, key _ i1]; rfl
  · rw [if_neg (by omega), if_neg h3] at i1; rw [if_neg h3, key _ i1]; rfl
theorem step6 (h : Int) (b : List UInt8) (ws : List (List UInt8)) (x : UInt8) : stepF ⟨6, h, b, ws⟩ x.toNat [x] = if blankF x.toNat = true then .go ⟨0, h, [], ws ++ [b]⟩ else if x.toNat = 35 then .brk ⟨6, h, b, ws⟩ else .bad := by
  have i6 : outF ⟨6, h, b, ws⟩ x.toNat [x] = if blankF x.toNat = true then (⟨0, h, [], ws ++ [b]⟩, true, true) else if x.toNat = 35 ∧ (6 : Int) ≠ 1 then (⟨6, h, b, ws⟩, false, true) else if (6 : Int) = 6 ∨ (x.toNat = 34 ∧ (6 : Int) = 1) then (⟨6, h, b, ws⟩, false, false) else if x.toNat = 34 then (⟨2, h, b, ws⟩, true, true) else (⟨1, h, b ++ [x], ws⟩, true, true) := rfl
  have key : ∀ q, outF ⟨6, h, b, ws⟩ x.toNat [x] = q → stepF ⟨6, h, b, ws⟩ x.toNat [x] = if q.2.2 = true then (if q.2.1 = true then Stp.go q.1 else Stp.brk q.1) else Stp.bad := fun q hq => by
    rw [← hq]; rfl
  by_cases h1 : blankF x.toNat = true
  · rw [if_pos h1] at i6 ⊢; rw [key _ i6]; rfl
  rw [if_neg h1] at i6 ⊢
  by_cases h2 : x.toNat = 35
  · rw [if_pos ⟨h2, by decide⟩] at i6; rw [if_pos h2, key _ i6]; rfl
  · rw [if_neg (fun hh => h2 hh.1), if_pos (.inl rfl)] at i6; rw [if_neg h2, key _ i6]; rfl
theorem closed_eq (rest : List UInt8) (h : Int) (w : List UInt8) (ws : List (List UInt8)) : (runA rest ⟨6, h, w, ws⟩).bind lastF = if afterB rest = true then (runA rest ⟨0, h, [], ws ++ [w]⟩).bind lastF else none := by
  cases rest with
  | nil => rfl
  | cons y r =>
    rw [runA_cons, runA_cons, step6, step0]
    have ha : afterB (y :: r) = (blankF y.toNat || decide (y.toNat = 35)) := rfl
    by_cases h1 : blankF y.toNat = true
    · rw [if_pos h1, if_pos h1, if_pos (show afterB (y :: r) = true by rw [ha, h1]; rfl)]
    rw [if_neg h1, if_neg h1]
    by_cases h2 : y.toNat = 35
    · rw [if_pos h2, if_pos h2, if_pos (show afterB (y :: r) = true by rw [ha, decide_eq_true h2, Bool.or_true])]; rfl
    · rw [if_neg h2, if_neg (show ¬ afterB (y :: r) = true by rw [ha, decide_eq_false h2, Bool.or_false]; exact h1)]; rfl
theorem blank_not34 {x : UInt8} (h : blankF x.toNat = true) : ¬ x.toNat = 34 := by
  intro hx; rw [hx] at h; revert h; decide
theorem plain_eq (r : List UInt8) : ∀ (h : Int) (b : List UInt8) (ws : List (List UInt8)), (runA r ⟨1, h, b, ws⟩).bind lastF =
    if headIs34 (r.dropWhile plainB) = true then none else (runA (r.dropWhile plainB) ⟨0, h, [], ws ++ [b ++ r.takeWhile plainB]⟩).bind lastF := by
  induction r with
  | nil => intro h b ws; simp [headIs34, runA, lastF]
  | cons x r ih =>
    intro h b ws
    rw [runA_cons, step1]
    by_cases h1 : blankF x.toNat = true
    · have hp : plainB x = false := by rw [plainB, h1]; rfl
      rw [if_pos h1, List.dropWhile_cons_of_neg (by rw [hp]; decide), List.takeWhile_cons_of_neg (by rw [hp]; decide), if_neg (show ¬ headIs34 (x :: r) = true by simp [headIs34, blank_not34 h1]), runA_cons, step0, if_pos h1, List.append_nil]
    rw [if_neg h1]
    by_cases h3 : x.toNat = 34
    · have hp : plainB x = false := by rw [plainB, decide_eq_false (fun hh => hh h3), Bool.and_false]
      rw [if_pos h3, List.dropWhile_cons_of_neg (by rw [hp]; decide), if_pos (show headIs34 (x :: r) = true by simp [headIs34, h3])]
      rfl
    · have hp : plainB x = true := by
        rw [plainB, decide_eq_true (show x.toNat ≠ 34 from h3), Bool.and_true]
        simpa using h1
      rw [if_neg h3, List.dropWhile_cons_of_pos hp, List.takeWhile_cons_of_pos hp]
      simp only
      rw [ih h (b ++ [x]) ws]
      simp
theorem ref_run : ∀ (f : Nat) (r : List UInt8) (h : Int) (ws : List (List UInt8)), r.length < f → refL f r ws = (runA r ⟨0, h, [], ws⟩).bind lastF := by
  intro f
  induction f with
  | zero => intro r h ws hr; omega
  | succ f ih =>
    intro r h ws hr
    cases r with
    | nil => rfl
    | cons x r =>
      simp only [List.length_cons] at hr
      rw [runA_cons, step0, refL]
      by_cases x35 : x.toNat = 35
      · have hbn : ¬ blankF x.toNat = true := by rw [x35]; decide
        rw [if_pos x35, if_neg hbn, if_pos x35]; rfl
      rw [if_neg x35]
      by_cases hb : blankF x.toNat = true
      · rw [if_pos hb, if_pos hb]; exact ih r h ws (by omega)
      rw [if_neg hb, if_neg hb, if_neg x35]
      by_cases x34 : x.toNat = 34
      · rw [if_pos x34, if_pos x34]
        simp only [List.length_cons]
        obtain ⟨h', e⟩ := quoted_eq (r.length + 1) r [] h ws (by omega)
        rw [e]
        cases hq : quotedL (r.length + 1) r [] with
        | none => rfl
        | some q =>
          obtain ⟨w, rest⟩ := q
          have hl := quotedL_len _ _ _ _ _ hq
          simp only
          rw [closed_eq]
          by_cases ha : afterB rest = true
          · rw [if_pos ha, if_pos ha]; exact ih rest h' _ (by omega)
          · rw [if_neg ha, if_neg ha]
      · have hp : plainB x = true := by
          rw [plainB, decide_eq_true (show x.toNat ≠ 34 from x34), Bool.and_true]
          simpa using hb
        rw [if_neg x34, if_neg x34, List.dropWhile_cons_of_pos hp, List.takeWhile_cons_of_pos hp]
        simp only
        rw [plain_eq]
        by_cases h34 : headIs34 (r.dropWhile plainB) = true
        · rw [if_pos h34, if_pos h34]
        · rw [if_neg h34, if_neg h34, ih _ h _ (Nat.lt_of_le_of_lt (List.IsSuffix.length_le (List.dropWhile_suffix _)) (by omega))]
          rfl
/-- what the console makes of a line is what the document makes of it -/
theorem words_ref (l : List UInt8) : wordsC l = refL (l.length + 1) l [] := by
  rw [wordsC_eq, ref_run (l.length + 1) l 0 [] (by omega)]
end Go.Proofs.YtcgenmfnlocbbaaDoor.T
