/- console.Words byte by byte, and what it makes of quoted words. Plain Lean; nothing is claimed of the program here. -/
import Derived.Test.YtcgenmfnlocbbaaDoorB1
namespace Go.Proofs.YtcgenmfnlocbbaaDoor.T
open Go.Lg

/-- the scanner's run, byte by byte -/
def runA : List UInt8 → Sc → Option Sc
  | [], s => some s
  | b :: r, s => match stepF s b.toNat [b] with
    | .go s' => runA r s'
    | .brk s' => some s'
    | .bad => none
theorem step_high (s : Sc) (c : Nat) (b : List UInt8) (hc : 128 ≤ c) :
    stepF s c b = if s.at_ = 2 then .go { s with word := s.word ++ b } else if 3 ≤ s.at_ ∧ s.at_ ≤ 6 then .bad else .go { s with at_ := 1, word := s.word ++ b } := by
  have hbl : blankF c = false := by
    unfold blankF
    rw [decide_eq_false (show ¬ c = 32 by omega), decide_eq_false (show ¬ c = 9 by omega), decide_eq_false (show ¬ c = 13 by omega)]; rfl
  have hst : strokeF c = none := by unfold strokeF; (repeat rw [if_neg (by omega)])
  have hdg : digF c = -1 := by unfold digF; (repeat rw [if_neg (by omega)])
  have h34 : ¬ c = 34 := by omega
  have h92 : ¬ c = 92 := by omega
  have h35 : ¬ (c = 35 ∧ s.at_ ≠ 1) := by omega
  have h120 : ¬ c = 120 := by omega
  by_cases a2 : s.at_ = 2
  · have hI : inF s c b = ({ s with word := s.word ++ b }, true) := by rw [inF, if_pos a2, if_neg h34, if_neg h92]
    rw [if_pos a2, stepF, if_pos (by omega), hI]; rfl
  rw [if_neg a2]
  by_cases a6 : 3 ≤ s.at_ ∧ s.at_ ≤ 6
  · rw [if_pos a6]
    by_cases h5 : s.at_ ≤ 5
    · have hI : (inF s c b).2 = false := by
        by_cases a3 : s.at_ = 3
        · rw [inF, if_neg a2, if_pos a3, if_neg h120, hst]
        · by_cases a4 : s.at_ = 4
          · rw [inF, if_neg a2, if_neg a3, if_pos a4, hdg]; rfl
          · rw [inF, if_neg a2, if_neg a3, if_neg a4, hdg]; rfl
      rw [stepF, if_pos (by omega), hI]; rfl
    · have hO : (outF s c b).2.2 = false := by rw [outF, hbl, if_neg (fun h => Bool.noConfusion h), if_neg h35, if_pos (by omega)]
      rw [stepF, if_neg (by omega), hO]; rfl
  · have hO : outF s c b = ({ s with at_ := 1, word := s.word ++ b }, true, true) := by rw [outF, hbl, if_neg (fun h => Bool.noConfusion h), if_neg h35, if_neg (by omega), if_neg h34]
    rw [if_neg a6, stepF, if_neg (by omega), hO]; rfl
theorem high_step (c : Nat) (hc : 128 ≤ c) (r : List UInt8) : ∀ (bs : List UInt8) (s : Sc), bs ≠ [] → (∀ b ∈ bs, 128 ≤ b.toNat) →
    runA (bs ++ r) s = match stepF s c bs with | .go s' => runA r s' | .brk s' => some s' | .bad => none := by
  intro bs
  induction bs with
  | nil => intro s h _; exact absurd rfl h
  | cons b bs ih =>
    intro s _ hb
    have hb0 : 128 ≤ b.toNat := hb b (by simp)
    simp only [List.cons_append, runA]
    rw [step_high s b.toNat [b] hb0, step_high s c (b :: bs) hc]
    by_cases hbs : bs = []
    · subst hbs; rfl
    have ih' := fun s => ih s hbs fun x hx => hb x (by simp [hx])
    by_cases a2 : s.at_ = 2
    · rw [if_pos a2, if_pos a2]
      simp only
      rw [ih', step_high _ c bs hc, if_pos (by simpa using a2)]
      simp
    rw [if_neg a2, if_neg a2]
    by_cases a6 : 3 ≤ s.at_ ∧ s.at_ ≤ 6
    · rw [if_pos a6, if_pos a6]
    · rw [if_neg a6, if_neg a6]
      simp only
      rw [ih', step_high _ c bs hc, if_neg (by simp), if_neg (by simp)]
      simp
theorem rune_drop (l : List UInt8) (n : Nat) (h : posF l n < l.length) : l.drop (posF l n) = runeB l n ++ l.drop (posF l (n + 1)) := by
  obtain ⟨h1, h2, h3, h4⟩ := runeB_length l n h
  have hle : posF l n ≤ posF l (n + 1) := by omega
  unfold runeB
  generalize posF l (n + 1) = q at *
  generalize posF l n = p at *
  have e : l.drop p = (l.take q ++ l.drop q).drop p := by rw [List.take_append_drop]
  rw [e, List.drop_append_of_le_length (by rw [List.length_take]; omega)]
theorem runF_runA (l : List UInt8) : ∀ (f n : Nat) (s : Sc), f = l.length - n → (∀ j, j < n → posF l j < l.length) → runF l f n s = runA (l.drop (posF l n)) s := by
  intro f
  induction f with
  | zero =>
    intro n s hf hall
    obtain ⟨h1, h2⟩ := posF_le l n hall
    rw [List.drop_eq_nil_of_le (by omega)]
    rfl
  | succ f ih =>
    intro n s hf hall
    obtain ⟨h1, h2⟩ := posF_le l n hall
    rw [runF]
    by_cases hp : posF l n < l.length
    · have hall2 : ∀ j, j < n + 1 → posF l j < l.length := fun j hj => by
        rcases (by omega : j < n ∨ j = n) with h | rfl
        · exact hall j h
        · exact hp
      rw [if_pos hp, rune_drop l n hp]
      obtain ⟨b, hb⟩ : ∃ b, l[posF l n]? = some b := ⟨l[posF l n], by simp [hp]⟩
      obtain ⟨r1, r2, r3, r4⟩ := runeB_length l n hp
      have hat : ∀ j, j < (runeB l n).length → (runeB l n)[j]? = l[posF l n + j]? := fun j hj => by
        unfold runeB
        rw [List.getElem?_drop, List.getElem?_take, if_pos (by omega)]
      by_cases ha : b.toNat < 128
      · have hd := dec_ascii l _ b hb ha
        rw [hd] at r1
        have hrb : runeB l n = [b] := by
          refine List.ext_getElem? fun j => ?_
          rcases Nat.eq_zero_or_pos j with rfl | hj
          · rw [hat 0 (by omega)]; simpa using hb
          · rw [List.getElem?_eq_none (by omega), List.getElem?_eq_none (by simp; omega)]
        rw [hd, hrb]
        simp only [List.cons_append, List.nil_append, runA]
        cases stepF s b.toNat [b] with
        | go s' => exact ih (n + 1) s' (by omega) hall2
        | brk s' => rfl
        | bad => rfl
      · obtain ⟨hc, -, -, hbs⟩ := dec_high l _ b hb (by omega)
        rw [high_step (dec l (posF l n)).1 hc _ (runeB l n) s (List.length_pos_iff.1 r2) (fun x hx => by
          obtain ⟨j, hj, rfl⟩ := List.mem_iff_getElem.1 hx
          obtain ⟨y, hy, hy2⟩ := hbs j (by omega)
          have := hat j hj
          rw [hy, List.getElem?_eq_getElem hj] at this
          cases this; exact hy2)]
        cases stepF s (dec l (posF l n)).1 (runeB l n) with
        | go s' => exact ih (n + 1) s' (by omega) hall2
        | brk s' => rfl
        | bad => rfl
    · rw [if_neg hp, List.drop_eq_nil_of_le (by omega)]
      rfl
theorem wordsC_eq (l : List UInt8) : wordsC l = (runA l ⟨0, 0, [], []⟩).bind lastF := by
  rw [wordsC, runF_runA l l.length 0 _ (by omega) (fun j h => absurd h (Nat.not_lt_zero j))]
  rfl

/-! ### what is quoted is read back -/
theorem hexD_dig : ∀ i : Fin 16, digF (hexD i.val).toNat = i.val := by decide
theorem byteF_nat (b : UInt8) : byteF (16 * (b.toNat / 16 : Nat) + (b.toNat % 16 : Nat)) = b := by
  have hb := UInt8.toNat_lt b
  have h1 := byteF_val (16 * (b.toNat / 16 : Nat) + (b.toNat % 16 : Nat))
  have h2 : (16 * ((b.toNat / 16 : Nat) : Int) + ((b.toNat % 16 : Nat) : Int)) = (b.toNat : Int) := by omega
  rw [h2] at h1 ⊢
  rw [wr_u8 (by omega) (by omega)] at h1
  exact UInt8.toNat_inj.1 (by omega)
theorem quote_step (b : UInt8) (r : List UInt8) (h : Int) (w : List UInt8) (ws : List (List UInt8)) : ∃ h', runA (qF b ++ r) ⟨2, h, w, ws⟩ = runA r ⟨2, h', w ++ [b], ws⟩ := by
  have hb := UInt8.toNat_lt b
  unfold qF
  by_cases x34 : b.toNat = 34
  · obtain rfl : b = 34 := UInt8.toNat_inj.1 x34
    exact ⟨h, rfl⟩
  by_cases x92 : b.toNat = 92
  · obtain rfl : b = 92 := UInt8.toNat_inj.1 x92
    exact ⟨h, rfl⟩
  by_cases x10 : b.toNat = 10
  · obtain rfl : b = 10 := UInt8.toNat_inj.1 x10
    exact ⟨h, rfl⟩
  by_cases x9 : b.toNat = 9
  · obtain rfl : b = 9 := UInt8.toNat_inj.1 x9
    exact ⟨h, rfl⟩
  rw [if_neg x34, if_neg x92, if_neg x10, if_neg x9]
  by_cases hw : b.toNat < 32 ∨ b.toNat > 126
  · rw [if_pos hw]
    refine ⟨((b.toNat / 16 : Nat) : Int), ?_⟩
    have d1 := hexD_dig ⟨b.toNat / 16, by omega⟩
    have d2 := hexD_dig ⟨b.toNat % 16, by omega⟩
    simp only at d1 d2
    have s1 : ∀ c h w, stepF ⟨2, h, w, ws⟩ 92 c = .go ⟨3, h, w, ws⟩ := fun _ _ _ => rfl
    have s2 : ∀ c h w, stepF ⟨3, h, w, ws⟩ 120 c = .go ⟨4, h, w, ws⟩ := fun _ _ _ => rfl
    have i3 : ∀ c b, inF ⟨4, h, w, ws⟩ c b = (⟨5, digF c, w, ws⟩, decide (digF c ≥ 0)) := fun _ _ => rfl
    have i4 : ∀ g c b, inF ⟨5, g, w, ws⟩ c b = (⟨2, g, w ++ [byteF (16 * g + digF c)], ws⟩, decide (digF c ≥ 0)) := fun _ _ _ => rfl
    have s3 : stepF ⟨4, h, w, ws⟩ (hexD (b.toNat / 16)).toNat [hexD (b.toNat / 16)] = .go ⟨5, ((b.toNat / 16 : Nat) : Int), w, ws⟩ := by
      show (if (inF ⟨4, h, w, ws⟩ (hexD (b.toNat / 16)).toNat [hexD (b.toNat / 16)]).2 = true then Stp.go _ else Stp.bad) = _
      rw [i3, d1, if_pos (decide_eq_true (by omega))]
    have s4 : stepF ⟨5, ((b.toNat / 16 : Nat) : Int), w, ws⟩ (hexD (b.toNat % 16)).toNat [hexD (b.toNat % 16)] = .go ⟨2, ((b.toNat / 16 : Nat) : Int), w ++ [b], ws⟩ := by
      show (if (inF ⟨5, ((b.toNat / 16 : Nat) : Int), w, ws⟩ (hexD (b.toNat % 16)).toNat [hexD (b.toNat % 16)]).2 = true then Stp.go _ else Stp.bad) = _
      rw [i4, d2, if_pos (decide_eq_true (by omega)), byteF_nat]
    simp only [hexF, List.cons_append, List.nil_append, runA]
    rw [show (92 : UInt8).toNat = 92 from rfl, show (120 : UInt8).toNat = 120 from rfl, s1]
    simp only
    rw [s2]
    simp only
    rw [s3]
    simp only
    rw [s4]
  · rw [if_neg hw]
    refine ⟨h, ?_⟩
    have i2 : inF ⟨2, h, w, ws⟩ b.toNat [b] = (⟨2, h, w ++ [b], ws⟩, true) := by rw [inF, if_pos rfl, if_neg x34, if_neg x92]
    have s2 : stepF ⟨2, h, w, ws⟩ b.toNat [b] = .go ⟨2, h, w ++ [b], ws⟩ := by
      show (if (inF ⟨2, h, w, ws⟩ b.toNat [b]).2 = true then Stp.go _ else Stp.bad) = _
      rw [i2]; rfl
    simp only [List.cons_append, List.nil_append, runA]
    rw [s2]
theorem quote_run (w r : List UInt8) : ∀ (h : Int) (w0 : List UInt8) (ws : List (List UInt8)), ∃ h', runA (w.flatMap qF ++ r) ⟨2, h, w0, ws⟩ = runA r ⟨2, h', w0 ++ w, ws⟩ := by
  induction w with
  | nil => intro h w0 ws; exact ⟨h, by simp⟩
  | cons b w ih =>
    intro h w0 ws
    rw [List.flatMap_cons, List.append_assoc]
    obtain ⟨h1, e1⟩ := quote_step b (w.flatMap qF ++ r) h w0 ws
    obtain ⟨h2, e2⟩ := ih h1 (w0 ++ [b]) ws
    exact ⟨h2, by rw [e1, e2]; simp⟩
theorem quoted_run (w r : List UInt8) (h : Int) (ws : List (List UInt8)) : ∃ h', runA (quoteF w ++ r) ⟨0, h, [], ws⟩ = runA r ⟨6, h', w, ws⟩ := by
  obtain ⟨h1, e1⟩ := quote_run w (34 :: r) h [] ws
  refine ⟨h1, ?_⟩
  have e0 : quoteF w ++ r = 34 :: (w.flatMap qF ++ (34 :: r)) := by simp [quoteF]
  rw [e0]
  show runA (w.flatMap qF ++ (34 :: r)) ⟨2, h, [], ws⟩ = _
  rw [e1]
  rfl
def lineQ (one two : List UInt8) : List UInt8 := (((([32, 112, 117, 116, 32] ++ quoteF one) ++ [9]) ++ quoteF two) ++ [35, 32]) ++ quoteF one
theorem words_quotes (one two : List UInt8) : wordsC (lineQ one two) = some [[112, 117, 116], one, two] := by
  rw [wordsC_eq]
  obtain ⟨h1, e1⟩ := quoted_run one (9 :: (quoteF two ++ (35 :: 32 :: quoteF one))) 0 [[112, 117, 116]]
  obtain ⟨h2, e2⟩ := quoted_run two (35 :: 32 :: quoteF one) h1 [[112, 117, 116], one]
  have e0 : lineQ one two = 32 :: 112 :: 117 :: 116 :: 32 :: (quoteF one ++ (9 :: (quoteF two ++ (35 :: 32 :: quoteF one)))) := by simp [lineQ]
  rw [e0]
  have e3 : runA (32 :: 112 :: 117 :: 116 :: 32 :: (quoteF one ++ (9 :: (quoteF two ++ (35 :: 32 :: quoteF one))))) ⟨0, 0, [], []⟩ = runA (quoteF one ++ (9 :: (quoteF two ++ (35 :: 32 :: quoteF one)))) ⟨0, 0, [], [[112, 117, 116]]⟩ := rfl
  rw [e3, e1]
  have e4 : runA (9 :: (quoteF two ++ (35 :: 32 :: quoteF one))) ⟨6, h1, one, [[112, 117, 116]]⟩ = runA (quoteF two ++ (35 :: 32 :: quoteF one)) ⟨0, h1, [], [[112, 117, 116], one]⟩ := rfl
  rw [e4, e2]
  rfl
end Go.Proofs.YtcgenmfnlocbbaaDoor.T
