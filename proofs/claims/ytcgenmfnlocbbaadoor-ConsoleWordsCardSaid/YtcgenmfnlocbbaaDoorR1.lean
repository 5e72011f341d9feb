/- Lists of one-celled things in memory of their own; the runes of a string. Nothing is claimed of the program here. -/
import Derived.Test.YtcgenmfnlocbbaaDoorS2
namespace Go.Lg

theorem take_nil {α : Type} {x : α} {C : List α} (h : Take x C []) : C = [x] := by
  cases h with
  | head => rfl

/-- a list of one-celled things, in memory of its own -/
def Rep {β : Type} (e : TypeId) (row : β → Value) (l : List β) (sv : Value) (C : Chunks) : Prop := Owns e 1 sv l.length (l.flatMap fun x => [row x]) C []
section
variable {β : Type} {e : TypeId} {row : β → Value} {l : List β} {sv : Value} {C : Chunks}
theorem Rep.nil : Rep e row [] (.slice none 0 0) [] := Owns.nil
theorem flat1 (row : β → Value) (l : List β) : (l.flatMap fun x => [row x]) = l.map row := by
  induction l with
  | nil => rfl
  | cons x l ih => rw [List.flatMap_cons, ih]; rfl
theorem Rep.full (h : Rep e row l sv C) (hne : l ≠ []) : ∃ b cap sp, sv = .slice (some ⟨b, 0, none⟩) l.length cap ∧ C = [(b, cel e ((l.flatMap fun x => [row x]) ++ sp))] ∧ l.length ≤ cap ∧ sp.length = (cap - l.length) * 1 := by
  unfold Rep at h
  generalize hn : l.length = n at h ⊢
  generalize hf : (l.flatMap fun x => [row x]) = fl at h ⊢
  cases h with
  | nil => exact absurd (List.eq_nil_of_length_eq_zero hn) hne
  | @blk sb n cap old sp _ _ h h1 h2 h3 =>
    obtain rfl := take_nil h
    exact ⟨sb, cap, sp, rfl, rfl, h3, h2⟩
theorem Rep.form (h : Rep e row l sv C) : ∃ ad cap b, sv = .slice ad l.length cap ∧ (l ≠ [] → ad = some ⟨b, 0, none⟩) ∧ l.length ≤ cap ∧
    ∀ (X : Cx) (Cl Cr : Chunks), RowIn X (Cl ++ (C ++ Cr)) b 0 (l.flatMap fun x => [row x]) := by
  unfold Rep at h
  generalize hn : l.length = n at h
  generalize hf : (l.flatMap fun x => [row x]) = fl at h
  cases h with
  | nil =>
    obtain rfl : l = [] := List.eq_nil_of_length_eq_zero hn
    exact ⟨none, 0, 0, rfl, fun h => absurd rfl h, Nat.le_refl _, fun X Cl Cr w hs i v hi => by simp at hi⟩
  | @blk sb n cap old sp _ _ h h1 h2 h3 =>
    obtain rfl := take_nil h
    exact ⟨_, cap, sb, rfl, fun _ => rfl, h3, fun X Cl Cr => RowIn.own (e := e) (l := fl ++ sp) (fr := (0, 0)) (List.mem_append_right _ (List.mem_append_left _ (by simp))) (by simp)⟩
theorem Rep.of_full {b cap : Nat} {sp : List Value} (h : l.length ≤ cap) (hs : sp.length = (cap - l.length) * 1) : Rep e row l (.slice (some ⟨b, 0, none⟩) l.length cap) [(b, cel e ((l.flatMap fun x => [row x]) ++ sp))] :=
  Owns.blk .head (by rw [flat1]; simp) hs h
theorem Rep.set {b cap : Nat} {sp : List Value} (h : l.length ≤ cap) (hs : sp.length = (cap - l.length) * 1) (n : Nat) (x : β) : Rep e row (l.set n x) (.slice (some ⟨b, 0, none⟩) l.length cap) [(b, cel e (((l.set n x).flatMap fun x => [row x]) ++ sp))] := by
  have := Rep.of_full (e := e) (row := row) (l := l.set n x) (b := b) (cap := cap) (sp := sp) (by rw [List.length_set]; exact h) (by rw [List.length_set]; exact hs)
  rw [List.length_set] at this
  exact this
theorem row_at (row : β → Value) (l : List β) (sp : List Value) (i : Nat) (x : β) (h : l[i]? = some x) : ((l.flatMap fun x => [row x]) ++ sp)[0 + i * 1]? = some (row x) := by
  obtain ⟨hi, rfl⟩ := List.getElem?_eq_some_iff.1 h
  rw [flat1, List.getElem?_append_left (by simp; omega)]
  simp [hi]
theorem row_set (row : β → Value) (l : List β) (sp : List Value) (i : Nat) (hi : i < l.length) (x : β) : SetAt (row x) ((l.flatMap fun x => [row x]) ++ sp) (0 + i * 1) (((l.set i x).flatMap fun x => [row x]) ++ sp) := by
  have e : ((l.set i x).flatMap fun x => [row x]) ++ sp = ((l.flatMap fun x => [row x]) ++ sp).set (0 + i * 1) (row x) := by
    rw [flat1, flat1, List.map_set, List.set_append_left _ _ (by simp; omega)]
    simp
  rw [e]
  exact .gen (by rw [flat1]; simp; omega)
end
theorem Rep.one {β : Type} {e : TypeId} {row : β → Value} {l : List β} {sv : Value} {C : Chunks} (h : Rep e row l sv C) : oneC sv = true := by
  obtain ⟨_, _, _, rfl, -⟩ := h.form; rfl
def rU (b : UInt8) : Value := .int .u8 (b.toNat : Int)
def rI (n : Nat) : Value := .int .i64 (n : Int)
theorem rowU_eq (l : List UInt8) : l.flatMap rowU = l.flatMap fun x => [rU x] := rfl

section
variable {X : Cx} {L : Env} {ds : List Deferred} {C : Chunks} {N : Nat} {κ : Value → Chunks → Prop} {x y : Operand} {β : Type} {row : β → Value} {l xs : List β} {sv : Value}
/-- append of one-celled things -/
theorem Does.appendR {T e by_ mc : Nat} {ad2 : Option Addr} {z : Value} (Cl Cn Cr : Chunks)
    (hx : ev L x = some sv) (hy : ev L y = some (.slice ad2 xs.length mc)) (hT : sliceInfo X.P T = some (e, 1, by_)) (hz : zeroL X.P e = some [z]) (hC : C = Cl ++ (Cn ++ Cr)) (ho : Rep e row l sv Cn)
    (hxs : xs ≠ [] → ∃ xb xo, ad2 = some ⟨xb, xo, none⟩ ∧ RowIn X C xb xo (xs.flatMap fun x => [row x])) (h1 : ∀ x, oneC (row x) = true) (hb0 : by_ ≠ 0) (hroom : (2 * (l.length + xs.length) + 192) * by_ ≤ 281474976710656)
    (hk : ∀ sv' Cn', Rep e row (l ++ xs) sv' Cn' → κ sv' (Cl ++ (Cn' ++ Cr))) : Does X N (.call ⟨.builtin .append, #[x, y], #[T, T]⟩) .gen L ds C κ :=
  Does.appendL (row := fun x => [row x]) Cl Cn Cr hx hy hT hz hC ho hxs (fun _ => rfl) (fun x v hv => by simp at hv; rw [hv]; exact h1 x) rfl hb0 hroom hk
/-- append of a string's bytes -/
theorem Does.appendRS {T T2 e by_ : Nat} {z : Value} {s l : List UInt8} (Cl Cn Cr : Chunks)
    (hx : ev L x = some sv) (hy : ev L y = some (str s)) (hT2 : X.P.underlying T2 = some .string) (hT : sliceInfo X.P T = some (e, 1, by_)) (hz : zeroL X.P e = some [z]) (hC : C = Cl ++ (Cn ++ Cr)) (ho : Rep e rU l sv Cn)
    (hs : 1 ≤ s.length) (hb0 : by_ ≠ 0) (hroom : (2 * (l.length + s.length) + 192) * by_ ≤ 281474976710656)
    (hk : ∀ sv' Cn', Rep e rU (l ++ s) sv' Cn' → κ sv' (Cl ++ (Cn' ++ Cr))) : Does X N (.call ⟨.builtin .append, #[x, y], #[T, T2]⟩) .gen L ds C κ := by
  have ho2 := Owns.frame ho Cl Cr
  rw [← hC] at ho2
  refine Does.perm (Does.appendS hT2 rfl hs hx hy hT hz ho2 rfl hb0 hroom fun rb rcap sp hc hsp => ?_)
  refine ⟨Cl ++ ([(rb, cel e (((l ++ s).flatMap fun x => [rU x]) ++ sp))] ++ Cr), ?_, ?_⟩
  · rw [List.flatMap_append]
    simp only [List.append_assoc, List.cons_append, List.nil_append, rowU_eq]
    exact List.perm_middle
  · rw [← List.length_append] at hc hsp ⊢
    exact hk _ _ (Rep.of_full hc hsp)
/-- string(bytes) of an owned list -/
theorem Does.strR {S T e : TypeId} {l : List UInt8} (Cl Cn Cr : Chunks) (hx : ev L x = some sv) (hS : X.P.underlying S = some (.slice e)) (he : X.P.underlying e = some (.int .u8)) (hT : X.P.underlying T = some .string) (hC : C = Cl ++ (Cn ++ Cr)) (ho : Rep e rU l sv Cn) (hk : κ (str l) C) : Does X N (.convert S T x) .gen L ds C κ := by
  obtain ⟨ad, cap, b, rfl, h1, -, hr⟩ := ho.form
  by_cases hne : l = []
  · subst hne
    cases ad with
    | none => exact Does.strOfNil hx hS he hT hk
    | some a =>
      obtain ⟨bb, bo, spot⟩ := a
      unfold Rep at ho
      generalize hf : ([] : List UInt8).flatMap (fun x => [rU x]) = fl at ho
      generalize hn : ([] : List UInt8).length = n at ho hx
      cases ho with
      | blk h h1 h2 h3 =>
        subst hn
        exact Does.strOfN (l := []) hx hS he hT (fun w hs i v hi => by simp at hi) hk
  · obtain rfl := h1 hne
    exact Does.strOfN hx hS he hT (by rw [hC]; exact hr X Cl Cr) hk
end

theorem G.dropP {X : Cx} {L : Env} {ds : List Deferred} {C A : Chunks} {k : List Item} (R : Chunks) (hp : (A ++ R).Perm C) (h : G X k L ds A) : G X k L ds C := fun a w hs => h a w (hs.with (hs.st.perm hp).left)

/-! ### runes -/
def dec (l : List UInt8) (pos : Nat) : Nat × Nat := Utf8.decode ⟨l.toArray⟩ pos
theorem ba_getD (l : List UInt8) (i : Nat) (b : UInt8) (h : l[i]? = some b) : (⟨l.toArray⟩ : ByteArray).get! i = b := by
  obtain ⟨hi, rfl⟩ := List.getElem?_eq_some_iff.1 h
  simp only [ByteArray.get!]
  rw [getElem!_pos l.toArray i (by simpa using hi)]
  simp
theorem dec_ascii (l : List UInt8) (pos : Nat) (b : UInt8) (h : l[pos]? = some b) (hb : b.toNat < 128) : dec l pos = (b.toNat, 1) := by
  unfold dec Utf8.decode
  simp only [Nat.add_zero, ba_getD l pos b h, hb, if_true]
/-- a rune that is no ASCII one: it is 128 at least, and so is each of its bytes -/
theorem dec_high (l : List UInt8) (pos : Nat) (b : UInt8) (h : l[pos]? = some b) (hb : 128 ≤ b.toNat) :
    128 ≤ (dec l pos).1 ∧ 1 ≤ (dec l pos).2 ∧ pos + (dec l pos).2 ≤ l.length ∧ ∀ j, j < (dec l pos).2 → ∃ c, l[pos + j]? = some c ∧ 128 ≤ c.toNat := by
  have hpos : pos < l.length := (List.getElem?_eq_some_iff.1 h).1
  have hcont : ∀ k, (decide (pos + k < (⟨l.toArray⟩ : ByteArray).size) && ((⟨l.toArray⟩ : ByteArray).get! (pos + k)).toNat / 64 == 2) = true → pos + k < l.length ∧ ∃ c, l[pos + k]? = some c ∧ 128 ≤ c.toNat := fun k hk => by
    rw [ba_size] at hk
    simp only [Bool.and_eq_true, decide_eq_true_eq, beq_iff_eq] at hk
    refine ⟨hk.1, l[pos + k], by simp [hk.1], ?_⟩
    have := ba_getD l (pos + k) l[pos + k] (by simp [hk.1])
    rw [this] at hk
    omega
  have hb0 : (⟨l.toArray⟩ : ByteArray).get! (pos + 0) = b := ba_getD l pos b h
  have hone : ∀ j, j < 1 → ∃ c, l[pos + j]? = some c ∧ 128 ≤ c.toNat := fun j hj => by
    obtain rfl : j = 0 := by omega
    exact ⟨b, h, hb⟩
  unfold dec Utf8.decode
  simp only [hb0]
  rw [if_neg (by omega)]
  split
  · rename_i h1
    simp only [Bool.and_eq_true] at h1
    obtain ⟨h1a, h1b⟩ := hcont 1 (by simpa using h1.2)
    split
    · exact ⟨by omega, by show 1 ≤ 2; decide, h1a, fun j hj => by
        rcases (by omega : j = 0 ∨ j = 1) with rfl | rfl
        · exact ⟨b, h, hb⟩
        · exact h1b⟩
    · exact ⟨by decide, by decide, hpos, hone⟩
  · split
    · rename_i h1
      simp only [Bool.and_eq_true] at h1
      obtain ⟨h1a, h1b⟩ := hcont 1 (by simpa using h1.1.2)
      obtain ⟨h2a, h2b⟩ := hcont 2 (by simpa using h1.2)
      split
      · rename_i h3
        exact ⟨by simp only [Bool.and_eq_true, decide_eq_true_eq] at h3; omega, by show 1 ≤ 3; decide, h2a, fun j hj => by
          rcases (by omega : j = 0 ∨ j = 1 ∨ j = 2) with rfl | rfl | rfl
          · exact ⟨b, h, hb⟩
          · exact h1b
          · exact h2b⟩
      · exact ⟨by decide, by decide, hpos, hone⟩
    · split
      · rename_i h1
        simp only [Bool.and_eq_true] at h1
        obtain ⟨h1a, h1b⟩ := hcont 1 (by simpa using h1.1.1.2)
        obtain ⟨h2a, h2b⟩ := hcont 2 (by simpa using h1.1.2)
        obtain ⟨h3a, h3b⟩ := hcont 3 (by simpa using h1.2)
        split
        · rename_i h4
          exact ⟨by simp only [Bool.and_eq_true, decide_eq_true_eq] at h4; omega, by show 1 ≤ 4; decide, h3a, fun j hj => by
            rcases (by omega : j = 0 ∨ j = 1 ∨ j = 2 ∨ j = 3) with rfl | rfl | rfl | rfl
            · exact ⟨b, h, hb⟩
            · exact h1b
            · exact h2b
            · exact h3b⟩
        · exact ⟨by decide, by decide, hpos, hone⟩
      · exact ⟨by decide, by decide, hpos, hone⟩
theorem dec_width (l : List UInt8) (pos : Nat) (h : pos < l.length) : 1 ≤ (dec l pos).2 ∧ pos + (dec l pos).2 ≤ l.length := by
  obtain ⟨b, hb⟩ : ∃ b, l[pos]? = some b := ⟨l[pos], by simp [h]⟩
  by_cases h1 : b.toNat < 128
  · rw [dec_ascii l pos b hb h1]; exact ⟨Nat.le_refl _, h⟩
  · obtain ⟨-, h2, h3, -⟩ := dec_high l pos b hb (by omega)
    exact ⟨h2, h3⟩
/-- where the n-th rune begins -/
def posF (l : List UInt8) : Nat → Nat
  | 0 => 0
  | n + 1 => posF l n + (dec l (posF l n)).2
end Go.Lg
