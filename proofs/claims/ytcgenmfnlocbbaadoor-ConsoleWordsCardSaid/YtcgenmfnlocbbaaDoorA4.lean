/- console.Words, walked. Nothing is claimed of a law here. -/
import Derived.Test.YtcgenmfnlocbbaaDoorA3
namespace Go.Proofs.YtcgenmfnlocbbaaDoor.T
open Go.Lg
theorem cb10 : callable Tryd.prog 10 = true := by kernel_rfl
theorem cb5 : callable Tryd.prog 5 = true := by kernel_rfl
theorem cb9 : callable Tryd.prog 9 = true := by kernel_rfl
theorem si36 : sliceInfo Tryd.prog 36 = some (3, 1, 8) := by kernel_rfl
theorem sp35 : structPlaces Tryd.prog 35 = some [(0, 1), (1, 1), (2, 1), (3, 1)] := by kernel_rfl
theorem zl3 : zeroL Tryd.prog 3 = some [.int .i64 0] := by kernel_rfl
theorem zl35 : zeroL Tryd.prog 35 = some [.int .i64 0, .int .i64 0, .slice none 0 0, .slice none 0 0] := by kernel_rfl
theorem posF_le (l : List UInt8) : ∀ n, (∀ j, j < n → posF l j < l.length) → n ≤ posF l n ∧ posF l n ≤ l.length := by
  intro n
  induction n with
  | zero => intro _; exact ⟨Nat.le_refl _, Nat.zero_le _⟩
  | succ n ih =>
    intro h
    obtain ⟨h1, h2⟩ := ih fun j hj => h j (by omega)
    have h3 := dec_width l (posF l n) (h n (by omega))
    simp only [posF]
    omega
/-- a rune's bytes -/
def runeB (l : List UInt8) (n : Nat) : List UInt8 := (l.take (posF l (n + 1))).drop (posF l n)
theorem runeB_length (l : List UInt8) (n : Nat) (h : posF l n < l.length) : (runeB l n).length = (dec l (posF l n)).2 ∧ 1 ≤ (runeB l n).length ∧ posF l (n + 1) = posF l n + (runeB l n).length ∧ posF l (n + 1) ≤ l.length := by
  have h3 := dec_width l (posF l n) h
  have : (runeB l n).length = (dec l (posF l n)).2 := by
    unfold runeB
    rw [List.length_drop, List.length_take]
    simp only [posF]
    omega
  refine ⟨this, by omega, ?_, ?_⟩
  · rw [this]; rfl
  · simp only [posF]; exact h3.2
inductive Stp where
  | go (s : Sc)
  | brk (s : Sc)
  | bad
def stepF (s : Sc) (c : Nat) (b : List UInt8) : Stp :=
  if 2 ≤ s.at_ ∧ s.at_ ≤ 5 then (if (inF s c b).2 = true then .go (inF s c b).1 else .bad)
  else if (outF s c b).2.2 = true then (if (outF s c b).2.1 = true then .go (outF s c b).1 else .brk (outF s c b).1) else .bad
/-- the scanner's run from the n-th rune on -/
def runF (l : List UInt8) : Nat → Nat → Sc → Option Sc
  | 0, _, s => some s
  | f + 1, n, s => if posF l n < l.length then
      match stepF s (dec l (posF l n)).1 (runeB l n) with
      | .go s' => runF l f (n + 1) s'
      | .brk s' => some s'
      | .bad => none
    else some s
def lastF (s : Sc) : Option (List (List UInt8)) := if s.at_ = 1 ∨ s.at_ = 6 then some (s.words ++ [s.word]) else if s.at_ = 0 then some s.words else none
def wordsC (l : List UInt8) : Option (List (List UInt8)) := (runF l l.length 0 ⟨0, 0, [], []⟩).bind lastF
theorem step_bound (s : Sc) (c : Nat) (b : List UInt8) (s' : Sc) (hb : 1 ≤ b.length) (h : stepF s c b = .go s' ∨ stepF s c b = .brk s') (hh : -1 ≤ s.high ∧ s.high ≤ 15) :
    s'.word.length ≤ s.word.length + b.length ∧ s'.words.length ≤ s.words.length + 1 ∧ -1 ≤ s'.high ∧ s'.high ≤ 15 := by
  have hdig : -1 ≤ digF c ∧ digF c ≤ 15 := by unfold digF; (repeat' split) <;> omega
  have hin : (inF s c b).1.word.length ≤ s.word.length + b.length ∧ (inF s c b).1.words.length ≤ s.words.length + 1 ∧ -1 ≤ (inF s c b).1.high ∧ (inF s c b).1.high ≤ 15 := by
    unfold inF
    (repeat' split) <;> simp <;> omega
  have hout : (outF s c b).1.word.length ≤ s.word.length + b.length ∧ (outF s c b).1.words.length ≤ s.words.length + 1 ∧ -1 ≤ (outF s c b).1.high ∧ (outF s c b).1.high ≤ 15 := by
    unfold outF
    (repeat' split) <;> simp [endS] <;> omega
  unfold stepF at h
  split at h
  · split at h
    · rcases h with h | h
      · cases h; exact hin
      · cases h
    · rcases h with h | h <;> cases h
  · split at h
    · split at h
      · rcases h with h | h
        · cases h; exact hout
        · cases h
      · rcases h with h | h
        · cases h
        · cases h; exact hout
    · rcases h with h | h <;> cases h
def endsF (l : List UInt8) (n : Nat) : List Nat := (List.range (n - 1)).map fun i => posF l (i + 1)
theorem endsF_succ (l : List UInt8) (n : Nat) (h : 0 < n) : endsF l (n + 1) = endsF l n ++ [posF l n] := by
  obtain ⟨m, rfl⟩ : ∃ m, n = m + 1 := ⟨n - 1, by omega⟩
  simp [endsF, List.range_succ]
theorem ends_at (l : List UInt8) (k j : Nat) (hk : posF l k = l.length) (hj : j < k) : (endsF l k ++ [l.length])[j]? = some (posF l (j + 1)) := by
  rcases Nat.lt_or_ge j (k - 1) with h | h
  · rw [List.getElem?_append_left (by simp [endsF]; exact h)]
    simp [endsF, h]
  · obtain rfl : j = k - 1 := by omega
    rw [List.getElem?_append_right (by simp [endsF])]
    simp only [endsF, List.length_map, List.length_range, Nat.sub_self, List.getElem?_cons_zero]
    rw [← hk]
    congr 2
    omega
/-- what console.Words answers -/
def WRes (l : List UInt8) (v : Value) (C' : Chunks) : Prop :=
  if l.length > 65536 then v = .tuple #[.slice none 0 0, .int .i64 192] ∧ C' = []
  else match wordsC l with
    | none => v = .tuple #[.slice none 0 0, .int .i64 191] ∧ C' = []
    | some ws => ∃ wsv, v = .tuple #[wsv, .int .i64 0] ∧ Rep 9 str ws wsv C' ∧ ws.length ≤ 65537
theorem words_ct (l : List UInt8) : Ct Tryd.prog 5 [str l].toArray (fun w => GlobW w ∧ 0 < w.heap.size) [] (WRes l) := by
  refine ct_of_walk (fn := Tryd.f5) Tryd.func5 rfl rfl fun w0 hpre hst => ?_
  clear hst
  repeat refine G.seq ?_
  obtain ⟨hglob, hheap⟩ := hpre
  refine G.region [.loc, .loc] (.take 0 (.take 1 .done)) rfl ?_
  refine GP.take rfl rfl (Does.assign rfl ?_)
  refine GP.take rfl rfl (Does.assign rfl ?_)
  refine GP.keep [(0, _)] (.cons rfl .nil) ?_
  repeat refine G.seq ?_
  refine G.region [.loc, .loc, .loc] (.take 0 (.take 1 (.take 2 .done))) rfl ?_
  refine GP.take rfl rfl (Does.move rfl ?_)
  refine GP.take rfl rfl (Does.lenS rfl Tryd.underlying9 ?_)
  refine GP.take rfl rfl (Does.gtr rfl rfl rfl ?_)
  refine GP.keep [(0, _), (15, _)] (.cons rfl (.cons rfl .nil)) ?_
  repeat refine G.seq ?_
  refine G.cond rfl ?_ ?_
  · intro hz
    repeat refine G.seq ?_
    refine G.region [.loc, .loc] (.take 0 (.take 1 .done)) rfl ?_
    refine GP.take rfl rfl (Does.assign rfl ?_)
    refine GP.take rfl rfl (Does.assign rfl ?_)
    refine GP.keep [(2, _), (3, _)] (.cons rfl (.cons rfl .nil)) ?_
    exact fin_ret (fn := Tryd.f5) Tryd.func5 (res2 rfl rfl rfl) .nil (by rw [WRes, if_pos (by omega)]; exact ⟨rfl, rfl⟩)
  intro hz
  have hlen : l.length ≤ 65536 := by omega
  refine G.skip ?_
  repeat refine G.seq ?_
  refine G.region [.loc, .alloc, .loc] (.take 0 (.take 1 (.take 2 .done))) rfl ?_
  refine GP.take rfl rfl (Does.build (r := [.int .i64 0, .int .i64 0, .slice none 0 0, .slice none 0 0]) .nil sp35 zl35 rfl ?_)
  refine GP.take rfl rfl (Does.box (T := 35) rfl rfl fun sb Nsb hsb nsb => ?_)
  refine GP.take rfl rfl (Does.assign rfl ?_)
  refine GP.keep [(0, _), (4, _)] (.cons rfl (.cons rfl .nil)) ?_
  repeat refine G.seq ?_
  refine G.region [.loc, .loc, .gen, .loc] (.take 0 (.take 1 (.take 2 (.take 3 .done)))) rfl ?_
  refine GP.take rfl rfl (Does.move rfl ?_)
  refine GP.take rfl rfl (Does.lenS rfl Tryd.underlying9 ?_)
  refine GP.take rfl rfl (Does.makeSlice (l := 0) (c := l.length) rfl rfl si36 zl3 rfl (by decide) (Nat.zero_le _) (by omega) (by omega) fun bm Nm hm nm => ?_)
  refine GP.take rfl rfl (Does.assign rfl ?_)
  refine GP.keep [(0, _), (4, _), (5, _)] (.cons rfl (.cons rfl (.cons rfl .nil))) ?_
  repeat refine G.seq ?_
  refine G.region [.loc, .gen] (.take 0 (.take 1 .done)) rfl ?_
  refine GP.take rfl rfl (Does.move rfl ?_)
  refine GP.take rfl rfl (Does.rangeS rfl Tryd.underlying9 fun it => ?_)
  refine GP.keep [(0, _), (4, _), (5, _), (22, _)] (.cons rfl (.cons rfl (.cons rfl (.cons rfl .nil)))) ?_
  repeat refine G.seq ?_
  refine G.block ?_
  refine G.dropP [] (A := (it, Obj.stringIter ⟨l.toArray⟩ (posF l 0)) :: (sb, cel 35 [.int .i64 0, .int .i64 0, .slice none 0 0, .slice none 0 0]) :: [(bm, cel 3 (zerosL [.int .i64 0] (l.length * 1)))]) (by classical exact List.perm_iff_count.2 fun q => by simp only [posF, List.append_eq, List.nil_append, List.append_nil, List.cons_append, List.count_append, List.count_cons, List.count_nil] <;> omega) ?_
  refine G.loop (S := Nat × Value × Chunks) (fun s => [(0, str l), (4, .pointer (some ⟨sb, 0, none⟩)), (5, s.2.1), (22, .pointer (some ⟨it, 0, none⟩))]) (fun s => (it, Obj.stringIter ⟨l.toArray⟩ (posF l s.1)) :: (sb, cel 35 [.int .i64 0, .int .i64 0, .slice none 0 0, .slice none 0 0]) :: s.2.2)
    (fun s => (∀ j, j < s.1 → posF l j < l.length) ∧ Rep 3 rI (endsF l s.1) s.2.1 s.2.2) (fun s => l.length + 1 - s.1) (0, _, _) ⟨fun j h => absurd h (Nat.not_lt_zero j), Owns.blk .head rfl (by simp [zerosL]) (Nat.zero_le _)⟩ (.cons rfl (.cons rfl (.cons rfl (.cons rfl .nil)))) .all ?_
  rintro ⟨n, sv, C5⟩ ⟨hall, h5⟩ IH
  simp only at hall h5 IH ⊢
  obtain ⟨hn1, hn2⟩ := posF_le l n hall
  repeat refine G.seq ?_
  by_cases hpl : posF l n < l.length
  · skip
    refine G.region [.gen, .loc] (.take 0 (.take 1 .done)) rfl ?_
    refine GP.take rfl rfl (Does.nextS (l := l) (pos := posF l n) rfl hpl .head ?_)
    refine GP.take rfl rfl (Does.extract rfl rfl ?_)
    refine GP.keep [(0, _), (4, _), (5, _), (22, _), (23, _), (24, _)] (.cons rfl (.cons rfl (.cons rfl (.cons rfl (.cons rfl (.cons rfl .nil)))))) ?_
    repeat refine G.seq ?_
    refine G.condT rfl ?_
    refine G.skip ?_
    repeat refine G.seq ?_
    refine G.block ?_
    repeat refine G.seq ?_
    refine G.region [.loc, .loc] (.take 0 (.take 1 .done)) rfl ?_
    refine GP.take rfl rfl (Does.extract rfl rfl ?_)
    refine GP.take rfl rfl (Does.assign rfl ?_)
    refine GP.keep [(0, _), (4, _), (5, _), (6, _), (22, _)] (.cons rfl (.cons rfl (.cons rfl (.cons rfl (.cons rfl .nil))))) ?_
    repeat refine G.seq ?_
    refine G.region [.loc, .loc] (.take 0 (.take 1 .done)) rfl ?_
    refine GP.take rfl rfl (Does.move rfl ?_)
    refine GP.take rfl rfl (Does.gtr rfl rfl (show decide ((posF l n : Int) > 0) = decide (posF l n > 0) from decide_eq_decide.2 (by omega)) ?_)
    refine GP.keep [(0, _), (4, _), (5, _), (6, _), (22, _), (27, _)] (.cons rfl (.cons rfl (.cons rfl (.cons rfl (.cons rfl (.cons rfl .nil)))))) ?_
    have hall2 : ∀ j, j < n + 1 → posF l j < l.length := fun j hj => by
      rcases (by omega : j < n ∨ j = n) with h | rfl
      · exact hall j h
      · exact hpl
    have hpos : n = 0 ∨ (0 < n ∧ 0 < posF l n) := by omega
    repeat refine G.seq ?_
    refine G.cond rfl ?_ ?_
    · intro hp
      have hn0 : 0 < n := by
        rcases hpos with rfl | h
        · simp [posF] at hp
        · exact h.1
      repeat refine G.seq ?_
      refine G.region [.loc, .loc, .alloc, .gen, .loc] (.take 0 (.take 1 (.take 2 (.take 3 (.take 4 .done))))) rfl ?_
      refine GP.take rfl rfl (Does.move rfl ?_)
      refine GP.take rfl rfl (Does.move rfl ?_)
      refine GP.take rfl rfl (Does.buildSlice (r := [_]) (.cons rfl .nil) sl36 zl3 (by decide) rfl fun b30 N30 h30 n30 => ?_)
      refine GP.take rfl rfl (Does.appendR (row := rI) (l := endsF l n) (xs := [posF l n]) (mc := 1) [(b30, cel 3 [.int .i64 (posF l n : Int)]), (it, Obj.stringIter ⟨l.toArray⟩ (posF l n + (Utf8.decode ⟨l.toArray⟩ (posF l n)).2)), (sb, cel 35 [.int .i64 0, .int .i64 0, .slice none 0 0, .slice none 0 0])] C5 [] rfl rfl si36 zl3 (by simp) h5 (fun _ => ⟨b30, 0, rfl, RowIn.own (vs := [rI (posF l n)]) (.head _) rfl⟩) (fun _ => rfl) (by decide) (by simp only [endsF, List.length_map, List.length_range, List.length_cons, List.length_nil]; omega) ?_)
      intro s5 Cn g5
      refine GP.take rfl rfl (Does.assign rfl ?_)
      refine GP.keep [(0, _), (4, _), (5, _), (22, _)] (.cons rfl (.cons rfl (.cons rfl (.cons rfl .nil)))) ?_
      refine G.inBlock ?_
      refine G.dropP [(b30, cel 3 [.int .i64 (posF l n : Int)])] (A := (it, Obj.stringIter ⟨l.toArray⟩ (posF l (n + 1))) :: (sb, cel 35 [.int .i64 0, .int .i64 0, .slice none 0 0, .slice none 0 0]) :: Cn) (by classical exact List.perm_iff_count.2 fun q => by simp only [posF, dec, List.append_eq, List.nil_append, List.append_nil, List.cons_append, List.count_append, List.count_cons, List.count_nil] <;> omega) ?_
      exact IH (n + 1, s5, Cn) ⟨hall2, by simp only; rw [endsF_succ l n hn0]; exact g5⟩ (by simp only; omega)
    · intro hp
      have hn0 : n = 0 := by
        rcases hpos with h | h
        · exact h
        · omega
      subst hn0
      refine G.skip ?_
      refine G.inBlock ?_
      exact (IH (1, sv, C5) ⟨hall2, h5⟩ (by simp only; omega)).weak (.cons rfl (.cons rfl (.cons rfl (.cons rfl .nil))))
  clear IH
  refine G.region [.gen, .loc] (.take 0 (.take 1 .done)) rfl ?_
  refine GP.take rfl rfl (Does.nextE (l := l) (pos := posF l n) rfl (by omega) (.head _) ?_)
  refine GP.take rfl rfl (Does.extract rfl rfl ?_)
  refine GP.keep [(0, _), (4, _), (5, _), (22, _), (24, _)] (.cons rfl (.cons rfl (.cons rfl (.cons rfl (.cons rfl .nil))))) ?_
  repeat refine G.seq ?_
  refine G.condF rfl ?_
  refine G.exit rfl ?_
  repeat refine G.seq ?_
  have hk : posF l n = l.length := by omega
  obtain ⟨k, hkk⟩ : ∃ k, k = n := ⟨n, rfl⟩
  rw [← hkk] at hk hall hn1 hn2 h5
  refine G.region [.loc, .loc, .loc, .alloc, .gen, .loc] (.take 0 (.take 1 (.take 2 (.take 3 (.take 4 (.take 5 .done)))))) rfl ?_
  refine GP.take rfl rfl (Does.move rfl ?_)
  refine GP.take rfl rfl (Does.move rfl ?_)
  refine GP.take rfl rfl (Does.lenS rfl Tryd.underlying9 ?_)
  refine GP.take rfl rfl (Does.buildSlice (r := [_]) (.cons rfl .nil) sl36 zl3 (by decide) rfl fun b35 N35 h35 n35 => ?_)
  refine GP.take rfl rfl (Does.appendR (row := rI) (l := endsF l k) (xs := [l.length]) (mc := 1) [(b35, cel 3 [.int .i64 (l.length : Int)]), (it, Obj.stringIter ⟨l.toArray⟩ (posF l n)), (sb, cel 35 [.int .i64 0, .int .i64 0, .slice none 0 0, .slice none 0 0])] C5 [] rfl rfl si36 zl3 (by simp) h5 (fun _ => ⟨b35, 0, rfl, RowIn.own (vs := [rI l.length]) (.head _) rfl⟩) (fun _ => rfl) (by decide) (by simp only [endsF, List.length_map, List.length_range, List.length_cons, List.length_nil]; omega) ?_)
  intro s5 Ce g5
  refine GP.take rfl rfl (Does.assign rfl ?_)
  refine GP.keep [(0, _), (4, _), (5, _)] (.cons rfl (.cons rfl (.cons rfl .nil))) ?_
  repeat refine G.seq ?_
  refine G.region [.loc] (.take 0 .done) rfl ?_
  refine GP.take rfl rfl (Does.assign rfl ?_)
  refine GP.keep [(0, _), (4, _), (5, _), (7, _)] (.cons rfl (.cons rfl (.cons rfl (.cons rfl .nil)))) ?_
  repeat refine G.seq ?_
  have hEat := fun j hj => ends_at l k j hk hj
  have hEne : endsF l k ++ [l.length] ≠ [] := by simp
  generalize endsF l k ++ [l.length] = En at *
  obtain ⟨eb, ecap, esp, rfl, rfl, hec, hesp⟩ := g5.full hEne
  refine G.dropP [(b35, cel 3 [.int .i64 (l.length : Int)]), (it, Obj.stringIter ⟨l.toArray⟩ (posF l n))] (A := (sb, cel 35 [.int .i64 0, .int .i64 0, .slice none 0 0, .slice none 0 0]) :: [(eb, cel 3 ((En.flatMap fun x => [rI x]) ++ esp))]) (by classical exact List.perm_iff_count.2 fun q => by simp only [List.append_eq, List.nil_append, List.append_nil, List.cons_append, List.count_append, List.count_cons, List.count_nil] <;> omega) ?_
  refine G.region [.loc, .gen] (.take 0 (.take 1 .done)) rfl ?_
  refine GP.take rfl rfl (Does.move rfl ?_)
  refine GP.take rfl rfl (Does.rangeS rfl Tryd.underlying9 fun it2 => ?_)
  refine GP.keep [(0, _), (4, _), (5, _), (7, _), (38, _)] (.cons rfl (.cons rfl (.cons rfl (.cons rfl (.cons rfl .nil))))) ?_
  repeat refine G.seq ?_
  clear hn1 hkk hpl h5
  obtain ⟨Rr, hRr⟩ : ∃ Rr, runF l l.length 0 ⟨0, 0, [], []⟩ = Rr := ⟨_, rfl⟩
  have hW : wordsC l = Rr.bind lastF := by rw [wordsC, hRr]
  have hnb : ¬ l.length > 65536 := by omega
  refine G.join (S := Sc × Chunks) (fun s => [(4, .pointer (some ⟨sb, 0, none⟩))]) (fun s => s.2) (fun s => ScR sb s.1 s.2 ∧ Rr = some s.1 ∧ s.1.words.length ≤ 65536) ?_ fun key => ?_
  case refine_2 =>
    refine G.block ?_
    refine G.dropP [] (A := (it2, Obj.stringIter ⟨l.toArray⟩ (posF l 0)) :: (eb, cel 3 ((En.flatMap fun x => [rI x]) ++ esp)) :: ((sb, cel 35 [.int .i64 0, .int .i64 0, .slice none 0 0, .slice none 0 0]) :: ([] ++ []))) (by classical exact List.perm_iff_count.2 fun q => by simp only [posF, List.append_eq, List.nil_append, List.append_nil, List.cons_append, List.count_append, List.count_cons, List.count_nil] <;> omega) ?_
    refine G.loop (S := Nat × Sc × Chunks) (fun s => [(0, str l), (4, .pointer (some ⟨sb, 0, none⟩)), (5, .slice (some ⟨eb, 0, none⟩) En.length ecap), (7, .int .i64 (s.1 : Int)), (38, .pointer (some ⟨it2, 0, none⟩))]) (fun s => (it2, Obj.stringIter ⟨l.toArray⟩ (posF l s.1)) :: (eb, cel 3 ((En.flatMap fun x => [rI x]) ++ esp)) :: s.2.2)
      (fun s => (∀ j, j < s.1 → posF l j < l.length) ∧ ScR sb s.2.1 s.2.2 ∧ runF l (l.length - s.1) s.1 s.2.1 = Rr ∧ s.2.1.word.length ≤ posF l s.1 ∧ s.2.1.words.length ≤ s.1 ∧ -1 ≤ s.2.1.high ∧ s.2.1.high ≤ 15) (fun s => l.length + 1 - s.1)
      (0, ⟨0, 0, [], []⟩, _) ⟨fun j h => absurd h (Nat.not_lt_zero j), ⟨_, _, _, _, rfl, Rep.nil, Rep.nil⟩, hRr, Nat.zero_le _, Nat.zero_le _, by show (-1 : Int) ≤ 0; decide, by show (0 : Int) ≤ 15; decide⟩ (.cons rfl (.cons rfl (.cons rfl (.cons rfl (.cons rfl .nil))))) .all ?_
    rintro ⟨n, s, C4⟩ ⟨hall2, hs, hrun, hwl, hwsl, hh1, hh2⟩ IH
    simp only at hall2 hs hrun hwl hwsl hh1 hh2 IH ⊢
    obtain ⟨hn1, hn2⟩ := posF_le l n hall2
    repeat refine G.seq ?_
    by_cases hpl : posF l n < l.length
    case neg =>
      have hfin : Rr = some s := by
        rw [← hrun]
        cases l.length - n with
        | zero => rfl
        | succ f => rw [runF, if_neg hpl]
      refine G.region [.gen, .loc] (.take 0 (.take 1 .done)) rfl ?_
      refine GP.take rfl rfl (Does.nextE (l := l) (pos := posF l n) rfl (by omega) (.head _) ?_)
      refine GP.take rfl rfl (Does.extract rfl rfl ?_)
      refine GP.keep [(4, _), (40, _)] (.cons rfl (.cons rfl .nil)) ?_
      repeat refine G.seq ?_
      refine G.condF rfl ?_
      refine G.exit rfl ?_
      refine G.dropP [(it2, Obj.stringIter ⟨l.toArray⟩ (posF l n)), (eb, cel 3 ((En.flatMap fun x => [rI x]) ++ esp))] (A := C4) (by classical exact List.perm_iff_count.2 fun q => by simp only [List.append_eq, List.nil_append, List.append_nil, List.cons_append, List.count_append, List.count_cons, List.count_nil] <;> omega) ?_
      exact (key (s, C4) ⟨hs, hfin, by simp only; omega⟩).weak (.cons rfl .nil)
    obtain ⟨hr1, hr2, hr3, hr4⟩ := runeB_length l n hpl
    have hnk : n < k := by
      rcases Nat.lt_or_ge n k with h | h
      · exact h
      · exfalso
        rcases Nat.eq_or_lt_of_le h with h | h
        · rw [← h] at hpl; omega
        · have := hall2 k h; omega
    have hstep : runF l (l.length - n) n s = match stepF s (dec l (posF l n)).1 (runeB l n) with
        | .go s' => runF l (l.length - (n + 1)) (n + 1) s'
        | .brk s' => some s'
        | .bad => none := by
      rw [show l.length - n = (l.length - (n + 1)) + 1 by omega, runF, if_pos hpl]
    have hall3 : ∀ j, j < n + 1 → posF l j < l.length := fun j hj => by
      rcases (by omega : j < n ∨ j = n) with h | rfl
      · exact hall2 j h
      · exact hpl
    refine G.region [.gen, .loc] (.take 0 (.take 1 .done)) rfl ?_
    refine GP.take rfl rfl (Does.nextS (l := l) (pos := posF l n) rfl hpl .head ?_)
    refine GP.take rfl rfl (Does.extract rfl rfl ?_)
    refine GP.keep [(0, _), (4, _), (5, _), (7, _), (38, _), (39, _), (40, _)] (.cons rfl (.cons rfl (.cons rfl (.cons rfl (.cons rfl (.cons rfl (.cons rfl .nil))))))) ?_
    repeat refine G.seq ?_
    refine G.condT rfl ?_
    refine G.skip ?_
    repeat refine G.seq ?_
    refine G.block ?_
    repeat refine G.seq ?_
    refine G.dropP [] (A := (it2, Obj.stringIter ⟨l.toArray⟩ (posF l (n + 1))) :: (eb, cel 3 ((En.flatMap fun x => [rI x]) ++ esp)) :: C4) (by classical exact List.perm_iff_count.2 fun q => by simp only [posF, dec, List.append_eq, List.nil_append, List.append_nil, List.cons_append, List.count_append, List.count_cons, List.count_nil] <;> omega) ?_
    refine G.region [.loc, .loc, .loc, .loc] (.take 0 (.take 1 (.take 2 (.take 3 .done)))) rfl ?_
    refine GP.take rfl rfl (Does.extract rfl rfl ?_)
    refine GP.take rfl rfl (Does.extract rfl rfl ?_)
    refine GP.take rfl rfl (Does.assign rfl ?_)
    refine GP.take rfl rfl (Does.assign rfl ?_)
    refine GP.keep [(0, _), (4, _), (5, _), (7, _), (8, _), (9, _), (38, _)] (.cons rfl (.cons rfl (.cons rfl (.cons rfl (.cons rfl (.cons rfl (.cons rfl .nil))))))) ?_
    repeat refine G.seq ?_
    obtain ⟨c, hc⟩ : ∃ c, (dec l (posF l n)).1 = c := ⟨_, rfl⟩
    rw [show (Utf8.decode ⟨l.toArray⟩ (posF l n)).1 = c from hc]
    rw [hc] at hstep
    have hEn : n < En.length := (List.getElem?_eq_some_iff.1 (hEat n hnk)).1
    refine G.region [.loc, .loc, .loc, .loc, .loc, .gen, .loc, .loc] (.take 0 (.take 1 (.take 2 (.take 3 (.take 4 (.take 5 (.take 6 (.take 7 .done)))))))) rfl ?_
    refine GP.take rfl rfl (Does.move rfl ?_)
    refine GP.take rfl rfl (Does.move rfl ?_)
    refine GP.take rfl rfl (Does.move rfl ?_)
    refine GP.take rfl rfl (Does.move rfl ?_)
    refine GP.take rfl rfl (Does.indexAddr n rfl rfl sl36 rfl hEn ?_)
    refine GP.take rfl rfl (Does.load1 rfl ft3 (CellIn.own (.tail _ (.head _)) (row_at rI En esp n _ (hEat n hnk))) ?_)
    refine GP.take rfl rfl (Does.sliceSB (posF l n) (posF l (n + 1)) rfl rfl rfl Tryd.underlying9 rfl rfl (by omega) hr4 ?_)
    refine GP.take rfl rfl (Does.assign rfl ?_)
    refine GP.keep [(0, _), (4, _), (5, _), (7, _), (8, _), (9, _), (10, _), (38, _)] (.cons rfl (.cons rfl (.cons rfl (.cons rfl (.cons rfl (.cons rfl (.cons rfl (.cons rfl .nil)))))))) ?_
    repeat refine G.seq ?_
    rw [show (l.take (posF l (n + 1))).drop (posF l n) = runeB l n from rfl]
    obtain ⟨b, hb⟩ : ∃ b, runeB l n = b := ⟨_, rfl⟩
    rw [hb] at hr1 hr2 hr3 hstep ⊢
    refine G.region [.loc, .loc, .loc] (.take 0 (.take 1 (.take 2 .done))) rfl ?_
    refine GP.take rfl rfl (Does.move rfl ?_)
    refine GP.take rfl rfl (Does.add rfl rfl (r := ((n + 1 : Nat) : Int)) (wrc_i64 (by omega) (by omega) (by omega)) ?_)
    refine GP.take rfl rfl (Does.assign rfl ?_)
    refine GP.keep [(0, _), (4, _), (5, _), (7, _), (9, _), (10, _), (38, _)] (.cons rfl (.cons rfl (.cons rfl (.cons rfl (.cons rfl (.cons rfl (.cons rfl .nil))))))) ?_
    repeat refine G.seq ?_
    refine G.join (S := Unit) (fun _ => [(0, str l), (4, .pointer (some ⟨sb, 0, none⟩)), (5, .slice (some ⟨eb, 0, none⟩) En.length ecap), (7, .int .i64 ((n + 1 : Nat) : Int)), (9, .int .i32 (c : Int)), (10, str b), (38, .pointer (some ⟨it2, 0, none⟩)), (63, .bool (decide (2 ≤ s.at_ ∧ s.at_ ≤ 5)))]) (fun _ => (it2, Obj.stringIter ⟨l.toArray⟩ (posF l (n + 1))) :: (eb, cel 3 ((En.flatMap fun x => [rI x]) ++ esp)) :: C4) (fun _ => True) ?_ fun key2 => ?_
    case refine_2 =>
      obtain ⟨wv, wsv, Cw, Cws, rfl, q1, q2⟩ := hs
      unfold scell at key2 ⊢
      by_cases a2 : 2 ≤ s.at_
      · by_cases a5 : s.at_ ≤ 5
        · rw [decide_eq_true (show 2 ≤ s.at_ ∧ s.at_ ≤ 5 from ⟨a2, a5⟩)] at key2
          refine G.region [.loc, .loc, .loc, .gen, .loc, .loc, .loc, .loc, .loc, .gen, .loc, .loc] (.take 0 (.take 1 (.take 2 (.take 3 (.take 4 (.take 5 (.take 6 (.take 7 (.take 8 (.take 9 (.take 10 (.take 11 .done)))))))))))) rfl ?_
          refine GP.take rfl rfl (Does.move rfl ?_)
          refine GP.take rfl rfl (Does.nilCheck rfl ?_)
          refine GP.take rfl rfl (Does.fieldAddr rfl fo35_0 ?_)
          refine GP.take rfl rfl (Does.load1 rfl ft3 (CellIn.own (.tail _ (.tail _ (.head _))) rfl) ?_)
          refine GP.take rfl rfl (Does.geq rfl rfl (show decide (s.at_ ≥ 2) = true from decide_eq_true (by omega)) ?_)
          refine GP.take rfl rfl (Does.move rfl ?_)
          refine GP.takeG rfl rfl rfl rfl (Does.move rfl ?_)
          refine GP.takeG rfl rfl rfl rfl (Does.nilCheck rfl ?_)
          refine GP.takeG rfl rfl rfl rfl (Does.fieldAddr rfl fo35_0 ?_)
          refine GP.takeG rfl rfl rfl rfl (Does.load1 rfl ft3 (CellIn.own (.tail _ (.tail _ (.head _))) rfl) ?_)
          refine GP.takeG rfl rfl rfl rfl (Does.leq rfl rfl (show decide (s.at_ ≤ 5) = true from decide_eq_true (by omega)) ?_)
          refine GP.take rfl rfl (Does.pickT rfl rfl ?_)
          refine GP.keep [(0, _), (4, _), (5, _), (7, _), (9, _), (10, _), (38, _), (63, _)] (.cons rfl (.cons rfl (.cons rfl (.cons rfl (.cons rfl (.cons rfl (.cons rfl (.cons rfl .nil)))))))) ?_
          exact key2 () trivial
        · rw [decide_eq_false (show ¬ (2 ≤ s.at_ ∧ s.at_ ≤ 5) from fun h => a5 h.2)] at key2
          refine G.region [.loc, .loc, .loc, .gen, .loc, .loc, .loc, .loc, .loc, .gen, .loc, .loc] (.take 0 (.take 1 (.take 2 (.take 3 (.take 4 (.take 5 (.take 6 (.take 7 (.take 8 (.take 9 (.take 10 (.take 11 .done)))))))))))) rfl ?_
          refine GP.take rfl rfl (Does.move rfl ?_)
          refine GP.take rfl rfl (Does.nilCheck rfl ?_)
          refine GP.take rfl rfl (Does.fieldAddr rfl fo35_0 ?_)
          refine GP.take rfl rfl (Does.load1 rfl ft3 (CellIn.own (.tail _ (.tail _ (.head _))) rfl) ?_)
          refine GP.take rfl rfl (Does.geq rfl rfl (show decide (s.at_ ≥ 2) = true from decide_eq_true (by omega)) ?_)
          refine GP.take rfl rfl (Does.move rfl ?_)
          refine GP.takeG rfl rfl rfl rfl (Does.move rfl ?_)
          refine GP.takeG rfl rfl rfl rfl (Does.nilCheck rfl ?_)
          refine GP.takeG rfl rfl rfl rfl (Does.fieldAddr rfl fo35_0 ?_)
          refine GP.takeG rfl rfl rfl rfl (Does.load1 rfl ft3 (CellIn.own (.tail _ (.tail _ (.head _))) rfl) ?_)
          refine GP.takeG rfl rfl rfl rfl (Does.leq rfl rfl (show decide (s.at_ ≤ 5) = false from decide_eq_false (by omega)) ?_)
          refine GP.take rfl rfl (Does.pickT rfl rfl ?_)
          refine GP.keep [(0, _), (4, _), (5, _), (7, _), (9, _), (10, _), (38, _), (63, _)] (.cons rfl (.cons rfl (.cons rfl (.cons rfl (.cons rfl (.cons rfl (.cons rfl (.cons rfl .nil)))))))) ?_
          exact key2 () trivial
      · rw [decide_eq_false (show ¬ (2 ≤ s.at_ ∧ s.at_ ≤ 5) from fun h => a2 h.1)] at key2
        refine G.region [.loc, .loc, .loc, .gen, .loc, .loc, .loc, .loc, .loc, .gen, .loc, .loc] (.take 0 (.take 1 (.take 2 (.take 3 (.take 4 (.take 5 (.take 6 (.take 7 (.take 8 (.take 9 (.take 10 (.take 11 .done)))))))))))) rfl ?_
        refine GP.take rfl rfl (Does.move rfl ?_)
        refine GP.take rfl rfl (Does.nilCheck rfl ?_)
        refine GP.take rfl rfl (Does.fieldAddr rfl fo35_0 ?_)
        refine GP.take rfl rfl (Does.load1 rfl ft3 (CellIn.own (.tail _ (.tail _ (.head _))) rfl) ?_)
        refine GP.take rfl rfl (Does.geq rfl rfl (show decide (s.at_ ≥ 2) = false from decide_eq_false (by omega)) ?_)
        refine GP.take rfl rfl (Does.move rfl ?_)
        refine GP.pass rfl rfl rfl rfl rfl ?_
        refine GP.pass rfl rfl rfl rfl rfl ?_
        refine GP.pass rfl rfl rfl rfl rfl ?_
        refine GP.pass rfl rfl rfl rfl rfl ?_
        refine GP.pass rfl rfl rfl rfl rfl ?_
        refine GP.take rfl rfl (Does.pickF rfl rfl ?_)
        refine GP.keep [(0, _), (4, _), (5, _), (7, _), (9, _), (10, _), (38, _), (63, _)] (.cons rfl (.cons rfl (.cons rfl (.cons rfl (.cons rfl (.cons rfl (.cons rfl (.cons rfl .nil)))))))) ?_
        exact key2 () trivial
    rintro - -
    refine G.fact (p := 0 ∉ C4.map Prod.fst) (fun w hst hm => ?_) fun hg0 => ?_
    · obtain ⟨x, hx, he⟩ := List.mem_map.1 hm
      have h9 : w0.heap.size ≤ x.1 := (hst.new x (.tail _ (.tail _ hx))).resolve_left (by simp)
      omega
    refine G.cond rfl ?_ ?_
    · intro hin
      repeat refine G.seq ?_
      refine G.region [.loc, .loc, .loc, .gen, .loc] (.take 0 (.take 1 (.take 2 (.take 3 (.take 4 .done))))) rfl ?_
      refine GP.take rfl rfl (Does.move rfl ?_)
      refine GP.take rfl rfl (Does.move rfl ?_)
      refine GP.take rfl rfl (Does.move rfl ?_)
      refine GP.take rfl rfl (Does.callP [(it2, Obj.stringIter ⟨l.toArray⟩ (posF l (n + 1))), (eb, cel 3 ((En.flatMap fun x => [rI x]) ++ esp))] C4 (.cons rfl (.cons rfl (.cons rfl .nil))) cb9 (by classical exact List.perm_iff_count.2 fun q => by simp only [List.append_eq, List.nil_append, List.append_nil, List.cons_append, List.count_append, List.count_cons, List.count_nil] <;> omega) (inside_ct sb s C4 c b hs hr2 (by omega) hh1 (by omega) hg0) (fun w hw i v hi => CellIn.old (C := []) (b := 0) (by simp) (hglob i v hi) w (hw.sub .nil)) ?_)
      rintro _ C9 ⟨rfl, hs9⟩
      refine ⟨(it2, Obj.stringIter ⟨l.toArray⟩ (posF l (n + 1))) :: (eb, cel 3 ((En.flatMap fun x => [rI x]) ++ esp)) :: C9, (by classical exact List.perm_iff_count.2 fun q => by simp only [List.append_eq, List.nil_append, List.append_nil, List.cons_append, List.count_append, List.count_cons, List.count_nil] <;> omega), ?_⟩
      refine GP.take rfl rfl (Does.not rfl rfl ?_)
      refine GP.keep [(0, _), (4, _), (5, _), (7, _), (38, _), (68, _)] (.cons rfl (.cons rfl (.cons rfl (.cons rfl (.cons rfl (.cons rfl .nil)))))) ?_
      repeat refine G.seq ?_
      cases hok : (inF s c b).2 with
      | false =>
        refine G.condT rfl ?_
        repeat refine G.seq ?_
        refine G.region [.loc, .loc] (.take 0 (.take 1 .done)) rfl ?_
        refine GP.take rfl rfl (Does.assign rfl ?_)
        refine GP.take rfl rfl (Does.assign rfl ?_)
        refine GP.keep [(2, _), (3, _)] (.cons rfl (.cons rfl .nil)) ?_
        exact fin_ret (fn := Tryd.f5) Tryd.func5 (res2 rfl rfl rfl) .nil (by
          have hR : Rr = none := by rw [← hrun, hstep, stepF, if_pos hin, if_neg (by rw [hok]; decide)]
          rw [WRes, if_neg hnb, hW, hR]; exact ⟨rfl, rfl⟩)
      | true =>
        have hsp : stepF s c b = .go (inF s c b).1 := by rw [stepF, if_pos hin, if_pos hok]
        have hbd := step_bound s c b _ hr2 (.inl hsp) ⟨hh1, hh2⟩
        rw [hsp] at hstep
        refine G.condF rfl ?_
        refine G.skip ?_
        refine G.exit rfl ?_
        exact (IH (n + 1, (inF s c b).1, C9) ⟨hall3, hs9, by rw [← hrun, hstep], by simp only; omega, by simp only; omega, hbd.2.2.1, hbd.2.2.2⟩ (by simp only; omega)).weak (.cons rfl (.cons rfl (.cons rfl (.cons rfl (.cons rfl .nil)))))
    · intro hin
      refine G.skip ?_
      repeat refine G.seq ?_
      refine G.region [.loc, .loc, .loc, .gen, .loc, .loc, .loc, .loc, .loc] (.take 0 (.take 1 (.take 2 (.take 3 (.take 4 (.take 5 (.take 6 (.take 7 (.take 8 .done))))))))) rfl ?_
      refine GP.take rfl rfl (Does.move rfl ?_)
      refine GP.take rfl rfl (Does.move rfl ?_)
      refine GP.take rfl rfl (Does.move rfl ?_)
      refine GP.take rfl rfl (Does.callP [(it2, Obj.stringIter ⟨l.toArray⟩ (posF l (n + 1))), (eb, cel 3 ((En.flatMap fun x => [rI x]) ++ esp))] C4 (.cons rfl (.cons rfl (.cons rfl .nil))) cb10 (by classical exact List.perm_iff_count.2 fun q => by simp only [List.append_eq, List.nil_append, List.append_nil, List.cons_append, List.count_append, List.count_cons, List.count_nil] <;> omega) (outside_ct sb s C4 c b hs (by omega) hr2 (by omega)) (fun _ _ => trivial) ?_)
      rintro _ C9 ⟨rfl, hs9⟩
      refine ⟨(it2, Obj.stringIter ⟨l.toArray⟩ (posF l (n + 1))) :: (eb, cel 3 ((En.flatMap fun x => [rI x]) ++ esp)) :: C9, (by classical exact List.perm_iff_count.2 fun q => by simp only [List.append_eq, List.nil_append, List.append_nil, List.cons_append, List.count_append, List.count_cons, List.count_nil] <;> omega), ?_⟩
      refine GP.take rfl rfl (Does.move rfl ?_)
      refine GP.take rfl rfl (Does.extract rfl rfl ?_)
      refine GP.take rfl rfl (Does.extract rfl rfl ?_)
      refine GP.take rfl rfl (Does.assign rfl ?_)
      refine GP.take rfl rfl (Does.assign rfl ?_)
      refine GP.keep [(0, _), (4, _), (5, _), (7, _), (11, _), (12, _), (38, _)] (.cons rfl (.cons rfl (.cons rfl (.cons rfl (.cons rfl (.cons rfl (.cons rfl .nil))))))) ?_
      repeat refine G.seq ?_
      refine G.region [.loc, .loc] (.take 0 (.take 1 .done)) rfl ?_
      refine GP.take rfl rfl (Does.move rfl ?_)
      refine GP.take rfl rfl (Does.not rfl rfl ?_)
      refine GP.keep [(0, _), (4, _), (5, _), (7, _), (11, _), (38, _), (77, _)] (.cons rfl (.cons rfl (.cons rfl (.cons rfl (.cons rfl (.cons rfl (.cons rfl .nil))))))) ?_
      repeat refine G.seq ?_
      cases hok : (outF s c b).2.2 with
      | false =>
        refine G.condT rfl ?_
        repeat refine G.seq ?_
        refine G.region [.loc, .loc] (.take 0 (.take 1 .done)) rfl ?_
        refine GP.take rfl rfl (Does.assign rfl ?_)
        refine GP.take rfl rfl (Does.assign rfl ?_)
        refine GP.keep [(2, _), (3, _)] (.cons rfl (.cons rfl .nil)) ?_
        exact fin_ret (fn := Tryd.f5) Tryd.func5 (res2 rfl rfl rfl) .nil (by
          have hR : Rr = none := by rw [← hrun, hstep, stepF, if_neg hin, if_neg (by rw [hok]; decide)]
          rw [WRes, if_neg hnb, hW, hR]; exact ⟨rfl, rfl⟩)
      | true =>
        refine G.condF rfl ?_
        refine G.skip ?_
        repeat refine G.seq ?_
        refine G.region [.loc, .loc] (.take 0 (.take 1 .done)) rfl ?_
        refine GP.take rfl rfl (Does.move rfl ?_)
        refine GP.take rfl rfl (Does.not rfl rfl ?_)
        refine GP.keep [(0, _), (4, _), (5, _), (7, _), (38, _), (79, _)] (.cons rfl (.cons rfl (.cons rfl (.cons rfl (.cons rfl (.cons rfl .nil)))))) ?_
        repeat refine G.seq ?_
        cases hon : (outF s c b).2.1 with
        | false =>
          have hsp : stepF s c b = .brk (outF s c b).1 := by rw [stepF, if_neg hin, if_pos hok, if_neg (by rw [hon]; decide)]
          have hbd := step_bound s c b _ hr2 (.inr hsp) ⟨hh1, hh2⟩
          rw [hsp] at hstep
          refine G.condT rfl ?_
          refine G.exit rfl ?_
          refine G.dropP [(it2, Obj.stringIter ⟨l.toArray⟩ (posF l (n + 1))), (eb, cel 3 ((En.flatMap fun x => [rI x]) ++ esp))] (A := C9) (by classical exact List.perm_iff_count.2 fun q => by simp only [List.append_eq, List.nil_append, List.append_nil, List.cons_append, List.count_append, List.count_cons, List.count_nil] <;> omega) ?_
          exact (key ((outF s c b).1, C9) ⟨hs9, by rw [← hrun, hstep], by simp only; omega⟩).weak (.cons rfl .nil)
        | true =>
          have hsp : stepF s c b = .go (outF s c b).1 := by rw [stepF, if_neg hin, if_pos hok, if_pos hon]
          have hbd := step_bound s c b _ hr2 (.inl hsp) ⟨hh1, hh2⟩
          rw [hsp] at hstep
          refine G.condF rfl ?_
          refine G.skip ?_
          refine G.inBlock ?_
          exact (IH (n + 1, (outF s c b).1, C9) ⟨hall3, hs9, by rw [← hrun, hstep], by simp only; omega, by simp only; omega, hbd.2.2.1, hbd.2.2.2⟩ (by simp only; omega)).weak (.cons rfl (.cons rfl (.cons rfl (.cons rfl (.cons rfl .nil)))))
  rintro ⟨s, C4⟩ ⟨hs, hR, hwsl⟩
  simp only at hs hR hwsl ⊢
  have hWl : wordsC l = lastF s := by rw [hW, hR]; rfl
  clear hglob
  repeat refine G.seq ?_
  have hs0 := hs
  obtain ⟨wv, wsv, Cw, Cws, rfl, q1, q2⟩ := hs
  unfold scell at *
  refine G.region [.loc, .loc, .loc, .gen] (.take 0 (.take 1 (.take 2 (.take 3 .done)))) rfl ?_
  refine GP.take rfl rfl (Does.move rfl ?_)
  refine GP.take rfl rfl (Does.nilCheck rfl ?_)
  refine GP.take rfl rfl (Does.fieldAddr rfl fo35_0 ?_)
  refine GP.take rfl rfl (Does.load1 rfl ft3 (CellIn.own (.head _) rfl) ?_)
  refine GP.keep [(4, _), (83, _)] (.cons rfl (.cons rfl .nil)) ?_
  repeat refine G.seq ?_
  refine G.block ?_
  repeat refine G.seq ?_
  refine G.region [.loc, .loc] (.take 0 (.take 1 .done)) rfl ?_
  refine GP.take rfl rfl (Does.eql rfl rfl (show decide (s.at_ = 1) = decide (s.at_ = 1) from rfl) ?_)
  refine GP.take rfl rfl (Does.assign rfl ?_)
  refine GP.keep [(4, _), (83, _), (84, _)] (.cons rfl (.cons rfl (.cons rfl .nil))) ?_
  repeat refine G.seq ?_
  refine G.join (S := Unit) (fun _ => [(4, .pointer (some ⟨sb, 0, none⟩)), (83, .int .i64 s.at_), (84, .bool (decide (s.at_ = 1 ∨ s.at_ = 6)))]) (fun _ => (sb, cel 35 [.int .i64 s.at_, .int .i64 s.high, wv, wsv]) :: (Cw ++ Cws)) (fun _ => True) ?_ fun key2 => ?_
  case refine_2 =>
    refine G.cond rfl ?_ ?_
    · intro a1
      rw [decide_eq_true (show s.at_ = 1 ∨ s.at_ = 6 from .inl a1)] at key2
      rw [decide_eq_true a1]
      refine G.skip ?_
      exact key2 () trivial
    · intro a1
      repeat refine G.seq ?_
      refine G.region [.loc, .loc] (.take 0 (.take 1 .done)) rfl ?_
      refine GP.take rfl rfl (Does.eql rfl rfl (show decide (s.at_ = 6) = decide (s.at_ = 1 ∨ s.at_ = 6) from decide_eq_decide.2 (by omega)) ?_)
      refine GP.take rfl rfl (Does.assign rfl ?_)
      refine GP.keep [(4, _), (83, _), (84, _)] (.cons rfl (.cons rfl (.cons rfl .nil))) ?_
      exact key2 () trivial
  rintro - -
  repeat refine G.seq ?_
  refine G.cond rfl ?_ ?_
  · intro hp
    repeat refine G.seq ?_
    refine G.region [.loc, .gen] (.take 0 (.take 1 .done)) rfl ?_
    refine GP.take rfl rfl (Does.move rfl ?_)
    refine GP.take rfl rfl (Does.callP [] ((sb, cel 35 [.int .i64 s.at_, .int .i64 s.high, wv, wsv]) :: (Cw ++ Cws)) (.cons rfl .nil) cb11 (by classical exact List.perm_iff_count.2 fun q => by simp only [List.append_eq, List.nil_append, List.append_nil, List.cons_append, List.count_append, List.count_cons, List.count_nil] <;> omega) (end_ct sb s _ hs0 (by omega)) (fun _ _ => trivial) ?_)
    rintro _ C9 ⟨rfl, wn, wsn, Cn, Csn, rfl, g1, g2⟩
    refine ⟨(sb, scell (endS s) wn wsn) :: (Cn ++ Csn), (by classical exact List.perm_iff_count.2 fun q => by simp only [List.append_eq, List.nil_append, List.append_nil, List.cons_append, List.count_append, List.count_cons, List.count_nil] <;> omega), ?_⟩
    refine GP.keep [(4, _)] (.cons rfl .nil) ?_
    unfold scell
    refine G.inBlock ?_
    repeat refine G.seq ?_
    refine G.region [.loc, .loc, .loc, .gen, .loc, .loc] (.take 0 (.take 1 (.take 2 (.take 3 (.take 4 (.take 5 .done)))))) rfl ?_
    refine GP.take rfl rfl (Does.move rfl ?_)
    refine GP.take rfl rfl (Does.nilCheck rfl ?_)
    refine GP.take rfl rfl (Does.fieldAddr rfl fo35_3 ?_)
    refine GP.take rfl rfl (Does.load1 rfl ft22 (CellIn.own (.head _) rfl) ?_)
    refine GP.take rfl rfl (Does.assign rfl ?_)
    refine GP.take rfl rfl (Does.assign rfl ?_)
    refine GP.keep [(2, _), (3, _)] (.cons rfl (.cons rfl .nil)) ?_
    refine G.dropP ((sb, cel 35 [.int .i64 (endS s).at_, .int .i64 (endS s).high, wn, wsn]) :: Cn) (A := Csn) (by classical exact List.perm_iff_count.2 fun q => by simp only [List.append_eq, List.nil_append, List.append_nil, List.cons_append, List.count_append, List.count_cons, List.count_nil] <;> omega) ?_
    exact fin_ret (fn := Tryd.f5) (R := []) Tryd.func5 (res2 rfl rfl rfl) .all (by rw [WRes, if_neg hnb, hWl, lastF, if_pos hp]; exact ⟨wsn, rfl, g2, by simp only [List.length_append, List.length_cons, List.length_nil]; omega⟩)
  intro hp
  repeat refine G.seq ?_
  refine G.region [.loc, .loc] (.take 0 (.take 1 .done)) rfl ?_
  refine GP.take rfl rfl (Does.eql rfl rfl (show decide (s.at_ = 0) = decide (s.at_ = 0) from rfl) ?_)
  refine GP.take rfl rfl (Does.assign rfl ?_)
  refine GP.keep [(4, _), (89, _)] (.cons rfl (.cons rfl .nil)) ?_
  repeat refine G.seq ?_
  refine G.cond rfl ?_ ?_
  · intro h0
    refine G.skip ?_
    refine G.inBlock ?_
    repeat refine G.seq ?_
    refine G.region [.loc, .loc, .loc, .gen, .loc, .loc] (.take 0 (.take 1 (.take 2 (.take 3 (.take 4 (.take 5 .done)))))) rfl ?_
    refine GP.take rfl rfl (Does.move rfl ?_)
    refine GP.take rfl rfl (Does.nilCheck rfl ?_)
    refine GP.take rfl rfl (Does.fieldAddr rfl fo35_3 ?_)
    refine GP.take rfl rfl (Does.load1 rfl ft22 (CellIn.own (.head _) rfl) ?_)
    refine GP.take rfl rfl (Does.assign rfl ?_)
    refine GP.take rfl rfl (Does.assign rfl ?_)
    refine GP.keep [(2, _), (3, _)] (.cons rfl (.cons rfl .nil)) ?_
    refine G.dropP ((sb, cel 35 [.int .i64 s.at_, .int .i64 s.high, wv, wsv]) :: Cw) (A := Cws) (by classical exact List.perm_iff_count.2 fun q => by simp only [List.append_eq, List.nil_append, List.append_nil, List.cons_append, List.count_append, List.count_cons, List.count_nil] <;> omega) ?_
    exact fin_ret (fn := Tryd.f5) (R := []) Tryd.func5 (res2 rfl rfl rfl) .all (by rw [WRes, if_neg hnb, hWl, lastF, if_neg hp, if_pos h0]; exact ⟨wsv, rfl, q2, by omega⟩)
  intro h0
  repeat refine G.seq ?_
  refine G.region [.loc, .loc] (.take 0 (.take 1 .done)) rfl ?_
  refine GP.take rfl rfl (Does.assign rfl ?_)
  refine GP.take rfl rfl (Does.assign rfl ?_)
  refine GP.keep [(2, _), (3, _)] (.cons rfl (.cons rfl .nil)) ?_
  exact fin_ret (fn := Tryd.f5) Tryd.func5 (res2 rfl rfl rfl) .nil (by rw [WRes, if_neg hnb, hWl, lastF, if_neg hp, if_neg h0]; exact ⟨rfl, rfl⟩)
end Go.Proofs.YtcgenmfnlocbbaaDoor.T
