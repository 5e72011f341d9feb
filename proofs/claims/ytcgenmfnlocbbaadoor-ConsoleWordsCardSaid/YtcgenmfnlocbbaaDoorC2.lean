/- The document's Words, and the same words, walked. Nothing is claimed of a law here. -/
import Derived.Test.YtcgenmfnlocbbaaDoorC1
namespace Go.Proofs.YtcgenmfnlocbbaaDoor.T
open Go.Lg
theorem is22 : isSlice Tryd.prog 22 = true := by kernel_rfl
def plainB (x : UInt8) : Bool := !blankF x.toNat && decide (x.toNat ≠ 34)
/-- may this stand behind a quoted word? -/
def afterB (rest : List UInt8) : Bool := match rest with
  | [] => true
  | y :: _ => blankF y.toNat || decide (y.toNat = 35)
def headIs34 (rest : List UInt8) : Bool := match rest with
  | [] => false
  | y :: _ => decide (y.toNat = 34)
/-- the document's words -/
def refL : Nat → List UInt8 → List (List UInt8) → Option (List (List UInt8))
  | 0, _, _ => none
  | _ + 1, [], ws => some ws
  | f + 1, x :: r, ws => if x.toNat = 35 then some ws else if blankF x.toNat = true then refL f r ws
    else if x.toNat = 34 then match quotedL (x :: r).length r [] with
      | none => none
      | some (w, rest) => if afterB rest = true then refL f rest (ws ++ [w]) else none
    else if headIs34 ((x :: r).dropWhile plainB) = true then none else refL f ((x :: r).dropWhile plainB) (ws ++ [(x :: r).takeWhile plainB])
theorem while_drop (l : List UInt8) (i j : Nat) (hij : i ≤ j) (hj : j ≤ l.length) (hp : ∀ k y, i ≤ k → k < j → l[k]? = some y → plainB y = true) (hn : ∀ y, l[j]? = some y → plainB y = false) :
    (l.drop i).takeWhile plainB = (l.take j).drop i ∧ (l.drop i).dropWhile plainB = l.drop j := by
  have e : l.drop i = (l.take j).drop i ++ l.drop j := by
    have e0 : l.drop i = (l.take j ++ l.drop j).drop i := by rw [List.take_append_drop]
    rw [e0, List.drop_append_of_le_length (by rw [List.length_take]; omega)]
  have h1 : ∀ y ∈ (l.take j).drop i, plainB y = true := fun y hy => by
    obtain ⟨k, hk, rfl⟩ := List.mem_iff_getElem.1 hy
    rw [List.length_drop, List.length_take] at hk
    refine hp (i + k) _ (by omega) (by omega) ?_
    rw [List.getElem_drop, List.getElem_take]
    simp
  have h2 : ∀ (q : List UInt8), (∀ y, q.head? = some y → plainB y = false) → q.takeWhile plainB = [] ∧ q.dropWhile plainB = q := fun q hq => by
    cases q with
    | nil => exact ⟨rfl, rfl⟩
    | cons y q => have := hq y rfl; simp [this]
  obtain ⟨t1, t2⟩ := h2 (l.drop j) (fun y hy => hn y (by rw [← hy]; simp [List.head?_drop]))
  rw [e, List.takeWhile_append_of_pos h1, List.dropWhile_append_of_pos h1, t1, t2, List.append_nil]
  exact ⟨rfl, rfl⟩
def RRes (l : List UInt8) (v : Value) (C' : Chunks) : Prop :=
  if l.length > 65536 then v = .tuple #[.slice none 0 0, .int .i64 192] ∧ C' = []
  else match refL (l.length + 1) l [] with
    | none => v = .tuple #[.slice none 0 0, .int .i64 191] ∧ C' = []
    | some ws => ∃ wsv, v = .tuple #[wsv, .int .i64 0] ∧ Rep 9 str ws wsv C' ∧ ws.length ≤ 65537
theorem wordsR_ct (l : List UInt8) : Ct Tryd.prog 6 [str l].toArray (fun _ => True) [] (RRes l) := by
  refine ct_of_walk (fn := Tryd.f6) Tryd.func6 rfl rfl fun w0 hpre hst => ?_
  clear hst
  repeat refine G.seq ?_
  refine G.region [.loc, .loc] (.take 0 (.take 1 .done)) rfl ?_
  refine GP.take rfl rfl (Does.assign rfl ?_)
  refine GP.take rfl rfl (Does.assign rfl ?_)
  refine GP.keep [(0, _)] (.cons rfl .nil) ?_
  repeat refine G.seq ?_
  refine G.region [.loc, .loc, .loc] (.take 0 (.take 1 (.take 2 .done))) rfl ?_
  refine GP.take rfl rfl (Does.move rfl ?_)
  refine GP.take rfl rfl (Does.lenS rfl Tryd.underlying9 ?_)
  refine GP.take rfl rfl (Does.gtr rfl rfl rfl ?_)
  refine GP.keep [(0, _), (11, _)] (.cons rfl (.cons rfl .nil)) ?_
  repeat refine G.seq ?_
  refine G.cond rfl ?_ ?_
  · intro hz
    repeat refine G.seq ?_
    refine G.region [.loc, .loc] (.take 0 (.take 1 .done)) rfl ?_
    refine GP.take rfl rfl (Does.assign rfl ?_)
    refine GP.take rfl rfl (Does.assign rfl ?_)
    refine GP.keep [(2, _), (3, _)] (.cons rfl (.cons rfl .nil)) ?_
    exact fin_ret (fn := Tryd.f6) Tryd.func6 (res2 rfl rfl rfl) .nil (by rw [RRes, if_pos (by omega)]; exact ⟨rfl, rfl⟩)
  intro hz
  have hlen : l.length ≤ 65536 := by omega
  have hnb : ¬ l.length > 65536 := by omega
  refine G.skip ?_
  repeat refine G.seq ?_
  refine G.region [.loc] (.take 0 .done) rfl ?_
  refine GP.take rfl rfl (Does.assign rfl ?_)
  refine GP.keep [(0, _), (4, _)] (.cons rfl (.cons rfl .nil)) ?_
  repeat refine G.seq ?_
  refine G.region [.loc] (.take 0 .done) rfl ?_
  refine GP.take rfl rfl (Does.assign rfl ?_)
  refine GP.keep [(0, _), (4, _), (5, _)] (.cons rfl (.cons rfl (.cons rfl .nil))) ?_
  repeat refine G.seq ?_
  obtain ⟨Rr, hRr⟩ : ∃ Rr, refL (l.length + 1) l [] = Rr := ⟨_, rfl⟩
  refine G.block ?_
  refine G.loop (S := Nat × List (List UInt8) × Value × Chunks × Nat) (fun s => [(0, str l), (4, s.2.2.1), (5, .int .i64 (s.1 : Int))]) (fun s => s.2.2.2.1)
    (fun s => s.1 ≤ l.length ∧ Rep 9 str s.2.1 s.2.2.1 s.2.2.2.1 ∧ l.length < s.1 + s.2.2.2.2 ∧ refL s.2.2.2.2 (l.drop s.1) s.2.1 = Rr ∧ s.2.1.length ≤ s.1) (fun s => l.length + 1 - s.1)
    (0, [], _, [], l.length + 1) ⟨Nat.zero_le _, Rep.nil, by simp only; omega, hRr, Nat.zero_le _⟩ (.cons rfl (.cons rfl (.cons rfl .nil))) .all ?_
  rintro ⟨i, ws, sv, C4, f⟩ ⟨hi, hw, hf, hR, hwl⟩ IH
  simp only at hi hw hf hR hwl IH ⊢
  obtain ⟨f', rfl⟩ : ∃ f', f = f' + 1 := ⟨f - 1, by omega⟩
  repeat refine G.seq ?_
  by_cases hil : i < l.length
  case neg =>
    refine G.region [.loc, .loc, .loc, .loc, .loc, .loc, .loc, .loc, .loc, .loc] (.take 0 (.take 1 (.take 2 (.take 3 (.take 4 (.take 5 (.take 6 (.take 7 (.take 8 (.take 9 .done)))))))))) rfl ?_
    refine GP.take rfl rfl (Does.move rfl ?_)
    refine GP.take rfl rfl (Does.move rfl ?_)
    refine GP.take rfl rfl (Does.lenS rfl Tryd.underlying9 ?_)
    refine GP.take rfl rfl (Does.lss rfl rfl (show decide ((i : Int) < (l.length : Int)) = false from decide_eq_false (by omega)) ?_)
    refine GP.take rfl rfl (Does.move rfl ?_)
    refine GP.pass rfl rfl rfl rfl rfl ?_
    refine GP.pass rfl rfl rfl rfl rfl ?_
    refine GP.pass rfl rfl rfl rfl rfl ?_
    refine GP.pass rfl rfl rfl rfl rfl ?_
    refine GP.take rfl rfl (Does.pickF rfl rfl ?_)
    refine GP.keep [(0, _), (4, _), (5, _), (21, _)] (.cons rfl (.cons rfl (.cons rfl (.cons rfl .nil)))) ?_
    repeat refine G.seq ?_
    refine G.condF rfl ?_
    refine G.exit rfl ?_
    repeat refine G.seq ?_
    refine G.region [.loc, .loc, .loc] (.take 0 (.take 1 (.take 2 .done))) rfl ?_
    refine GP.take rfl rfl (Does.move rfl ?_)
    refine GP.take rfl rfl (Does.assign rfl ?_)
    refine GP.take rfl rfl (Does.assign rfl ?_)
    refine GP.keep [(2, _), (3, _)] (.cons rfl (.cons rfl .nil)) ?_
    exact fin_ret (fn := Tryd.f6) (R := []) Tryd.func6 (res2 rfl rfl rfl) .all (by
      have hRs : Rr = some ws := by rw [← hR, List.drop_eq_nil_of_le (by omega), refL]
      rw [RRes, if_neg hnb, hRr, hRs]; exact ⟨sv, rfl, hw, by omega⟩)
  obtain ⟨x, hx⟩ : ∃ x, l[i]? = some x := ⟨l[i], by simp [hil]⟩
  have hxb := UInt8.toNat_lt x
  have hdx := drop_cons hx
  rw [hdx, refL] at hR
  by_cases x35 : x.toNat = 35
  case pos =>
    rw [if_pos x35] at hR
    refine G.region [.loc, .loc, .loc, .loc, .loc, .loc, .loc, .loc, .loc, .loc] (.take 0 (.take 1 (.take 2 (.take 3 (.take 4 (.take 5 (.take 6 (.take 7 (.take 8 (.take 9 .done)))))))))) rfl ?_
    refine GP.take rfl rfl (Does.move rfl ?_)
    refine GP.take rfl rfl (Does.move rfl ?_)
    refine GP.take rfl rfl (Does.lenS rfl Tryd.underlying9 ?_)
    refine GP.take rfl rfl (Does.lss rfl rfl (show decide ((i : Int) < (l.length : Int)) = true from decide_eq_true (by omega)) ?_)
    refine GP.take rfl rfl (Does.move rfl ?_)
    refine GP.takeG rfl rfl rfl rfl (Does.move rfl ?_)
    refine GP.takeG rfl rfl rfl rfl (Does.move rfl ?_)
    refine GP.takeG rfl rfl rfl rfl (Does.indexS i (b := x) rfl rfl Tryd.underlying9 rfl hx ?_)
    refine GP.takeG rfl rfl rfl rfl (Does.neq rfl rfl (show (!decide ((x.toNat : Int) = 35)) = false by simp <;> omega) ?_)
    refine GP.take rfl rfl (Does.pickT rfl rfl ?_)
    refine GP.keep [(0, _), (4, _), (5, _), (21, _)] (.cons rfl (.cons rfl (.cons rfl (.cons rfl .nil)))) ?_
    repeat refine G.seq ?_
    refine G.condF rfl ?_
    refine G.exit rfl ?_
    repeat refine G.seq ?_
    refine G.region [.loc, .loc, .loc] (.take 0 (.take 1 (.take 2 .done))) rfl ?_
    refine GP.take rfl rfl (Does.move rfl ?_)
    refine GP.take rfl rfl (Does.assign rfl ?_)
    refine GP.take rfl rfl (Does.assign rfl ?_)
    refine GP.keep [(2, _), (3, _)] (.cons rfl (.cons rfl .nil)) ?_
    exact fin_ret (fn := Tryd.f6) (R := []) Tryd.func6 (res2 rfl rfl rfl) .all (by
      have hRs : Rr = some ws := by exact hR.symm
      rw [RRes, if_neg hnb, hRr, hRs]; exact ⟨sv, rfl, hw, by omega⟩)
  rw [if_neg x35] at hR
  refine G.region [.loc, .loc, .loc, .loc, .loc, .loc, .loc, .loc, .loc, .loc] (.take 0 (.take 1 (.take 2 (.take 3 (.take 4 (.take 5 (.take 6 (.take 7 (.take 8 (.take 9 .done)))))))))) rfl ?_
  refine GP.take rfl rfl (Does.move rfl ?_)
  refine GP.take rfl rfl (Does.move rfl ?_)
  refine GP.take rfl rfl (Does.lenS rfl Tryd.underlying9 ?_)
  refine GP.take rfl rfl (Does.lss rfl rfl (show decide ((i : Int) < (l.length : Int)) = true from decide_eq_true (by omega)) ?_)
  refine GP.take rfl rfl (Does.move rfl ?_)
  refine GP.takeG rfl rfl rfl rfl (Does.move rfl ?_)
  refine GP.takeG rfl rfl rfl rfl (Does.move rfl ?_)
  refine GP.takeG rfl rfl rfl rfl (Does.indexS i (b := x) rfl rfl Tryd.underlying9 rfl hx ?_)
  refine GP.takeG rfl rfl rfl rfl (Does.neq rfl rfl (show (!decide ((x.toNat : Int) = 35)) = true by simp <;> omega) ?_)
  refine GP.take rfl rfl (Does.pickT rfl rfl ?_)
  refine GP.keep [(0, _), (4, _), (5, _), (21, _)] (.cons rfl (.cons rfl (.cons rfl (.cons rfl .nil)))) ?_
  repeat refine G.seq ?_
  refine G.condT rfl ?_
  refine G.skip ?_
  repeat refine G.seq ?_
  refine G.block ?_
  repeat refine G.seq ?_
  refine G.region [.loc, .loc, .loc, .gen] (.take 0 (.take 1 (.take 2 (.take 3 .done)))) rfl ?_
  refine GP.take rfl rfl (Does.move rfl ?_)
  refine GP.take rfl rfl (Does.move rfl ?_)
  refine GP.take rfl rfl (Does.indexS i (b := x) rfl rfl Tryd.underlying9 rfl hx ?_)
  refine GP.take rfl rfl (Does.callN (.cons rfl .nil) cb12 (blankB_ct x.toNat) (fun _ _ => trivial) ?_)
  rintro _ _ ⟨rfl, rfl⟩
  simp only [List.append_nil]
  refine GP.keep [(0, _), (4, _), (5, _), (25, _)] (.cons rfl (.cons rfl (.cons rfl (.cons rfl .nil)))) ?_
  repeat refine G.seq ?_
  cases hbl : blankF x.toNat with
  | true =>
    rw [hbl, if_pos rfl] at hR
    refine G.condT rfl ?_
    repeat refine G.seq ?_
    refine G.region [.loc, .loc, .loc] (.take 0 (.take 1 (.take 2 .done))) rfl ?_
    refine GP.take rfl rfl (Does.move rfl ?_)
    refine GP.take rfl rfl (Does.add rfl rfl (r := ((i + 1 : Nat) : Int)) (wrc_i64 (by omega) (by omega) (by omega)) ?_)
    refine GP.take rfl rfl (Does.assign rfl ?_)
    refine GP.keep [(0, _), (4, _), (5, _)] (.cons rfl (.cons rfl (.cons rfl .nil))) ?_
    refine G.exit rfl ?_
    exact IH (i + 1, ws, sv, C4, f') ⟨by simp only; omega, hw, by simp only; omega, hR, by simp only; omega⟩ (by simp only; omega)
  | false =>
    rw [hbl, if_neg (fun h => Bool.noConfusion h)] at hR
    refine G.condF rfl ?_
    refine G.skip ?_
    repeat refine G.seq ?_
    refine G.region [.loc, .loc, .loc, .loc] (.take 0 (.take 1 (.take 2 (.take 3 .done)))) rfl ?_
    refine GP.take rfl rfl (Does.move rfl ?_)
    refine GP.take rfl rfl (Does.move rfl ?_)
    refine GP.take rfl rfl (Does.indexS i (b := x) rfl rfl Tryd.underlying9 rfl hx ?_)
    refine GP.take rfl rfl (Does.eql rfl rfl (show decide ((x.toNat : Int) = 34) = decide (x.toNat = 34) from decide_eq_decide.2 (by omega)) ?_)
    refine GP.keep [(0, _), (4, _), (5, _), (31, _)] (.cons rfl (.cons rfl (.cons rfl (.cons rfl .nil)))) ?_
    repeat refine G.seq ?_
    refine G.cond rfl ?_ ?_
    · intro x34
      rw [if_pos x34] at hR
      repeat refine G.seq ?_
      obtain ⟨qr, hqr⟩ : ∃ qr, quotedL (l.drop i).length (l.drop (i + 1)) [] = qr := ⟨_, rfl⟩
      have hll : (x :: l.drop (i + 1)).length = (l.drop i).length := by rw [hdx]
      rw [hll, hqr] at hR
      have hqc := quoted_ct (l.drop i) (by simp; omega) (by simp; omega)
      unfold QRes at hqc
      rw [List.drop_drop, hqr] at hqc
      cases qr with
      | none =>
          refine G.region [.loc, .loc, .loc, .gen, .loc, .loc, .loc, .loc, .loc] (.take 0 (.take 1 (.take 2 (.take 3 (.take 4 (.take 5 (.take 6 (.take 7 (.take 8 .done))))))))) rfl ?_
          refine GP.take rfl rfl (Does.move rfl ?_)
          refine GP.take rfl rfl (Does.move rfl ?_)
          refine GP.take rfl rfl (Does.sliceSF i rfl rfl Tryd.underlying9 rfl (by omega) ?_)
          refine GP.take rfl rfl (Does.callN (.cons rfl .nil) cb13 hqc (fun _ _ => trivial) ?_)
          rintro _ _ ⟨rfl, rfl⟩
          simp only [List.append_nil]
          refine GP.take rfl rfl (Does.move rfl ?_)
          refine GP.take rfl rfl (Does.extract rfl rfl ?_)
          refine GP.take rfl rfl (Does.extract rfl rfl ?_)
          refine GP.take rfl rfl (Does.assign rfl ?_)
          refine GP.take rfl rfl (Does.assign rfl ?_)
          refine GP.keep [(0, _), (4, _), (5, _), (6, _), (7, _)] (.cons rfl (.cons rfl (.cons rfl (.cons rfl (.cons rfl .nil))))) ?_
          repeat refine G.seq ?_
          refine G.region [.loc, .loc, .loc, .loc] (.take 0 (.take 1 (.take 2 (.take 3 .done)))) rfl ?_
          refine GP.take rfl rfl (Does.move rfl ?_)
          refine GP.take rfl rfl (Does.move rfl ?_)
          refine GP.take rfl rfl (Does.add rfl rfl (r := (i : Int)) (wrc_i64 (by omega) (by omega) (by omega)) ?_)
          refine GP.take rfl rfl (Does.assign rfl ?_)
          refine GP.keep [(0, _), (4, _), (5, _), (6, _), (7, _)] (.cons rfl (.cons rfl (.cons rfl (.cons rfl (.cons rfl .nil))))) ?_
          repeat refine G.seq ?_
          refine G.region [.loc, .loc, .loc, .loc, .loc, .loc, .loc, .loc, .loc, .loc, .loc, .gen, .loc, .loc, .loc, .loc, .loc, .loc, .loc, .loc, .loc] (.take 0 (.take 1 (.take 2 (.take 3 (.take 4 (.take 5 (.take 6 (.take 7 (.take 8 (.take 9 (.take 10 (.take 11 (.take 12 (.take 13 (.take 14 (.take 15 (.take 16 (.take 17 (.take 18 (.take 19 (.take 20 .done))))))))))))))))))))) rfl ?_
          refine GP.take rfl rfl (Does.move rfl ?_)
          refine GP.take rfl rfl (Does.eql rfl rfl (decide_eq_true rfl) ?_)
          refine GP.take rfl rfl (Does.move rfl ?_)
          refine GP.pass rfl rfl rfl rfl rfl ?_
          refine GP.pass rfl rfl rfl rfl rfl ?_
          refine GP.pass rfl rfl rfl rfl rfl ?_
          refine GP.pass rfl rfl rfl rfl rfl ?_
          refine GP.pass rfl rfl rfl rfl rfl ?_
          refine GP.pass rfl rfl rfl rfl rfl ?_
          refine GP.pass rfl rfl rfl rfl rfl ?_
          refine GP.pass rfl rfl rfl rfl rfl ?_
          refine GP.pass rfl rfl rfl rfl rfl ?_
          refine GP.pass rfl rfl rfl rfl rfl ?_
          refine GP.pass rfl rfl rfl rfl rfl ?_
          refine GP.pass rfl rfl rfl rfl rfl ?_
          refine GP.pass rfl rfl rfl rfl rfl ?_
          refine GP.pass rfl rfl rfl rfl rfl ?_
          refine GP.pass rfl rfl rfl rfl rfl ?_
          refine GP.pass rfl rfl rfl rfl rfl ?_
          refine GP.pass rfl rfl rfl rfl rfl ?_
          refine GP.take rfl rfl (Does.pickT rfl rfl ?_)
          refine GP.keep [(0, _), (4, _), (5, _), (62, _)] (.cons rfl (.cons rfl (.cons rfl (.cons rfl .nil)))) ?_
          repeat refine G.seq ?_
          refine G.condT rfl ?_
          repeat refine G.seq ?_
          refine G.region [.loc, .loc] (.take 0 (.take 1 .done)) rfl ?_
          refine GP.take rfl rfl (Does.assign rfl ?_)
          refine GP.take rfl rfl (Does.assign rfl ?_)
          refine GP.keep [(2, _), (3, _)] (.cons rfl (.cons rfl .nil)) ?_
          exact fin_ret (fn := Tryd.f6) Tryd.func6 (res2 rfl rfl rfl) .nil (by
            have hRn : Rr = none := by rw [← hR]
            rw [RRes, if_neg hnb, hRr, hRn]; exact ⟨rfl, rfl⟩)
      | some qq =>
          obtain ⟨w, rest⟩ := qq
          simp only at hR
          refine G.region [.loc, .loc, .loc, .gen, .loc, .loc, .loc, .loc, .loc] (.take 0 (.take 1 (.take 2 (.take 3 (.take 4 (.take 5 (.take 6 (.take 7 (.take 8 .done))))))))) rfl ?_
          refine GP.take rfl rfl (Does.move rfl ?_)
          refine GP.take rfl rfl (Does.move rfl ?_)
          refine GP.take rfl rfl (Does.sliceSF i rfl rfl Tryd.underlying9 rfl (by omega) ?_)
          refine GP.take rfl rfl (Does.callN (.cons rfl .nil) cb13 hqc (fun _ _ => trivial) ?_)
          rintro _ _ ⟨⟨rfl, q1, q2, q3⟩, rfl⟩
          simp only [List.append_nil]
          refine GP.take rfl rfl (Does.move rfl ?_)
          refine GP.take rfl rfl (Does.extract rfl rfl ?_)
          refine GP.take rfl rfl (Does.extract rfl rfl ?_)
          refine GP.take rfl rfl (Does.assign rfl ?_)
          refine GP.take rfl rfl (Does.assign rfl ?_)
          refine GP.keep [(0, _), (4, _), (5, _), (6, _), (7, _)] (.cons rfl (.cons rfl (.cons rfl (.cons rfl (.cons rfl .nil))))) ?_
          repeat refine G.seq ?_
          rw [List.length_drop] at q1 q3
          rw [List.drop_drop, List.length_drop] at q2
          obtain ⟨n, hn⟩ : ∃ n, l.length - i - rest.length = n := ⟨_, rfl⟩
          rw [hn] at q2
          rw [List.length_drop, hn]
          refine G.region [.loc, .loc, .loc, .loc] (.take 0 (.take 1 (.take 2 (.take 3 .done)))) rfl ?_
          refine GP.take rfl rfl (Does.move rfl ?_)
          refine GP.take rfl rfl (Does.move rfl ?_)
          refine GP.take rfl rfl (Does.add rfl rfl (r := ((i + n : Nat) : Int)) (wrc_i64 (by omega) (by omega) (by omega)) ?_)
          refine GP.take rfl rfl (Does.assign rfl ?_)
          refine GP.keep [(0, _), (4, _), (5, _), (6, _), (7, _)] (.cons rfl (.cons rfl (.cons rfl (.cons rfl (.cons rfl .nil))))) ?_
          repeat refine G.seq ?_
          refine G.join (S := Unit) (fun _ => [(0, str l), (4, sv), (5, .int .i64 ((i + n : Nat) : Int)), (6, str w), (62, .bool (!afterB rest))]) (fun _ => C4) (fun _ => True) ?_ fun key => ?_
          case refine_2 =>
            by_cases hj : i + n < l.length
            case neg =>
              have ha : afterB rest = true := by rw [q2, List.drop_eq_nil_of_le (by omega)]; rfl
              rw [ha] at key
              refine G.region [.loc, .loc, .loc, .loc, .loc, .loc, .loc, .loc, .loc, .loc, .loc, .gen, .loc, .loc, .loc, .loc, .loc, .loc, .loc, .loc, .loc] (.take 0 (.take 1 (.take 2 (.take 3 (.take 4 (.take 5 (.take 6 (.take 7 (.take 8 (.take 9 (.take 10 (.take 11 (.take 12 (.take 13 (.take 14 (.take 15 (.take 16 (.take 17 (.take 18 (.take 19 (.take 20 .done))))))))))))))))))))) rfl ?_
              refine GP.take rfl rfl (Does.move rfl ?_)
              refine GP.take rfl rfl (Does.eql rfl rfl (show decide ((n : Int) = 0) = false from decide_eq_false (by omega)) ?_)
              refine GP.take rfl rfl (Does.move rfl ?_)
              refine GP.takeG rfl rfl rfl rfl (Does.move rfl ?_)
              refine GP.takeG rfl rfl rfl rfl (Does.move rfl ?_)
              refine GP.takeG rfl rfl rfl rfl (Does.lenS rfl Tryd.underlying9 ?_)
              refine GP.takeG rfl rfl rfl rfl (Does.lss rfl rfl (show decide (((i + n : Nat) : Int) < (l.length : Int)) = false from decide_eq_false (by omega)) ?_)
              refine GP.takeG rfl rfl rfl rfl (Does.move rfl ?_)
              refine GP.pass rfl rfl rfl rfl rfl ?_
              refine GP.pass rfl rfl rfl rfl rfl ?_
              refine GP.pass rfl rfl rfl rfl rfl ?_
              refine GP.pass rfl rfl rfl rfl rfl ?_
              refine GP.pass rfl rfl rfl rfl rfl ?_
              refine GP.takeG rfl rfl rfl rfl (Does.pickF rfl rfl ?_)
              refine GP.takeG rfl rfl rfl rfl (Does.move rfl ?_)
              refine GP.pass rfl rfl rfl rfl rfl ?_
              refine GP.pass rfl rfl rfl rfl rfl ?_
              refine GP.pass rfl rfl rfl rfl rfl ?_
              refine GP.pass rfl rfl rfl rfl rfl ?_
              refine GP.takeG rfl rfl rfl rfl (Does.pickF rfl rfl ?_)
              refine GP.take rfl rfl (Does.pickF rfl rfl ?_)
              refine GP.keep [(0, _), (4, _), (5, _), (6, _), (62, _)] (.cons rfl (.cons rfl (.cons rfl (.cons rfl (.cons rfl .nil))))) ?_
              exact key () trivial
            obtain ⟨y, hy⟩ : ∃ y, l[i + n]? = some y := ⟨l[i + n], by simp [hj]⟩
            have hyb := UInt8.toNat_lt y
            have hrc : rest = y :: l.drop (i + n + 1) := by rw [q2]; exact drop_cons hy
            have ha : afterB rest = (blankF y.toNat || decide (y.toNat = 35)) := by rw [hrc]; rfl
            rw [ha] at key
            cases hyl : blankF y.toNat with
            | true =>
              rw [hyl] at key
              refine G.region [.loc, .loc, .loc, .loc, .loc, .loc, .loc, .loc, .loc, .loc, .loc, .gen, .loc, .loc, .loc, .loc, .loc, .loc, .loc, .loc, .loc] (.take 0 (.take 1 (.take 2 (.take 3 (.take 4 (.take 5 (.take 6 (.take 7 (.take 8 (.take 9 (.take 10 (.take 11 (.take 12 (.take 13 (.take 14 (.take 15 (.take 16 (.take 17 (.take 18 (.take 19 (.take 20 .done))))))))))))))))))))) rfl ?_
              refine GP.take rfl rfl (Does.move rfl ?_)
              refine GP.take rfl rfl (Does.eql rfl rfl (show decide ((n : Int) = 0) = false from decide_eq_false (by omega)) ?_)
              refine GP.take rfl rfl (Does.move rfl ?_)
              refine GP.takeG rfl rfl rfl rfl (Does.move rfl ?_)
              refine GP.takeG rfl rfl rfl rfl (Does.move rfl ?_)
              refine GP.takeG rfl rfl rfl rfl (Does.lenS rfl Tryd.underlying9 ?_)
              refine GP.takeG rfl rfl rfl rfl (Does.lss rfl rfl (show decide (((i + n : Nat) : Int) < (l.length : Int)) = true from decide_eq_true (by omega)) ?_)
              refine GP.takeG rfl rfl rfl rfl (Does.move rfl ?_)
              refine GP.takeG rfl rfl rfl rfl (Does.move rfl ?_)
              refine GP.takeG rfl rfl rfl rfl (Does.move rfl ?_)
              refine GP.takeG rfl rfl rfl rfl (Does.indexS (i + n) (b := y) rfl rfl Tryd.underlying9 rfl hy ?_)
              refine GP.takeG rfl rfl rfl rfl (Does.callN (.cons rfl .nil) cb12 (blankB_ct y.toNat) (fun _ _ => trivial) ?_)
              rintro _ _ ⟨rfl, rfl⟩
              rw [hyl]
              simp only [List.append_nil]
              refine GP.takeG rfl rfl rfl rfl (Does.not rfl rfl ?_)
              refine GP.takeG rfl rfl rfl rfl (Does.pickT rfl rfl ?_)
              refine GP.takeG rfl rfl rfl rfl (Does.move rfl ?_)
              refine GP.pass rfl rfl rfl rfl rfl ?_
              refine GP.pass rfl rfl rfl rfl rfl ?_
              refine GP.pass rfl rfl rfl rfl rfl ?_
              refine GP.pass rfl rfl rfl rfl rfl ?_
              refine GP.takeG rfl rfl rfl rfl (Does.pickF rfl rfl ?_)
              refine GP.take rfl rfl (Does.pickF rfl rfl ?_)
              refine GP.keep [(0, _), (4, _), (5, _), (6, _), (62, _)] (.cons rfl (.cons rfl (.cons rfl (.cons rfl (.cons rfl .nil))))) ?_
              exact key () trivial
            | false =>
              rw [hyl] at key
              refine G.region [.loc, .loc, .loc, .loc, .loc, .loc, .loc, .loc, .loc, .loc, .loc, .gen, .loc, .loc, .loc, .loc, .loc, .loc, .loc, .loc, .loc] (.take 0 (.take 1 (.take 2 (.take 3 (.take 4 (.take 5 (.take 6 (.take 7 (.take 8 (.take 9 (.take 10 (.take 11 (.take 12 (.take 13 (.take 14 (.take 15 (.take 16 (.take 17 (.take 18 (.take 19 (.take 20 .done))))))))))))))))))))) rfl ?_
              refine GP.take rfl rfl (Does.move rfl ?_)
              refine GP.take rfl rfl (Does.eql rfl rfl (show decide ((n : Int) = 0) = false from decide_eq_false (by omega)) ?_)
              refine GP.take rfl rfl (Does.move rfl ?_)
              refine GP.takeG rfl rfl rfl rfl (Does.move rfl ?_)
              refine GP.takeG rfl rfl rfl rfl (Does.move rfl ?_)
              refine GP.takeG rfl rfl rfl rfl (Does.lenS rfl Tryd.underlying9 ?_)
              refine GP.takeG rfl rfl rfl rfl (Does.lss rfl rfl (show decide (((i + n : Nat) : Int) < (l.length : Int)) = true from decide_eq_true (by omega)) ?_)
              refine GP.takeG rfl rfl rfl rfl (Does.move rfl ?_)
              refine GP.takeG rfl rfl rfl rfl (Does.move rfl ?_)
              refine GP.takeG rfl rfl rfl rfl (Does.move rfl ?_)
              refine GP.takeG rfl rfl rfl rfl (Does.indexS (i + n) (b := y) rfl rfl Tryd.underlying9 rfl hy ?_)
              refine GP.takeG rfl rfl rfl rfl (Does.callN (.cons rfl .nil) cb12 (blankB_ct y.toNat) (fun _ _ => trivial) ?_)
              rintro _ _ ⟨rfl, rfl⟩
              rw [hyl]
              simp only [List.append_nil]
              refine GP.takeG rfl rfl rfl rfl (Does.not rfl rfl ?_)
              refine GP.takeG rfl rfl rfl rfl (Does.pickT rfl rfl ?_)
              refine GP.takeG rfl rfl rfl rfl (Does.move rfl ?_)
              refine GP.takeG rfl rfl rfl rfl (Does.move rfl ?_)
              refine GP.takeG rfl rfl rfl rfl (Does.move rfl ?_)
              refine GP.takeG rfl rfl rfl rfl (Does.indexS (i + n) (b := y) rfl rfl Tryd.underlying9 rfl hy ?_)
              refine GP.takeG rfl rfl rfl rfl (Does.neq rfl rfl (show (!decide ((y.toNat : Int) = 35)) = (!(false || decide (y.toNat = 35))) by rw [Bool.false_or]; congr 1; exact decide_eq_decide.2 (by omega)) ?_)
              refine GP.takeG rfl rfl rfl rfl (Does.pickT rfl rfl ?_)
              refine GP.take rfl rfl (Does.pickF rfl rfl ?_)
              refine GP.keep [(0, _), (4, _), (5, _), (6, _), (62, _)] (.cons rfl (.cons rfl (.cons rfl (.cons rfl (.cons rfl .nil))))) ?_
              exact key () trivial
          rintro - -
          cases haf : afterB rest with
          | false =>
            rw [haf, if_neg (fun h => Bool.noConfusion h)] at hR
            refine G.condT rfl ?_
            repeat refine G.seq ?_
            refine G.region [.loc, .loc] (.take 0 (.take 1 .done)) rfl ?_
            refine GP.take rfl rfl (Does.assign rfl ?_)
            refine GP.take rfl rfl (Does.assign rfl ?_)
            refine GP.keep [(2, _), (3, _)] (.cons rfl (.cons rfl .nil)) ?_
            exact fin_ret (fn := Tryd.f6) Tryd.func6 (res2 rfl rfl rfl) .nil (by
              have hRn : Rr = none := by rw [← hR]
              rw [RRes, if_neg hnb, hRr, hRn]; exact ⟨rfl, rfl⟩)
          | true =>
            rw [haf, if_pos rfl] at hR
            refine G.condF rfl ?_
            refine G.skip ?_
            repeat refine G.seq ?_
            refine G.region [.loc, .loc, .alloc, .gen, .loc] (.take 0 (.take 1 (.take 2 (.take 3 (.take 4 .done))))) rfl ?_
            refine GP.take rfl rfl (Does.move rfl ?_)
            refine GP.take rfl rfl (Does.move rfl ?_)
            refine GP.take rfl rfl (Does.buildSlice (r := [str w]) (.cons rfl .nil) sl22 zl9 (by decide) rfl fun b65 N65 h65 n65 => ?_)
            refine GP.take rfl rfl (Does.appendR (row := str) (l := ws) (xs := [w]) (mc := 1) [(b65, cel 9 [str w])] C4 [] rfl rfl si22 zl9 (by simp) hw (fun _ => ⟨b65, 0, rfl, RowIn.own (vs := [str w]) (.head _) rfl⟩) (fun _ => rfl) (by decide) (by simp only [List.length_cons, List.length_nil]; omega) ?_)
            intro sn Cn gn
            refine GP.take rfl rfl (Does.assign rfl ?_)
            refine GP.keep [(0, _), (4, _), (5, _)] (.cons rfl (.cons rfl (.cons rfl .nil))) ?_
            refine G.exit rfl ?_
            refine G.dropP [(b65, cel 9 [str w])] (A := Cn) (by classical exact List.perm_iff_count.2 fun q => by simp only [List.append_eq, List.nil_append, List.append_nil, List.cons_append, List.count_append, List.count_cons, List.count_nil] <;> omega) ?_
            exact IH (i + n, ws ++ [w], sn, Cn, f') ⟨by simp only; omega, gn, by simp only; omega, by simp only; rw [← q2]; exact hR, by simp only [List.length_append, List.length_cons, List.length_nil]; omega⟩ (by simp only; omega)
    intro x34
    rw [if_neg x34] at hR
    refine G.skip ?_
    repeat refine G.seq ?_
    refine G.region [.loc, .loc] (.take 0 (.take 1 .done)) rfl ?_
    refine GP.take rfl rfl (Does.move rfl ?_)
    refine GP.take rfl rfl (Does.assign rfl ?_)
    refine GP.keep [(0, _), (4, _), (5, _), (8, _)] (.cons rfl (.cons rfl (.cons rfl (.cons rfl .nil)))) ?_
    have hpx : plainB x = true := by rw [plainB, hbl, decide_eq_true x34]; rfl
    repeat refine G.seq ?_
    refine G.block ?_
    refine G.loop (S := Nat) (fun j => [(0, str l), (4, sv), (5, .int .i64 (j : Int)), (8, .int .i64 (i : Int))]) (fun _ => C4)
      (fun j => i ≤ j ∧ j ≤ l.length ∧ ∀ k y, i ≤ k → k < j → l[k]? = some y → plainB y = true) (fun j => l.length + 1 - j) i ⟨Nat.le_refl _, hi, fun k y h1 h2 => absurd h2 (by omega)⟩ (.cons rfl (.cons rfl (.cons rfl (.cons rfl .nil)))) .all ?_
    rintro j ⟨hij, hjl, hpl⟩ IH2
    repeat refine G.seq ?_
    refine G.join (S := Unit) (fun _ => [(0, str l), (4, sv), (5, .int .i64 (j : Int)), (8, .int .i64 (i : Int)), (84, .bool (match l[j]? with | none => false | some y => plainB y))]) (fun _ => C4) (fun _ => True) ?_ fun key => ?_
    case refine_2 =>
      by_cases hj : j < l.length
      case neg =>
        rw [List.getElem?_eq_none (by omega)] at key
        simp only at key
        refine G.region [.loc, .loc, .loc, .loc, .loc, .loc, .loc, .loc, .gen, .loc, .loc, .loc, .loc, .loc, .loc, .loc, .loc] (.take 0 (.take 1 (.take 2 (.take 3 (.take 4 (.take 5 (.take 6 (.take 7 (.take 8 (.take 9 (.take 10 (.take 11 (.take 12 (.take 13 (.take 14 (.take 15 (.take 16 .done))))))))))))))))) rfl ?_
        refine GP.take rfl rfl (Does.move rfl ?_)
        refine GP.take rfl rfl (Does.move rfl ?_)
        refine GP.take rfl rfl (Does.lenS rfl Tryd.underlying9 ?_)
        refine GP.take rfl rfl (Does.lss rfl rfl (show decide ((j : Int) < (l.length : Int)) = false from decide_eq_false (by omega)) ?_)
        refine GP.take rfl rfl (Does.move rfl ?_)
        refine GP.pass rfl rfl rfl rfl rfl ?_
        refine GP.pass rfl rfl rfl rfl rfl ?_
        refine GP.pass rfl rfl rfl rfl rfl ?_
        refine GP.pass rfl rfl rfl rfl rfl ?_
        refine GP.pass rfl rfl rfl rfl rfl ?_
        refine GP.take rfl rfl (Does.pickF rfl rfl ?_)
        refine GP.take rfl rfl (Does.move rfl ?_)
        refine GP.pass rfl rfl rfl rfl rfl ?_
        refine GP.pass rfl rfl rfl rfl rfl ?_
        refine GP.pass rfl rfl rfl rfl rfl ?_
        refine GP.pass rfl rfl rfl rfl rfl ?_
        refine GP.take rfl rfl (Does.pickF rfl rfl ?_)
        refine GP.keep [(0, _), (4, _), (5, _), (8, _), (84, _)] (.cons rfl (.cons rfl (.cons rfl (.cons rfl (.cons rfl .nil))))) ?_
        exact key () trivial
      obtain ⟨y, hy⟩ : ∃ y, l[j]? = some y := ⟨l[j], by simp [hj]⟩
      have hyb := UInt8.toNat_lt y
      rw [hy] at key
      simp only [plainB] at key
      cases hyl : blankF y.toNat with
      | true =>
        rw [hyl] at key
        refine G.region [.loc, .loc, .loc, .loc, .loc, .loc, .loc, .loc, .gen, .loc, .loc, .loc, .loc, .loc, .loc, .loc, .loc] (.take 0 (.take 1 (.take 2 (.take 3 (.take 4 (.take 5 (.take 6 (.take 7 (.take 8 (.take 9 (.take 10 (.take 11 (.take 12 (.take 13 (.take 14 (.take 15 (.take 16 .done))))))))))))))))) rfl ?_
        refine GP.take rfl rfl (Does.move rfl ?_)
        refine GP.take rfl rfl (Does.move rfl ?_)
        refine GP.take rfl rfl (Does.lenS rfl Tryd.underlying9 ?_)
        refine GP.take rfl rfl (Does.lss rfl rfl (show decide ((j : Int) < (l.length : Int)) = true from decide_eq_true (by omega)) ?_)
        refine GP.take rfl rfl (Does.move rfl ?_)
        refine GP.takeG rfl rfl rfl rfl (Does.move rfl ?_)
        refine GP.takeG rfl rfl rfl rfl (Does.move rfl ?_)
        refine GP.takeG rfl rfl rfl rfl (Does.indexS j (b := y) rfl rfl Tryd.underlying9 rfl hy ?_)
        refine GP.takeG rfl rfl rfl rfl (Does.callN (.cons rfl .nil) cb12 (blankB_ct y.toNat) (fun _ _ => trivial) ?_)
        rintro _ _ ⟨rfl, rfl⟩
        rw [hyl]
        simp only [List.append_nil]
        refine GP.takeG rfl rfl rfl rfl (Does.not rfl rfl ?_)
        refine GP.take rfl rfl (Does.pickT rfl rfl ?_)
        refine GP.take rfl rfl (Does.move rfl ?_)
        refine GP.pass rfl rfl rfl rfl rfl ?_
        refine GP.pass rfl rfl rfl rfl rfl ?_
        refine GP.pass rfl rfl rfl rfl rfl ?_
        refine GP.pass rfl rfl rfl rfl rfl ?_
        refine GP.take rfl rfl (Does.pickF rfl rfl ?_)
        refine GP.keep [(0, _), (4, _), (5, _), (8, _), (84, _)] (.cons rfl (.cons rfl (.cons rfl (.cons rfl (.cons rfl .nil))))) ?_
        exact key () trivial
      | false =>
        rw [hyl] at key
        refine G.region [.loc, .loc, .loc, .loc, .loc, .loc, .loc, .loc, .gen, .loc, .loc, .loc, .loc, .loc, .loc, .loc, .loc] (.take 0 (.take 1 (.take 2 (.take 3 (.take 4 (.take 5 (.take 6 (.take 7 (.take 8 (.take 9 (.take 10 (.take 11 (.take 12 (.take 13 (.take 14 (.take 15 (.take 16 .done))))))))))))))))) rfl ?_
        refine GP.take rfl rfl (Does.move rfl ?_)
        refine GP.take rfl rfl (Does.move rfl ?_)
        refine GP.take rfl rfl (Does.lenS rfl Tryd.underlying9 ?_)
        refine GP.take rfl rfl (Does.lss rfl rfl (show decide ((j : Int) < (l.length : Int)) = true from decide_eq_true (by omega)) ?_)
        refine GP.take rfl rfl (Does.move rfl ?_)
        refine GP.takeG rfl rfl rfl rfl (Does.move rfl ?_)
        refine GP.takeG rfl rfl rfl rfl (Does.move rfl ?_)
        refine GP.takeG rfl rfl rfl rfl (Does.indexS j (b := y) rfl rfl Tryd.underlying9 rfl hy ?_)
        refine GP.takeG rfl rfl rfl rfl (Does.callN (.cons rfl .nil) cb12 (blankB_ct y.toNat) (fun _ _ => trivial) ?_)
        rintro _ _ ⟨rfl, rfl⟩
        rw [hyl]
        simp only [List.append_nil]
        refine GP.takeG rfl rfl rfl rfl (Does.not rfl rfl ?_)
        refine GP.take rfl rfl (Does.pickT rfl rfl ?_)
        refine GP.take rfl rfl (Does.move rfl ?_)
        refine GP.takeG rfl rfl rfl rfl (Does.move rfl ?_)
        refine GP.takeG rfl rfl rfl rfl (Does.move rfl ?_)
        refine GP.takeG rfl rfl rfl rfl (Does.indexS j (b := y) rfl rfl Tryd.underlying9 rfl hy ?_)
        refine GP.takeG rfl rfl rfl rfl (Does.neq rfl rfl (show (!decide ((y.toNat : Int) = 34)) = (!false && decide (y.toNat ≠ 34)) by simp <;> omega) ?_)
        refine GP.take rfl rfl (Does.pickT rfl rfl ?_)
        refine GP.keep [(0, _), (4, _), (5, _), (8, _), (84, _)] (.cons rfl (.cons rfl (.cons rfl (.cons rfl (.cons rfl .nil))))) ?_
        exact key () trivial
    rintro - -
    cases hpj : (match l[j]? with | none => false | some y => plainB y) with
    | true =>
      have hj : j < l.length := by
        rcases Nat.lt_or_ge j l.length with h | h
        · exact h
        · rw [List.getElem?_eq_none h] at hpj; cases hpj
      refine G.condT rfl ?_
      refine G.skip ?_
      repeat refine G.seq ?_
      refine G.block ?_
      repeat refine G.seq ?_
      refine G.region [.loc, .loc, .loc] (.take 0 (.take 1 (.take 2 .done))) rfl ?_
      refine GP.take rfl rfl (Does.move rfl ?_)
      refine GP.take rfl rfl (Does.add rfl rfl (r := ((j + 1 : Nat) : Int)) (wrc_i64 (by omega) (by omega) (by omega)) ?_)
      refine GP.take rfl rfl (Does.assign rfl ?_)
      refine GP.keep [(0, _), (4, _), (5, _), (8, _)] (.cons rfl (.cons rfl (.cons rfl (.cons rfl .nil)))) ?_
      refine G.inBlock ?_
      exact IH2 (j + 1) ⟨by omega, by omega, fun k y h1 h2 hk => by
        rcases (by omega : k < j ∨ k = j) with h | rfl
        · exact hpl k y h1 h hk
        · rw [hk] at hpj; exact hpj⟩ (by omega)
    | false =>
      refine G.condF rfl ?_
      refine G.exit rfl ?_
      repeat refine G.seq ?_
      clear IH2
      obtain ⟨t1, t2⟩ := while_drop l i j hij hjl hpl (fun y hy => by rw [hy] at hpj; exact hpj)
      have hij2 : i < j := by
        rcases Nat.lt_or_ge i j with h | h
        · exact h
        · obtain rfl : i = j := by omega
          rw [hx] at hpj
          simp only at hpj
          rw [hpx] at hpj; cases hpj
      rw [hdx] at t1 t2
      rw [t1, t2] at hR
      refine G.join (S := Unit) (fun _ => [(0, str l), (4, sv), (5, .int .i64 (j : Int)), (8, .int .i64 (i : Int)), (96, .bool (headIs34 (l.drop j)))]) (fun _ => C4) (fun _ => True) ?_ fun key => ?_
      case refine_2 =>
        by_cases hj : j < l.length
        case neg =>
          rw [List.drop_eq_nil_of_le (by omega)] at key
          refine G.region [.loc, .loc, .loc, .loc, .loc, .loc, .loc, .loc, .loc, .loc] (.take 0 (.take 1 (.take 2 (.take 3 (.take 4 (.take 5 (.take 6 (.take 7 (.take 8 (.take 9 .done)))))))))) rfl ?_
          refine GP.take rfl rfl (Does.move rfl ?_)
          refine GP.take rfl rfl (Does.move rfl ?_)
          refine GP.take rfl rfl (Does.lenS rfl Tryd.underlying9 ?_)
          refine GP.take rfl rfl (Does.lss rfl rfl (show decide ((j : Int) < (l.length : Int)) = false from decide_eq_false (by omega)) ?_)
          refine GP.take rfl rfl (Does.move rfl ?_)
          refine GP.pass rfl rfl rfl rfl rfl ?_
          refine GP.pass rfl rfl rfl rfl rfl ?_
          refine GP.pass rfl rfl rfl rfl rfl ?_
          refine GP.pass rfl rfl rfl rfl rfl ?_
          refine GP.take rfl rfl (Does.pickF rfl rfl ?_)
          refine GP.keep [(0, _), (4, _), (5, _), (8, _), (96, _)] (.cons rfl (.cons rfl (.cons rfl (.cons rfl (.cons rfl .nil))))) ?_
          exact key () trivial
        obtain ⟨y, hy⟩ : ∃ y, l[j]? = some y := ⟨l[j], by simp [hj]⟩
        have hyb := UInt8.toNat_lt y
        rw [drop_cons hy] at key
        refine G.region [.loc, .loc, .loc, .loc, .loc, .loc, .loc, .loc, .loc, .loc] (.take 0 (.take 1 (.take 2 (.take 3 (.take 4 (.take 5 (.take 6 (.take 7 (.take 8 (.take 9 .done)))))))))) rfl ?_
        refine GP.take rfl rfl (Does.move rfl ?_)
        refine GP.take rfl rfl (Does.move rfl ?_)
        refine GP.take rfl rfl (Does.lenS rfl Tryd.underlying9 ?_)
        refine GP.take rfl rfl (Does.lss rfl rfl (show decide ((j : Int) < (l.length : Int)) = true from decide_eq_true (by omega)) ?_)
        refine GP.take rfl rfl (Does.move rfl ?_)
        refine GP.takeG rfl rfl rfl rfl (Does.move rfl ?_)
        refine GP.takeG rfl rfl rfl rfl (Does.move rfl ?_)
        refine GP.takeG rfl rfl rfl rfl (Does.indexS j (b := y) rfl rfl Tryd.underlying9 rfl hy ?_)
        refine GP.takeG rfl rfl rfl rfl (Does.eql rfl rfl (show decide ((y.toNat : Int) = 34) = decide (y.toNat = 34) from decide_eq_decide.2 (by omega)) ?_)
        refine GP.take rfl rfl (Does.pickT rfl rfl ?_)
        refine GP.keep [(0, _), (4, _), (5, _), (8, _), (96, _)] (.cons rfl (.cons rfl (.cons rfl (.cons rfl (.cons rfl .nil))))) ?_
        exact key () trivial
      rintro - -
      cases h34 : headIs34 (l.drop j) with
      | true =>
        rw [h34, if_pos rfl] at hR
        refine G.condT rfl ?_
        repeat refine G.seq ?_
        refine G.region [.loc, .loc] (.take 0 (.take 1 .done)) rfl ?_
        refine GP.take rfl rfl (Does.assign rfl ?_)
        refine GP.take rfl rfl (Does.assign rfl ?_)
        refine GP.keep [(2, _), (3, _)] (.cons rfl (.cons rfl .nil)) ?_
        exact fin_ret (fn := Tryd.f6) Tryd.func6 (res2 rfl rfl rfl) .nil (by
          have hRn : Rr = none := by rw [← hR]
          rw [RRes, if_neg hnb, hRr, hRn]; exact ⟨rfl, rfl⟩)
      | false =>
        rw [h34, if_neg (fun h => Bool.noConfusion h)] at hR
        refine G.condF rfl ?_
        refine G.skip ?_
        repeat refine G.seq ?_
        refine G.region [.loc, .loc, .loc, .loc, .loc, .alloc, .gen, .loc] (.take 0 (.take 1 (.take 2 (.take 3 (.take 4 (.take 5 (.take 6 (.take 7 .done)))))))) rfl ?_
        refine GP.take rfl rfl (Does.move rfl ?_)
        refine GP.take rfl rfl (Does.move rfl ?_)
        refine GP.take rfl rfl (Does.move rfl ?_)
        refine GP.take rfl rfl (Does.move rfl ?_)
        refine GP.take rfl rfl (Does.sliceSB i j rfl rfl rfl Tryd.underlying9 rfl rfl hij hjl ?_)
        refine GP.take rfl rfl (Does.buildSlice (r := [str ((l.take j).drop i)]) (.cons rfl .nil) sl22 zl9 (by decide) rfl fun b102 N102 h102 n102 => ?_)
        refine GP.take rfl rfl (Does.appendR (row := str) (l := ws) (xs := [(l.take j).drop i]) (mc := 1) [(b102, cel 9 [str ((l.take j).drop i)])] C4 [] rfl rfl si22 zl9 (by simp) hw (fun _ => ⟨b102, 0, rfl, RowIn.own (vs := [str ((l.take j).drop i)]) (.head _) rfl⟩) (fun _ => rfl) (by decide) (by simp only [List.length_cons, List.length_nil]; omega) ?_)
        intro sn Cn gn
        refine GP.take rfl rfl (Does.assign rfl ?_)
        refine GP.keep [(0, _), (4, _), (5, _)] (.cons rfl (.cons rfl (.cons rfl .nil))) ?_
        refine G.inBlock ?_
        refine G.dropP [(b102, cel 9 [str ((l.take j).drop i)])] (A := Cn) (by classical exact List.perm_iff_count.2 fun q => by simp only [List.append_eq, List.nil_append, List.append_nil, List.cons_append, List.count_append, List.count_cons, List.count_nil] <;> omega) ?_
        exact IH (j, ws ++ [(l.take j).drop i], sn, Cn, f') ⟨hjl, gn, by simp only; omega, hR, by simp only [List.length_append, List.length_cons, List.length_nil]; omega⟩ (by simp only; omega)
theorem same_ct (la lb : List (List UInt8)) (sva svb : Value) (ada adb : Option Addr) (capa capb b1 b2 : Nat) (ea : sva = .slice ada la.length capa) (eb : svb = .slice adb lb.length capb) (ha : la ≠ [] → ada = some ⟨b1, 0, none⟩) (hb : lb ≠ [] → adb = some ⟨b2, 0, none⟩) (hbig : la.length ≤ 1048576) (heq : la = lb) :
    Ct Tryd.prog 7 [sva, svb].toArray (fun w => (∀ i v, (la.flatMap fun x => [str x])[i]? = some v → w.cell? ⟨b1, 0 + i, none⟩ = some v) ∧ (∀ i v, (lb.flatMap fun x => [str x])[i]? = some v → w.cell? ⟨b2, 0 + i, none⟩ = some v)) [] (fun v C' => v = .bool true ∧ C' = []) := by
  subst heq ea eb
  refine ct_of_walk (fn := Tryd.f7) Tryd.func7 rfl rfl fun w0 hpre hst => ?_
  clear hst
  repeat refine G.seq ?_
  refine G.region [.loc] (.take 0 .done) rfl ?_
  refine GP.take rfl rfl (Does.assign rfl ?_)
  refine GP.keep [(0, _), (1, _)] (.cons rfl (.cons rfl .nil)) ?_
  repeat refine G.seq ?_
  refine G.region [.loc, .loc, .loc, .loc, .loc] (.take 0 (.take 1 (.take 2 (.take 3 (.take 4 .done))))) rfl ?_
  refine GP.take rfl rfl (Does.move rfl ?_)
  refine GP.take rfl rfl (Does.len rfl is22 ?_)
  refine GP.take rfl rfl (Does.move rfl ?_)
  refine GP.take rfl rfl (Does.len rfl is22 ?_)
  refine GP.take rfl rfl (Does.neq rfl rfl (show (!decide ((la.length : Int) = (la.length : Int))) = false by simp) ?_)
  refine GP.keep [(0, _), (1, _), (10, _)] (.cons rfl (.cons rfl (.cons rfl .nil))) ?_
  repeat refine G.seq ?_
  refine G.condF rfl ?_
  refine G.skip ?_
  repeat refine G.seq ?_
  refine G.region [.loc, .loc, .loc] (.take 0 (.take 1 (.take 2 .done))) rfl ?_
  refine GP.take rfl rfl (Does.move rfl ?_)
  refine GP.take rfl rfl (Does.len rfl is22 ?_)
  refine GP.take rfl rfl (Does.move rfl ?_)
  refine GP.keep [(0, _), (1, _), (12, _), (13, _)] (.cons rfl (.cons rfl (.cons rfl (.cons rfl .nil)))) ?_
  repeat refine G.seq ?_
  refine G.block ?_
  refine G.loop (S := Nat) (fun i => [(0, .slice ada la.length capa), (1, .slice adb la.length capb), (12, .int .i64 (la.length : Int)), (13, .int .i64 (i : Int))]) (fun _ => []) (fun i => i ≤ la.length) (fun i => la.length - i) 0 (Nat.zero_le _) (.cons rfl (.cons rfl (.cons rfl (.cons rfl .nil)))) .all ?_
  intro i hi IH
  repeat refine G.seq ?_
  refine G.region [.loc] (.take 0 .done) rfl ?_
  refine GP.take rfl rfl (Does.lss rfl rfl rfl ?_)
  refine GP.keep [(0, _), (1, _), (12, _), (13, _), (14, _)] (.cons rfl (.cons rfl (.cons rfl (.cons rfl (.cons rfl .nil))))) ?_
  repeat refine G.seq ?_
  refine G.cond rfl ?_ ?_
  case refine_2 =>
    intro hz
    refine G.exit rfl ?_
    repeat refine G.seq ?_
    refine G.region [.loc] (.take 0 .done) rfl ?_
    refine GP.take rfl rfl (Does.assign rfl ?_)
    refine GP.keep [(4, _)] (.cons rfl .nil) ?_
    exact fin_ret (fn := Tryd.f7) Tryd.func7 (res1 rfl rfl) .nil ⟨rfl, rfl⟩
  intro hz
  have hil : i < la.length := by omega
  have hne : la ≠ [] := by rintro rfl; simp at hil
  obtain rfl := ha hne
  obtain rfl := hb hne
  obtain ⟨x, hx⟩ : ∃ x, la[i]? = some x := ⟨la[i], by simp [hil]⟩
  have hcx : (la.flatMap fun x => [str x])[i * 1]? = some (str x) := by have := row_at str la [] i x hx; simpa using this
  have hc1 := hpre.1 (i * 1) _ hcx
  have hc2 := hpre.2 (i * 1) _ hcx
  refine G.skip ?_
  repeat refine G.seq ?_
  refine G.block ?_
  repeat refine G.seq ?_
  refine G.region [.loc, .loc] (.take 0 (.take 1 .done)) rfl ?_
  refine GP.take rfl rfl (Does.move rfl ?_)
  refine GP.take rfl rfl (Does.assign rfl ?_)
  refine GP.keep [(0, _), (1, _), (5, _), (12, _), (13, _)] (.cons rfl (.cons rfl (.cons rfl (.cons rfl (.cons rfl .nil))))) ?_
  repeat refine G.seq ?_
  refine G.draw [.loc, .loc, .loc, .load, .loc, .loc, .loc, .load, .loc] (.take 0 (.take 1 (.take 2 (.take 4 (.take 5 (.take 6 (.take 3 (.take 7 (.take 8 .done))))))))) (by exact mixed) (by kernel_rfl) ?_
  intro N hN0 hN
  refine GP.take rfl rfl (Does.move rfl ?_)
  refine GP.take rfl rfl (Does.move rfl ?_)
  refine GP.take rfl rfl (Does.indexAddr i rfl rfl sl22 rfl hil ?_)
  refine GP.take rfl rfl (Does.move rfl ?_)
  refine GP.take rfl rfl (Does.move rfl ?_)
  refine GP.take rfl rfl (Does.indexAddr i rfl rfl sl22 rfl hil ?_)
  refine GP.take rfl rfl (Does.load1N rfl ft9 (Nat.lt_of_lt_of_le (cell_lt hc1) hN0) (CellIn.old (by simp) hc1) ?_)
  refine GP.take rfl rfl (Does.load1N rfl ft9 (Nat.lt_of_lt_of_le (cell_lt hc2) hN0) (CellIn.old (by simp) hc2) ?_)
  refine GP.take rfl rfl (Does.neS rfl rfl (show (!decide (x = x)) = false by simp) ?_)
  refine GP.keep [(0, _), (1, _), (12, _), (13, _), (24, _)] (.cons rfl (.cons rfl (.cons rfl (.cons rfl (.cons rfl .nil))))) ?_
  repeat refine G.seq ?_
  refine G.condF rfl ?_
  refine G.skip ?_
  refine G.inBlock ?_
  repeat refine G.seq ?_
  refine G.region [.loc, .loc] (.take 0 (.take 1 .done)) rfl ?_
  refine GP.take rfl rfl (Does.add rfl rfl (r := ((i + 1 : Nat) : Int)) (wrc_i64 (by omega) (by omega) (by omega)) ?_)
  refine GP.take rfl rfl (Does.move rfl ?_)
  refine GP.keep [(0, _), (1, _), (12, _), (13, _)] (.cons rfl (.cons rfl (.cons rfl (.cons rfl .nil)))) ?_
  exact IH (i + 1) (by omega) (by omega)
end Go.Proofs.YtcgenmfnlocbbaaDoor.T
