/- The document's strokes and quoted words, walked. Nothing is claimed of a law here. -/
import Derived.Test.YtcgenmfnlocbbaaDoorB2
namespace Go.Proofs.YtcgenmfnlocbbaaDoor.T
open Go.Lg
theorem cb13 : callable Tryd.prog 13 = true := by kernel_rfl
theorem cb17 : callable Tryd.prog 17 = true := by kernel_rfl
theorem cb6 : callable Tryd.prog 6 = true := by kernel_rfl
theorem cb7 : callable Tryd.prog 7 = true := by kernel_rfl
def strokedF (s : List UInt8) : UInt8 × Nat := match s with
  | [] => (0, 0)
  | x :: _ => if x.toNat = 92 ∨ x.toNat = 34 then (x, 1) else if x.toNat = 110 then (10, 1) else if x.toNat = 116 then (9, 1)
    else if x.toNat = 120 ∧ 3 ≤ s.length ∧ 0 ≤ digF (s.getD 1 0).toNat ∧ 0 ≤ digF (s.getD 2 0).toNat then (byteF (16 * digF (s.getD 1 0).toNat + digF (s.getD 2 0).toNat), 3) else (0, 0)
theorem strokedF_le (s : List UInt8) : (strokedF s).2 ≤ s.length := by
  unfold strokedF
  cases s with
  | nil => simp
  | cons x r => simp only; (repeat' split) <;> simp_all
theorem stroked_ct (s : List UInt8) (hl : s.length ≤ 4611686018427387904) : Ct Tryd.prog 17 [str s].toArray (fun _ => True) [] (fun v C' => v = .tuple #[.int .u8 ((strokedF s).1.toNat : Int), .int .i64 ((strokedF s).2 : Int)] ∧ C' = []) := by
  refine ct_of_walk (fn := Tryd.f17) Tryd.func17 rfl rfl fun w0 hpre hst => ?_
  clear hst
  repeat refine G.seq ?_
  refine G.region [.loc, .loc] (.take 0 (.take 1 .done)) rfl ?_
  refine GP.take rfl rfl (Does.assign rfl ?_)
  refine GP.take rfl rfl (Does.assign rfl ?_)
  refine GP.keep [(0, _)] (.cons rfl .nil) ?_
  repeat refine G.seq ?_
  refine G.region [.loc, .loc, .loc] (.take 0 (.take 1 (.take 2 .done))) rfl ?_
  refine GP.take rfl rfl (Does.move rfl ?_)
  refine GP.take rfl rfl (Does.lenS rfl Tryd.underlying9 ?_)
  refine GP.take rfl rfl (Does.eql rfl rfl (show decide ((s.length : Int) = 0) = decide (s = []) from decide_eq_decide.2 (by rw [← List.length_eq_zero_iff]; omega)) ?_)
  refine GP.keep [(0, _), (6, _)] (.cons rfl (.cons rfl .nil)) ?_
  repeat refine G.seq ?_
  refine G.cond rfl ?_ ?_
  · intro hz
    repeat refine G.seq ?_
    refine G.region [.loc, .loc] (.take 0 (.take 1 .done)) rfl ?_
    refine GP.take rfl rfl (Does.assign rfl ?_)
    refine GP.take rfl rfl (Does.assign rfl ?_)
    refine GP.keep [(2, _), (3, _)] (.cons rfl (.cons rfl .nil)) ?_
    exact fin_ret (fn := Tryd.f17) Tryd.func17 (res2 rfl rfl rfl) .nil ⟨by rw [hz]; rfl, rfl⟩
  intro hz
  refine G.skip ?_
  repeat refine G.seq ?_
  obtain ⟨x, r, rfl⟩ : ∃ x r, s = x :: r := by cases s with | nil => exact absurd rfl hz | cons x r => exact ⟨x, r, rfl⟩
  have hxb := UInt8.toNat_lt x
  refine G.region [.loc, .loc] (.take 0 (.take 1 .done)) rfl ?_
  refine GP.take rfl rfl (Does.move rfl ?_)
  refine GP.take rfl rfl (Does.indexS 0 (b := x) rfl rfl Tryd.underlying9 rfl rfl ?_)
  refine GP.keep [(0, _), (8, _)] (.cons rfl (.cons rfl .nil)) ?_
  repeat refine G.seq ?_
  refine G.block ?_
  repeat refine G.seq ?_
  refine G.region [.loc, .loc] (.take 0 (.take 1 .done)) rfl ?_
  refine GP.take rfl rfl (Does.eql rfl rfl (show decide ((x.toNat : Int) = 92) = decide (x.toNat = 92) from decide_eq_decide.2 (by omega)) ?_)
  refine GP.take rfl rfl (Does.assign rfl ?_)
  refine GP.keep [(0, _), (8, _), (9, _)] (.cons rfl (.cons rfl (.cons rfl .nil))) ?_
  repeat refine G.seq ?_
  refine G.join (S := Unit) (fun _ => [(0, str (x :: r)), (8, .int .u8 (x.toNat : Int)), (9, .bool (decide (x.toNat = 92 ∨ x.toNat = 34)))]) (fun _ => []) (fun _ => True) ?_ fun key => ?_
  case refine_2 =>
    refine G.cond rfl ?_ ?_
    · intro a1
      rw [decide_eq_true (show x.toNat = 92 ∨ x.toNat = 34 from .inl a1)] at key
      rw [decide_eq_true a1]
      refine G.skip ?_
      exact key () trivial
    · intro a1
      repeat refine G.seq ?_
      refine G.region [.loc, .loc] (.take 0 (.take 1 .done)) rfl ?_
      refine GP.take rfl rfl (Does.eql rfl rfl (show decide ((x.toNat : Int) = 34) = decide (x.toNat = 92 ∨ x.toNat = 34) from decide_eq_decide.2 (by omega)) ?_)
      refine GP.take rfl rfl (Does.assign rfl ?_)
      refine GP.keep [(0, _), (8, _), (9, _)] (.cons rfl (.cons rfl (.cons rfl .nil))) ?_
      exact key () trivial
  rintro - -
  repeat refine G.seq ?_
  refine G.cond rfl ?_ ?_
  · intro hp
    repeat refine G.seq ?_
    refine G.region [.loc, .loc, .loc, .loc] (.take 0 (.take 1 (.take 2 (.take 3 .done)))) rfl ?_
    refine GP.take rfl rfl (Does.move rfl ?_)
    refine GP.take rfl rfl (Does.indexS 0 (b := x) rfl rfl Tryd.underlying9 rfl rfl ?_)
    refine GP.take rfl rfl (Does.assign rfl ?_)
    refine GP.take rfl rfl (Does.assign rfl ?_)
    refine GP.keep [(2, _), (3, _)] (.cons rfl (.cons rfl .nil)) ?_
    exact fin_ret (fn := Tryd.f17) Tryd.func17 (res2 rfl rfl rfl) .nil ⟨by simp only [strokedF]; rw [if_pos hp]; rfl, rfl⟩
  intro hp
  repeat refine G.seq ?_
  refine G.region [.loc, .loc] (.take 0 (.take 1 .done)) rfl ?_
  refine GP.take rfl rfl (Does.eql rfl rfl (show decide ((x.toNat : Int) = 110) = decide (x.toNat = 110) from decide_eq_decide.2 (by omega)) ?_)
  refine GP.take rfl rfl (Does.assign rfl ?_)
  refine GP.keep [(0, _), (8, _), (14, _)] (.cons rfl (.cons rfl (.cons rfl .nil))) ?_
  repeat refine G.seq ?_
  refine G.cond rfl ?_ ?_
  · intro a110
    repeat refine G.seq ?_
    refine G.region [.loc, .loc] (.take 0 (.take 1 .done)) rfl ?_
    refine GP.take rfl rfl (Does.assign rfl ?_)
    refine GP.take rfl rfl (Does.assign rfl ?_)
    refine GP.keep [(2, _), (3, _)] (.cons rfl (.cons rfl .nil)) ?_
    exact fin_ret (fn := Tryd.f17) Tryd.func17 (res2 rfl rfl rfl) .nil ⟨by simp only [strokedF]; rw [if_neg hp, if_pos a110]; rfl, rfl⟩
  intro a110
  repeat refine G.seq ?_
  refine G.region [.loc, .loc] (.take 0 (.take 1 .done)) rfl ?_
  refine GP.take rfl rfl (Does.eql rfl rfl (show decide ((x.toNat : Int) = 116) = decide (x.toNat = 116) from decide_eq_decide.2 (by omega)) ?_)
  refine GP.take rfl rfl (Does.assign rfl ?_)
  refine GP.keep [(0, _), (8, _), (16, _)] (.cons rfl (.cons rfl (.cons rfl .nil))) ?_
  repeat refine G.seq ?_
  refine G.cond rfl ?_ ?_
  · intro a116
    repeat refine G.seq ?_
    refine G.region [.loc, .loc] (.take 0 (.take 1 .done)) rfl ?_
    refine GP.take rfl rfl (Does.assign rfl ?_)
    refine GP.take rfl rfl (Does.assign rfl ?_)
    refine GP.keep [(2, _), (3, _)] (.cons rfl (.cons rfl .nil)) ?_
    exact fin_ret (fn := Tryd.f17) Tryd.func17 (res2 rfl rfl rfl) .nil ⟨by simp only [strokedF]; rw [if_neg hp, if_neg a110, if_pos a116]; rfl, rfl⟩
  intro a116
  repeat refine G.seq ?_
  refine G.region [.loc, .loc] (.take 0 (.take 1 .done)) rfl ?_
  refine GP.take rfl rfl (Does.eql rfl rfl (show decide ((x.toNat : Int) = 120) = decide (x.toNat = 120) from decide_eq_decide.2 (by omega)) ?_)
  refine GP.take rfl rfl (Does.assign rfl ?_)
  refine GP.keep [(0, _), (18, _)] (.cons rfl (.cons rfl .nil)) ?_
  repeat refine G.seq ?_
  refine G.cond rfl ?_ ?_
  case refine_2 =>
    intro a120
    refine G.skip ?_
    refine G.inBlock ?_
    repeat refine G.seq ?_
    refine G.region [.loc, .loc] (.take 0 (.take 1 .done)) rfl ?_
    refine GP.take rfl rfl (Does.assign rfl ?_)
    refine GP.take rfl rfl (Does.assign rfl ?_)
    refine GP.keep [(2, _), (3, _)] (.cons rfl (.cons rfl .nil)) ?_
    exact fin_ret (fn := Tryd.f17) Tryd.func17 (res2 rfl rfl rfl) .nil ⟨by simp only [strokedF]; rw [if_neg hp, if_neg a110, if_neg a116, if_neg (fun h => a120 h.1)]; rfl, rfl⟩
  intro a120
  repeat refine G.seq ?_
  obtain ⟨d1, hd1⟩ : ∃ d1, digF ((x :: r).getD 1 0).toNat = d1 := ⟨_, rfl⟩
  obtain ⟨d2, hd2⟩ : ∃ d2, digF ((x :: r).getD 2 0).toNat = d2 := ⟨_, rfl⟩
  have hdr : ∀ c, -1 ≤ digF c ∧ digF c ≤ 15 := fun c => by unfold digF; (repeat' split) <;> omega
  have hdr1 := hdr ((x :: r).getD 1 0).toNat
  have hdr2 := hdr ((x :: r).getD 2 0).toNat
  rw [hd1] at hdr1
  rw [hd2] at hdr2
  refine G.join (S := Unit) (fun _ => [(0, str (x :: r)), (34, .bool (decide (3 ≤ (x :: r).length ∧ 0 ≤ d1 ∧ 0 ≤ d2)))]) (fun _ => []) (fun _ => True) ?_ fun key => ?_
  case refine_2 =>
    by_cases h3 : 3 ≤ (x :: r).length
    case neg =>
      rw [decide_eq_false (show ¬ (3 ≤ (x :: r).length ∧ 0 ≤ d1 ∧ 0 ≤ d2) from fun h => h3 h.1)] at key
      refine G.region [.loc, .loc, .loc, .loc, .loc, .loc, .gen, .loc, .loc, .loc, .loc, .loc, .gen, .loc, .loc] (.take 0 (.take 1 (.take 2 (.take 3 (.take 4 (.take 5 (.take 6 (.take 7 (.take 8 (.take 9 (.take 10 (.take 11 (.take 12 (.take 13 (.take 14 .done))))))))))))))) rfl ?_
      refine GP.take rfl rfl (Does.move rfl ?_)
      refine GP.take rfl rfl (Does.lenS rfl Tryd.underlying9 ?_)
      refine GP.take rfl rfl (Does.geq rfl rfl (show decide (((x :: r).length : Int) ≥ 3) = false from decide_eq_false (by omega)) ?_)
      refine GP.take rfl rfl (Does.move rfl ?_)
      refine GP.pass rfl rfl rfl rfl rfl ?_
      refine GP.pass rfl rfl rfl rfl rfl ?_
      refine GP.pass rfl rfl rfl rfl rfl ?_
      refine GP.pass rfl rfl rfl rfl rfl ?_
      refine GP.take rfl rfl (Does.pickF rfl rfl ?_)
      refine GP.take rfl rfl (Does.move rfl ?_)
      refine GP.pass rfl rfl rfl rfl rfl ?_
      refine GP.pass rfl rfl rfl rfl rfl ?_
      refine GP.pass rfl rfl rfl rfl rfl ?_
      refine GP.pass rfl rfl rfl rfl rfl ?_
      refine GP.take rfl rfl (Does.pickF rfl rfl ?_)
      refine GP.keep [(0, _), (34, _)] (.cons rfl (.cons rfl .nil)) ?_
      exact key () trivial
    obtain ⟨c1, c2, r2, rfl⟩ : ∃ c1 c2 r2, r = c1 :: c2 :: r2 := by
      match r, h3 with
      | c1 :: c2 :: r2, _ => exact ⟨c1, c2, r2, rfl⟩
    have hd1' : digF c1.toNat = d1 := hd1
    have hd2' : digF c2.toNat = d2 := hd2
    by_cases q1 : 0 ≤ d1
    case neg =>
      rw [decide_eq_false (show ¬ (3 ≤ (x :: c1 :: c2 :: r2).length ∧ 0 ≤ d1 ∧ 0 ≤ d2) from fun h => q1 h.2.1)] at key
      refine G.region [.loc, .loc, .loc, .loc, .loc, .loc, .gen, .loc, .loc, .loc, .loc, .loc, .gen, .loc, .loc] (.take 0 (.take 1 (.take 2 (.take 3 (.take 4 (.take 5 (.take 6 (.take 7 (.take 8 (.take 9 (.take 10 (.take 11 (.take 12 (.take 13 (.take 14 .done))))))))))))))) rfl ?_
      refine GP.take rfl rfl (Does.move rfl ?_)
      refine GP.take rfl rfl (Does.lenS rfl Tryd.underlying9 ?_)
      refine GP.take rfl rfl (Does.geq rfl rfl (show decide (((x :: c1 :: c2 :: r2).length : Int) ≥ 3) = true from decide_eq_true (by omega)) ?_)
      refine GP.take rfl rfl (Does.move rfl ?_)
      refine GP.takeG rfl rfl rfl rfl (Does.move rfl ?_)
      refine GP.takeG rfl rfl rfl rfl (Does.indexS 1 (b := c1) rfl rfl Tryd.underlying9 rfl rfl ?_)
      refine GP.takeG rfl rfl rfl rfl (Does.callN (.cons rfl .nil) cb18 (digitB_ct c1.toNat) (fun _ _ => trivial) ?_)
      rintro _ _ ⟨rfl, rfl⟩
      rw [hd1']
      simp only [List.append_nil]
      refine GP.takeG rfl rfl rfl rfl (Does.geq rfl rfl (show decide (d1 ≥ 0) = false from decide_eq_false (by omega)) ?_)
      refine GP.take rfl rfl (Does.pickT rfl rfl ?_)
      refine GP.take rfl rfl (Does.move rfl ?_)
      refine GP.pass rfl rfl rfl rfl rfl ?_
      refine GP.pass rfl rfl rfl rfl rfl ?_
      refine GP.pass rfl rfl rfl rfl rfl ?_
      refine GP.pass rfl rfl rfl rfl rfl ?_
      refine GP.take rfl rfl (Does.pickF rfl rfl ?_)
      refine GP.keep [(0, _), (34, _)] (.cons rfl (.cons rfl .nil)) ?_
      exact key () trivial
    by_cases q2 : 0 ≤ d2
    · rw [decide_eq_true (show 3 ≤ (x :: c1 :: c2 :: r2).length ∧ 0 ≤ d1 ∧ 0 ≤ d2 from ⟨h3, q1, q2⟩)] at key
      refine G.region [.loc, .loc, .loc, .loc, .loc, .loc, .gen, .loc, .loc, .loc, .loc, .loc, .gen, .loc, .loc] (.take 0 (.take 1 (.take 2 (.take 3 (.take 4 (.take 5 (.take 6 (.take 7 (.take 8 (.take 9 (.take 10 (.take 11 (.take 12 (.take 13 (.take 14 .done))))))))))))))) rfl ?_
      refine GP.take rfl rfl (Does.move rfl ?_)
      refine GP.take rfl rfl (Does.lenS rfl Tryd.underlying9 ?_)
      refine GP.take rfl rfl (Does.geq rfl rfl (show decide (((x :: c1 :: c2 :: r2).length : Int) ≥ 3) = true from decide_eq_true (by omega)) ?_)
      refine GP.take rfl rfl (Does.move rfl ?_)
      refine GP.takeG rfl rfl rfl rfl (Does.move rfl ?_)
      refine GP.takeG rfl rfl rfl rfl (Does.indexS 1 (b := c1) rfl rfl Tryd.underlying9 rfl rfl ?_)
      refine GP.takeG rfl rfl rfl rfl (Does.callN (.cons rfl .nil) cb18 (digitB_ct c1.toNat) (fun _ _ => trivial) ?_)
      rintro _ _ ⟨rfl, rfl⟩
      rw [hd1']
      simp only [List.append_nil]
      refine GP.takeG rfl rfl rfl rfl (Does.geq rfl rfl (show decide (d1 ≥ 0) = true from decide_eq_true (by omega)) ?_)
      refine GP.take rfl rfl (Does.pickT rfl rfl ?_)
      refine GP.take rfl rfl (Does.move rfl ?_)
      refine GP.takeG rfl rfl rfl rfl (Does.move rfl ?_)
      refine GP.takeG rfl rfl rfl rfl (Does.indexS 2 (b := c2) rfl rfl Tryd.underlying9 rfl rfl ?_)
      refine GP.takeG rfl rfl rfl rfl (Does.callN (.cons rfl .nil) cb18 (digitB_ct c2.toNat) (fun _ _ => trivial) ?_)
      rintro _ _ ⟨rfl, rfl⟩
      rw [hd2']
      simp only [List.append_nil]
      refine GP.takeG rfl rfl rfl rfl (Does.geq rfl rfl (show decide (d2 ≥ 0) = true from decide_eq_true (by omega)) ?_)
      refine GP.take rfl rfl (Does.pickT rfl rfl ?_)
      refine GP.keep [(0, _), (34, _)] (.cons rfl (.cons rfl .nil)) ?_
      exact key () trivial
    · rw [decide_eq_false (show ¬ (3 ≤ (x :: c1 :: c2 :: r2).length ∧ 0 ≤ d1 ∧ 0 ≤ d2) from fun h => q2 h.2.2)] at key
      refine G.region [.loc, .loc, .loc, .loc, .loc, .loc, .gen, .loc, .loc, .loc, .loc, .loc, .gen, .loc, .loc] (.take 0 (.take 1 (.take 2 (.take 3 (.take 4 (.take 5 (.take 6 (.take 7 (.take 8 (.take 9 (.take 10 (.take 11 (.take 12 (.take 13 (.take 14 .done))))))))))))))) rfl ?_
      refine GP.take rfl rfl (Does.move rfl ?_)
      refine GP.take rfl rfl (Does.lenS rfl Tryd.underlying9 ?_)
      refine GP.take rfl rfl (Does.geq rfl rfl (show decide (((x :: c1 :: c2 :: r2).length : Int) ≥ 3) = true from decide_eq_true (by omega)) ?_)
      refine GP.take rfl rfl (Does.move rfl ?_)
      refine GP.takeG rfl rfl rfl rfl (Does.move rfl ?_)
      refine GP.takeG rfl rfl rfl rfl (Does.indexS 1 (b := c1) rfl rfl Tryd.underlying9 rfl rfl ?_)
      refine GP.takeG rfl rfl rfl rfl (Does.callN (.cons rfl .nil) cb18 (digitB_ct c1.toNat) (fun _ _ => trivial) ?_)
      rintro _ _ ⟨rfl, rfl⟩
      rw [hd1']
      simp only [List.append_nil]
      refine GP.takeG rfl rfl rfl rfl (Does.geq rfl rfl (show decide (d1 ≥ 0) = true from decide_eq_true (by omega)) ?_)
      refine GP.take rfl rfl (Does.pickT rfl rfl ?_)
      refine GP.take rfl rfl (Does.move rfl ?_)
      refine GP.takeG rfl rfl rfl rfl (Does.move rfl ?_)
      refine GP.takeG rfl rfl rfl rfl (Does.indexS 2 (b := c2) rfl rfl Tryd.underlying9 rfl rfl ?_)
      refine GP.takeG rfl rfl rfl rfl (Does.callN (.cons rfl .nil) cb18 (digitB_ct c2.toNat) (fun _ _ => trivial) ?_)
      rintro _ _ ⟨rfl, rfl⟩
      rw [hd2']
      simp only [List.append_nil]
      refine GP.takeG rfl rfl rfl rfl (Does.geq rfl rfl (show decide (d2 ≥ 0) = false from decide_eq_false (by omega)) ?_)
      refine GP.take rfl rfl (Does.pickT rfl rfl ?_)
      refine GP.keep [(0, _), (34, _)] (.cons rfl (.cons rfl .nil)) ?_
      exact key () trivial
  rintro - -
  repeat refine G.seq ?_
  refine G.cond rfl ?_ ?_
  case refine_2 =>
    intro hq
    refine G.skip ?_
    refine G.inBlock ?_
    repeat refine G.seq ?_
    refine G.region [.loc, .loc] (.take 0 (.take 1 .done)) rfl ?_
    refine GP.take rfl rfl (Does.assign rfl ?_)
    refine GP.take rfl rfl (Does.assign rfl ?_)
    refine GP.keep [(2, _), (3, _)] (.cons rfl (.cons rfl .nil)) ?_
    exact fin_ret (fn := Tryd.f17) Tryd.func17 (res2 rfl rfl rfl) .nil ⟨by simp only [strokedF]; rw [if_neg hp, if_neg a110, if_neg a116, if_neg (fun h => hq (by rw [hd1, hd2] at h; exact h.2))]; rfl, rfl⟩
  intro hq
  repeat refine G.seq ?_
  obtain ⟨c1, c2, r2, rfl⟩ : ∃ c1 c2 r2, r = c1 :: c2 :: r2 := by
    match r, hq.1 with
    | c1 :: c2 :: r2, _ => exact ⟨c1, c2, r2, rfl⟩
  have hd1' : digF c1.toNat = d1 := hd1
  have hd2' : digF c2.toNat = d2 := hd2
  have hfin : strokedF (x :: c1 :: c2 :: r2) = (byteF (16 * d1 + d2), 3) := by
    simp only [strokedF]
    rw [if_neg hp, if_neg a110, if_neg a116, if_pos ⟨a120, by simp, by rw [hd1]; exact hq.2.1, by rw [hd2]; exact hq.2.2⟩, hd1, hd2]
  refine G.draw [.loc, .loc, .gen, .loc, .loc, .loc, .gen, .loc, .loc, .loc, .loc] (.take 0 (.take 1 (.take 4 (.take 5 (.alt 2 (.take 3 (.alt 6 (.take 7 (.take 8 (.take 9 (.take 10 .done)))) .stop)) .stop))))) (by exact mixed) (by kernel_rfl) ?_
  intro N hN0 hN
  refine GP.take rfl rfl (Does.move rfl ?_)
  refine GP.take rfl rfl (Does.indexS 1 (b := c1) rfl rfl Tryd.underlying9 rfl rfl ?_)
  refine GP.take rfl rfl (Does.move rfl ?_)
  refine GP.take rfl rfl (Does.indexS 2 (b := c2) rfl rfl Tryd.underlying9 rfl rfl ?_)
  refine GP.one ?_
  refine GP.take rfl rfl (Does.callN (.cons rfl .nil) cb18 (digitB_ct c1.toNat) (fun _ _ => trivial) ?_)
  rintro _ _ ⟨rfl, rfl⟩
  rw [hd1']
  simp only [List.append_nil]
  refine GP.take rfl rfl (Does.mul rfl rfl (r := 16 * d1) (wr_i64 (by omega) (by omega)) ?_)
  refine GP.one ?_
  refine GP.take rfl rfl (Does.callN (.cons rfl .nil) cb18 (digitB_ct c2.toNat) (fun _ _ => trivial) ?_)
  rintro _ _ ⟨rfl, rfl⟩
  rw [hd2']
  simp only [List.append_nil]
  refine GP.take rfl rfl (Does.add rfl rfl (r := 16 * d1 + d2) (wr_i64 (by omega) (by omega)) ?_)
  refine GP.take rfl rfl (Does.convL rfl Tryd.underlying5 ⟨_, Tryd.underlying3⟩ (r := IntKind.u8.wrap (16 * d1 + d2)) rfl ?_)
  refine GP.take rfl rfl (Does.assign rfl ?_)
  refine GP.take rfl rfl (Does.assign rfl ?_)
  refine GP.keep [(2, _), (3, _)] (.cons rfl (.cons rfl .nil)) ?_
  exact fin_ret (fn := Tryd.f17) Tryd.func17 (res2 rfl rfl rfl) .nil ⟨by rw [hfin, byteF_val]; rfl, rfl⟩
/-- a quoted word behind its quote: the word, and what stands behind it -/
def quotedL : Nat → List UInt8 → List UInt8 → Option (List UInt8 × List UInt8)
  | 0, _, _ => none
  | _ + 1, [], _ => none
  | f + 1, x :: r, b => if x.toNat = 34 then some (b, r) else if x.toNat ≠ 92 then quotedL f r (b ++ [x])
    else if (strokedF r).2 = 0 then none else quotedL f (r.drop (strokedF r).2) (b ++ [(strokedF r).1])
theorem drop_cons {l : List UInt8} {i : Nat} {x : UInt8} (h : l[i]? = some x) : l.drop i = x :: l.drop (i + 1) := by
  obtain ⟨hi, rfl⟩ := List.getElem?_eq_some_iff.1 h
  exact List.drop_eq_getElem_cons hi
def QResO (s : List UInt8) (q : Option (List UInt8 × List UInt8)) (v : Value) : Prop := match q with
  | none => v = .tuple #[str [], .int .i64 0]
  | some (w, rest) => v = .tuple #[str w, .int .i64 ((s.length - rest.length : Nat) : Int)] ∧ rest.length < s.length ∧ rest = s.drop (s.length - rest.length) ∧ w.length ≤ s.length
def QRes (s : List UInt8) (v : Value) : Prop := QResO s (quotedL s.length (s.drop 1) []) v
theorem quoted_ct (s : List UInt8) (hl : s.length ≤ 65536) (h1 : 1 ≤ s.length) : Ct Tryd.prog 13 [str s].toArray (fun _ => True) [] (fun v C' => QRes s v ∧ C' = []) := by
  refine ct_of_walk (fn := Tryd.f13) Tryd.func13 rfl rfl fun w0 hpre hst => ?_
  clear hst
  repeat refine G.seq ?_
  refine G.region [.loc, .loc] (.take 0 (.take 1 .done)) rfl ?_
  refine GP.take rfl rfl (Does.assign rfl ?_)
  refine GP.take rfl rfl (Does.assign rfl ?_)
  refine GP.keep [(0, _)] (.cons rfl .nil) ?_
  repeat refine G.seq ?_
  refine G.region [.loc] (.take 0 .done) rfl ?_
  refine GP.take rfl rfl (Does.assign rfl ?_)
  refine GP.keep [(0, _), (4, _)] (.cons rfl (.cons rfl .nil)) ?_
  repeat refine G.seq ?_
  refine G.region [.loc] (.take 0 .done) rfl ?_
  refine GP.take rfl rfl (Does.assign rfl ?_)
  refine GP.keep [(0, _), (4, _), (5, _)] (.cons rfl (.cons rfl (.cons rfl .nil))) ?_
  repeat refine G.seq ?_
  obtain ⟨Rr, hRr⟩ : ∃ Rr, quotedL s.length (s.drop 1) [] = Rr := ⟨_, rfl⟩
  refine G.block ?_
  refine G.loop (S := Nat × List UInt8 × Value × Chunks × Nat) (fun s' => [(0, str s), (4, s'.2.2.1), (5, .int .i64 (s'.1 : Int))]) (fun s' => s'.2.2.2.1)
    (fun s' => 1 ≤ s'.1 ∧ s'.1 ≤ s.length ∧ Rep 5 rU s'.2.1 s'.2.2.1 s'.2.2.2.1 ∧ s.length ≤ s'.1 + s'.2.2.2.2 ∧ quotedL s'.2.2.2.2 (s.drop s'.1) s'.2.1 = Rr ∧ s'.2.1.length ≤ s'.1) (fun s' => s.length + 1 - s'.1)
    (1, [], _, [], s.length) ⟨Nat.le_refl _, h1, Rep.nil, by simp only; omega, hRr, Nat.zero_le _⟩ (.cons rfl (.cons rfl (.cons rfl .nil))) .all ?_
  rintro ⟨i, b, sv, C4, f⟩ ⟨hi1, hi, hb, hf, hR, hbl⟩ IH
  simp only at hi1 hi hb hf hR hbl IH ⊢
  repeat refine G.seq ?_
  by_cases hil : i < s.length
  case neg =>
    obtain rfl : i = s.length := by omega
    have hRn : Rr = none := by
      rw [← hR, List.drop_length]
      cases f <;> rfl
    refine G.region [.loc, .loc, .loc, .loc, .loc, .loc, .loc, .loc, .loc, .loc] (.take 0 (.take 1 (.take 2 (.take 3 (.take 4 (.take 5 (.take 6 (.take 7 (.take 8 (.take 9 .done)))))))))) rfl ?_
    refine GP.take rfl rfl (Does.move rfl ?_)
    refine GP.take rfl rfl (Does.move rfl ?_)
    refine GP.take rfl rfl (Does.lenS rfl Tryd.underlying9 ?_)
    refine GP.take rfl rfl (Does.lss rfl rfl (show decide ((s.length : Int) < (s.length : Int)) = false from decide_eq_false (by omega)) ?_)
    refine GP.take rfl rfl (Does.move rfl ?_)
    refine GP.pass rfl rfl rfl rfl rfl ?_
    refine GP.pass rfl rfl rfl rfl rfl ?_
    refine GP.pass rfl rfl rfl rfl rfl ?_
    refine GP.pass rfl rfl rfl rfl rfl ?_
    refine GP.take rfl rfl (Does.pickF rfl rfl ?_)
    refine GP.keep [(0, _), (4, _), (5, _), (17, _)] (.cons rfl (.cons rfl (.cons rfl (.cons rfl .nil)))) ?_
    repeat refine G.seq ?_
    refine G.condF rfl ?_
    refine G.exit rfl ?_
    repeat refine G.seq ?_
    refine G.region [.loc, .loc, .loc, .loc] (.take 0 (.take 1 (.take 2 (.take 3 .done)))) rfl ?_
    refine GP.take rfl rfl (Does.move rfl ?_)
    refine GP.take rfl rfl (Does.move rfl ?_)
    refine GP.take rfl rfl (Does.lenS rfl Tryd.underlying9 ?_)
    refine GP.take rfl rfl (Does.geq rfl rfl (show decide ((s.length : Int) ≥ (s.length : Int)) = true from decide_eq_true (by omega)) ?_)
    refine GP.keep [(0, _), (4, _), (5, _), (51, _)] (.cons rfl (.cons rfl (.cons rfl (.cons rfl .nil)))) ?_
    repeat refine G.seq ?_
    refine G.condT rfl ?_
    repeat refine G.seq ?_
    refine G.region [.loc, .loc] (.take 0 (.take 1 .done)) rfl ?_
    refine GP.take rfl rfl (Does.assign rfl ?_)
    refine GP.take rfl rfl (Does.assign rfl ?_)
    refine GP.keep [(2, _), (3, _)] (.cons rfl (.cons rfl .nil)) ?_
    exact fin_ret (fn := Tryd.f13) Tryd.func13 (res2 rfl rfl rfl) .nil ⟨by rw [QRes, hRr, hRn]; exact rfl, rfl⟩
  obtain ⟨x, hx⟩ : ∃ x, s[i]? = some x := ⟨s[i], by simp [hil]⟩
  have hxb := UInt8.toNat_lt x
  obtain ⟨f', rfl⟩ : ∃ f', f = f' + 1 := ⟨f - 1, by omega⟩
  rw [drop_cons hx, quotedL] at hR
  by_cases x34 : x.toNat = 34
  case pos =>
    rw [if_pos x34] at hR
    refine G.region [.loc, .loc, .loc, .loc, .loc, .loc, .loc, .loc, .loc, .loc] (.take 0 (.take 1 (.take 2 (.take 3 (.take 4 (.take 5 (.take 6 (.take 7 (.take 8 (.take 9 .done)))))))))) rfl ?_
    refine GP.take rfl rfl (Does.move rfl ?_)
    refine GP.take rfl rfl (Does.move rfl ?_)
    refine GP.take rfl rfl (Does.lenS rfl Tryd.underlying9 ?_)
    refine GP.take rfl rfl (Does.lss rfl rfl (show decide ((i : Int) < (s.length : Int)) = true from decide_eq_true (by omega)) ?_)
    refine GP.take rfl rfl (Does.move rfl ?_)
    refine GP.takeG rfl rfl rfl rfl (Does.move rfl ?_)
    refine GP.takeG rfl rfl rfl rfl (Does.move rfl ?_)
    refine GP.takeG rfl rfl rfl rfl (Does.indexS i (b := x) rfl rfl Tryd.underlying9 rfl hx ?_)
    refine GP.takeG rfl rfl rfl rfl (Does.neq rfl rfl (show (!decide ((x.toNat : Int) = 34)) = false by simp <;> omega) ?_)
    refine GP.take rfl rfl (Does.pickT rfl rfl ?_)
    refine GP.keep [(0, _), (4, _), (5, _), (17, _)] (.cons rfl (.cons rfl (.cons rfl (.cons rfl .nil)))) ?_
    repeat refine G.seq ?_
    refine G.condF rfl ?_
    refine G.exit rfl ?_
    repeat refine G.seq ?_
    refine G.region [.loc, .loc, .loc, .loc] (.take 0 (.take 1 (.take 2 (.take 3 .done)))) rfl ?_
    refine GP.take rfl rfl (Does.move rfl ?_)
    refine GP.take rfl rfl (Does.move rfl ?_)
    refine GP.take rfl rfl (Does.lenS rfl Tryd.underlying9 ?_)
    refine GP.take rfl rfl (Does.geq rfl rfl (show decide ((i : Int) ≥ (s.length : Int)) = false from decide_eq_false (by omega)) ?_)
    refine GP.keep [(0, _), (4, _), (5, _), (51, _)] (.cons rfl (.cons rfl (.cons rfl (.cons rfl .nil)))) ?_
    repeat refine G.seq ?_
    refine G.condF rfl ?_
    refine G.skip ?_
    repeat refine G.seq ?_
    refine G.region [.loc, .gen, .loc, .loc, .loc, .loc] (.take 0 (.take 1 (.take 2 (.take 3 (.take 4 (.take 5 .done)))))) rfl ?_
    refine GP.take rfl rfl (Does.move rfl ?_)
    refine GP.take rfl rfl (Does.strR [] C4 [] rfl Tryd.underlying30 Tryd.underlying5 Tryd.underlying9 (by simp) hb ?_)
    refine GP.take rfl rfl (Does.move rfl ?_)
    refine GP.take rfl rfl (Does.add rfl rfl (r := ((i + 1 : Nat) : Int)) (wrc_i64 (by omega) (by omega) (by omega)) ?_)
    refine GP.take rfl rfl (Does.assign rfl ?_)
    refine GP.take rfl rfl (Does.assign rfl ?_)
    refine GP.keep [(2, _), (3, _)] (.cons rfl (.cons rfl .nil)) ?_
    have hdl : (s.drop (i + 1)).length = s.length - (i + 1) := by simp
    exact fin_ret (fn := Tryd.f13) Tryd.func13 (res2 rfl rfl rfl) .nil ⟨by rw [QRes, hRr, ← hR]; exact ⟨by rw [hdl, show s.length - (s.length - (i + 1)) = i + 1 by omega], by omega, by rw [hdl, show s.length - (s.length - (i + 1)) = i + 1 by omega], by omega⟩, rfl⟩
  rw [if_neg x34] at hR
  refine G.region [.loc, .loc, .loc, .loc, .loc, .loc, .loc, .loc, .loc, .loc] (.take 0 (.take 1 (.take 2 (.take 3 (.take 4 (.take 5 (.take 6 (.take 7 (.take 8 (.take 9 .done)))))))))) rfl ?_
  refine GP.take rfl rfl (Does.move rfl ?_)
  refine GP.take rfl rfl (Does.move rfl ?_)
  refine GP.take rfl rfl (Does.lenS rfl Tryd.underlying9 ?_)
  refine GP.take rfl rfl (Does.lss rfl rfl (show decide ((i : Int) < (s.length : Int)) = true from decide_eq_true (by omega)) ?_)
  refine GP.take rfl rfl (Does.move rfl ?_)
  refine GP.takeG rfl rfl rfl rfl (Does.move rfl ?_)
  refine GP.takeG rfl rfl rfl rfl (Does.move rfl ?_)
  refine GP.takeG rfl rfl rfl rfl (Does.indexS i (b := x) rfl rfl Tryd.underlying9 rfl hx ?_)
  refine GP.takeG rfl rfl rfl rfl (Does.neq rfl rfl (show (!decide ((x.toNat : Int) = 34)) = true by simp <;> omega) ?_)
  refine GP.take rfl rfl (Does.pickT rfl rfl ?_)
  refine GP.keep [(0, _), (4, _), (5, _), (17, _)] (.cons rfl (.cons rfl (.cons rfl (.cons rfl .nil)))) ?_
  repeat refine G.seq ?_
  refine G.condT rfl ?_
  refine G.skip ?_
  repeat refine G.seq ?_
  refine G.block ?_
  repeat refine G.seq ?_
  by_cases x92 : x.toNat = 92
  case neg =>
    rw [if_pos x92] at hR
    refine G.region [.loc, .loc, .loc, .loc] (.take 0 (.take 1 (.take 2 (.take 3 .done)))) rfl ?_
    refine GP.take rfl rfl (Does.move rfl ?_)
    refine GP.take rfl rfl (Does.move rfl ?_)
    refine GP.take rfl rfl (Does.indexS i (b := x) rfl rfl Tryd.underlying9 rfl hx ?_)
    refine GP.take rfl rfl (Does.neq rfl rfl (show (!decide ((x.toNat : Int) = 92)) = true by simp <;> omega) ?_)
    refine GP.keep [(0, _), (4, _), (5, _), (21, _)] (.cons rfl (.cons rfl (.cons rfl (.cons rfl .nil)))) ?_
    repeat refine G.seq ?_
    refine G.condT rfl ?_
    repeat refine G.seq ?_
    refine G.region [.loc, .loc, .loc, .loc, .alloc, .gen, .loc] (.take 0 (.take 1 (.take 2 (.take 3 (.take 4 (.take 5 (.take 6 .done))))))) rfl ?_
    refine GP.take rfl rfl (Does.move rfl ?_)
    refine GP.take rfl rfl (Does.move rfl ?_)
    refine GP.take rfl rfl (Does.move rfl ?_)
    refine GP.take rfl rfl (Does.indexS i (b := x) rfl rfl Tryd.underlying9 rfl hx ?_)
    refine GP.take rfl rfl (Does.buildSlice (r := [rU x]) (.cons rfl .nil) sl30 zl5 (by decide) rfl fun b26 N26 h26 n26 => ?_)
    refine GP.take rfl rfl (Does.appendR (row := rU) (l := b) (xs := [x]) (mc := 1) [(b26, cel 5 [rU x])] C4 [] rfl rfl si30 zl5 (by simp) hb (fun _ => ⟨b26, 0, rfl, RowIn.own (vs := [rU x]) (.head _) rfl⟩) (fun _ => rfl) (by decide) (by simp only [List.length_cons, List.length_nil]; omega) ?_)
    intro sn Cn gn
    refine GP.take rfl rfl (Does.assign rfl ?_)
    refine GP.keep [(0, _), (4, _), (5, _)] (.cons rfl (.cons rfl (.cons rfl .nil))) ?_
    repeat refine G.seq ?_
    refine G.region [.loc, .loc, .loc] (.take 0 (.take 1 (.take 2 .done))) rfl ?_
    refine GP.take rfl rfl (Does.move rfl ?_)
    refine GP.take rfl rfl (Does.add rfl rfl (r := ((i + 1 : Nat) : Int)) (wrc_i64 (by omega) (by omega) (by omega)) ?_)
    refine GP.take rfl rfl (Does.assign rfl ?_)
    refine GP.keep [(0, _), (4, _), (5, _)] (.cons rfl (.cons rfl (.cons rfl .nil))) ?_
    refine G.exit rfl ?_
    refine G.dropP [(b26, cel 5 [rU x])] (A := Cn) (by classical exact List.perm_iff_count.2 fun q => by simp only [List.append_eq, List.nil_append, List.append_nil, List.cons_append, List.count_append, List.count_cons, List.count_nil] <;> omega) ?_
    exact IH (i + 1, b ++ [x], sn, Cn, f') ⟨by simp only; omega, by simp only; omega, gn, by simp only; omega, hR, by simp only [List.length_append, List.length_cons, List.length_nil]; omega⟩ (by simp only; omega)
  rw [if_neg (by omega)] at hR
  refine G.region [.loc, .loc, .loc, .loc] (.take 0 (.take 1 (.take 2 (.take 3 .done)))) rfl ?_
  refine GP.take rfl rfl (Does.move rfl ?_)
  refine GP.take rfl rfl (Does.move rfl ?_)
  refine GP.take rfl rfl (Does.indexS i (b := x) rfl rfl Tryd.underlying9 rfl hx ?_)
  refine GP.take rfl rfl (Does.neq rfl rfl (show (!decide ((x.toNat : Int) = 92)) = false by simp <;> omega) ?_)
  refine GP.keep [(0, _), (4, _), (5, _), (21, _)] (.cons rfl (.cons rfl (.cons rfl (.cons rfl .nil)))) ?_
  repeat refine G.seq ?_
  refine G.condF rfl ?_
  refine G.skip ?_
  repeat refine G.seq ?_
  have hsl := strokedF_le (s.drop (i + 1))
  rw [List.length_drop] at hsl
  refine G.region [.loc, .loc, .loc, .loc, .gen, .loc, .loc, .loc, .loc, .loc] (.take 0 (.take 1 (.take 2 (.take 3 (.take 4 (.take 5 (.take 6 (.take 7 (.take 8 (.take 9 .done)))))))))) rfl ?_
  refine GP.take rfl rfl (Does.move rfl ?_)
  refine GP.take rfl rfl (Does.move rfl ?_)
  refine GP.take rfl rfl (Does.add rfl rfl (r := ((i + 1 : Nat) : Int)) (wrc_i64 (by omega) (by omega) (by omega)) ?_)
  refine GP.take rfl rfl (Does.sliceSF (i + 1) rfl rfl Tryd.underlying9 rfl (by omega) ?_)
  refine GP.take rfl rfl (Does.callN (.cons rfl .nil) cb17 (stroked_ct (s.drop (i + 1)) (by simp; omega)) (fun _ _ => trivial) ?_)
  rintro _ _ ⟨rfl, rfl⟩
  simp only [List.append_nil]
  refine GP.take rfl rfl (Does.move rfl ?_)
  refine GP.take rfl rfl (Does.extract rfl rfl ?_)
  refine GP.take rfl rfl (Does.extract rfl rfl ?_)
  refine GP.take rfl rfl (Does.assign rfl ?_)
  refine GP.take rfl rfl (Does.assign rfl ?_)
  refine GP.keep [(0, _), (4, _), (5, _), (6, _), (7, _)] (.cons rfl (.cons rfl (.cons rfl (.cons rfl (.cons rfl .nil))))) ?_
  repeat refine G.seq ?_
  obtain ⟨⟨c, n⟩, hcn⟩ : ∃ q, strokedF (s.drop (i + 1)) = q := ⟨_, rfl⟩
  rw [hcn] at hR hsl ⊢
  simp only at hR hsl ⊢
  refine G.region [.loc, .loc] (.take 0 (.take 1 .done)) rfl ?_
  refine GP.take rfl rfl (Does.move rfl ?_)
  refine GP.take rfl rfl (Does.eql rfl rfl (show decide ((n : Int) = 0) = decide (n = 0) from decide_eq_decide.2 (by omega)) ?_)
  refine GP.keep [(0, _), (4, _), (5, _), (6, _), (7, _), (39, _)] (.cons rfl (.cons rfl (.cons rfl (.cons rfl (.cons rfl (.cons rfl .nil)))))) ?_
  repeat refine G.seq ?_
  refine G.cond rfl ?_ ?_
  · intro hn
    rw [if_pos hn] at hR
    repeat refine G.seq ?_
    refine G.region [.loc, .loc] (.take 0 (.take 1 .done)) rfl ?_
    refine GP.take rfl rfl (Does.assign rfl ?_)
    refine GP.take rfl rfl (Does.assign rfl ?_)
    refine GP.keep [(2, _), (3, _)] (.cons rfl (.cons rfl .nil)) ?_
    exact fin_ret (fn := Tryd.f13) Tryd.func13 (res2 rfl rfl rfl) .nil ⟨by rw [QRes, hRr, ← hR]; exact rfl, rfl⟩
  intro hn
  rw [if_neg hn, List.drop_drop] at hR
  refine G.skip ?_
  repeat refine G.seq ?_
  refine G.region [.loc, .loc, .alloc, .gen, .loc] (.take 0 (.take 1 (.take 2 (.take 3 (.take 4 .done))))) rfl ?_
  refine GP.take rfl rfl (Does.move rfl ?_)
  refine GP.take rfl rfl (Does.move rfl ?_)
  refine GP.take rfl rfl (Does.buildSlice (r := [rU c]) (.cons rfl .nil) sl30 zl5 (by decide) rfl fun b42 N42 h42 n42 => ?_)
  refine GP.take rfl rfl (Does.appendR (row := rU) (l := b) (xs := [c]) (mc := 1) [(b42, cel 5 [rU c])] C4 [] rfl rfl si30 zl5 (by simp) hb (fun _ => ⟨b42, 0, rfl, RowIn.own (vs := [rU c]) (.head _) rfl⟩) (fun _ => rfl) (by decide) (by simp only [List.length_cons, List.length_nil]; omega) ?_)
  intro sn Cn gn
  refine GP.take rfl rfl (Does.assign rfl ?_)
  refine GP.keep [(0, _), (4, _), (5, _), (7, _)] (.cons rfl (.cons rfl (.cons rfl (.cons rfl .nil)))) ?_
  repeat refine G.seq ?_
  refine G.region [.loc, .loc, .loc, .loc, .loc] (.take 0 (.take 1 (.take 2 (.take 3 (.take 4 .done))))) rfl ?_
  refine GP.take rfl rfl (Does.move rfl ?_)
  refine GP.take rfl rfl (Does.add rfl rfl (r := ((i + 1 : Nat) : Int)) (wrc_i64 (by omega) (by omega) (by omega)) ?_)
  refine GP.take rfl rfl (Does.move rfl ?_)
  refine GP.take rfl rfl (Does.add rfl rfl (r := ((i + 1 + n : Nat) : Int)) (wrc_i64 (by omega) (by omega) (by omega)) ?_)
  refine GP.take rfl rfl (Does.assign rfl ?_)
  refine GP.keep [(0, _), (4, _), (5, _)] (.cons rfl (.cons rfl (.cons rfl .nil))) ?_
  refine G.inBlock ?_
  refine G.dropP [(b42, cel 5 [rU c])] (A := Cn) (by classical exact List.perm_iff_count.2 fun q => by simp only [List.append_eq, List.nil_append, List.append_nil, List.cons_append, List.count_append, List.count_cons, List.count_nil] <;> omega) ?_
  exact IH (i + 1 + n, b ++ [c], sn, Cn, f') ⟨by simp only; omega, by simp only; omega, gn, by simp only; omega, hR, by simp only [List.length_append, List.length_cons, List.length_nil]; omega⟩ (by simp only; omega)
end Go.Proofs.YtcgenmfnlocbbaaDoor.T
