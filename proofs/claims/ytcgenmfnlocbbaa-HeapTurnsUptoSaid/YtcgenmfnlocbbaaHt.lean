/- 'HeapTurns': three heaps in turns, one of them without a compare: every answer is the document's, and what was handed in stays the caller's. For every script of at most 1048576 values. -/
import Derived.Test.YtcgenmfnlocbbaaRows
import Derived.Test.YtcgenmfnlocbbaaH7
namespace Go.Proofs.Ytcgenmfnlocbbaa.T
open Go.Lg Go.Hp Go.RowKit
theorem ag38 : aggT Try.prog 38 = some 3 := by kernel_rfl
theorem ar33 : arrayElem Try.prog 33 = some (3, 28, 1) := by kernel_rfl
theorem ar35 : arrayElem Try.prog 35 = some (3, 34, 1) := by kernel_rfl
theorem fo38_1 : fieldOff Try.prog 38 1 = some 1 := by kernel_rfl
theorem ft28 : flatT Try.prog 28 = true := by kernel_rfl
theorem gd28 : Try.prog.eqGuardType Try.prog.depth 28 = false := by kernel_rfl
theorem is27 : isSlice Try.prog 27 = true := by kernel_rfl
theorem sl27 : sliceElem Try.prog 27 = some (38, 3) := by kernel_rfl
theorem sp38 : structPlaces Try.prog 38 = some [(0, 1), (1, 1), (2, 1)] := by kernel_rfl
theorem sz33 : sizeT Try.prog 33 = some 3 := by kernel_rfl
theorem sz34 : sizeT Try.prog 34 = some 1 := by kernel_rfl
theorem zl33 : zeroL Try.prog 33 = some [.pointer none, .pointer none, .pointer none] := by kernel_rfl
theorem zl35 : zeroL Try.prog 35 = some [.slice none 0 0, .slice none 0 0, .slice none 0 0] := by kernel_rfl
theorem zl38 : zeroL Try.prog 38 = some [.int .i64 0, .int .i64 0, .slice none 0 0] := by kernel_rfl
theorem own : ownKnob Try.prog.godebug = none := by kernel_rfl
theorem laid : laidOutB Try.prog = true := by kernel_rfl
theorem maps : mapsRowed Try.prog = true := by kernel_rfl
theorem full : ∀ t e, t < Try.prog.types.size → Try.prog.underlying t = some (.slice e) → 0 < Try.prog.cellsOf e := slices_full_of Try.prog (by kernel_rfl)

theorem Does.buildA {X : Cx} {L : Env} {ds : List Deferred} {C : Chunks} {N : Nat} {κ : Value → Chunks → Prop} {T e sz n : Nat} {parts : Array (Nat × Operand)} {vs : List (Nat × Value)} {zs r : List Value} (hp : EvP L parts.toList vs) (hs : arrayElem X.P T = some (n, e, sz)) (hz : zeroL X.P T = some zs)
    (hf : fillV (fun i => some (i * sz, sz)) zs vs = some r) (hk : κ (.agg r.toArray) C) : Does X N (.build T parts) .loc L ds C κ :=
  .of_run (fun o ho a w hs' w' => by
    simp only [zeroL, Option.map_eq_some_iff] at hz
    obtain ⟨z, hz, rfl⟩ := hz
    obtain ⟨hu, i, hi, hsz⟩ := arrayElem_spec hs
    have hfl := fillV_eq (fun i => some (i * sz, sz)) vs _ r hf
    unfold execOp; rw [ho]
    simp only [Instr.build]
    simp [run_zero hz, run_ul hu, run_sz hi, hsz]
    simp only [Array.toArray_toList] at hfl
    rw [hs'.evP hp, hfl]
    simp) hk
/-- one heap, the document's list beside it, and where both lie -/
structure Slot where
  l : List (Int × Int)
  sv : Value
  Cl : Chunks
  items : List ((Int × Int) × Nat)
  came : Nat
  C0 : Chunks
def Slot.C (s : Slot) : Chunks := s.Cl ++ s.C0
def gk (k : Nat) : FuncId := if k = 2 then 40 else 14
def cmpk (k : Nat) : Int × Int → Int × Int → Int := if k = 2 then cmp0 else cmpK
theorem ok_k (k : Nat) : CmpOk Try.prog (gk k) #[] #[] (fun _ => []) enc1 (cmpk k) := by
  unfold gk cmpk
  by_cases h : k = 2
  · rw [if_pos h, if_pos h]; exact same_ok
  · rw [if_neg h, if_neg h]; exact byK_ok
theorem all_k (k : Nat) : AllOk (decide ((k : Int) = 2)) (cmpk k) := by
  unfold cmpk
  by_cases h : k = 2
  · rw [if_pos h]; exact .inr ⟨decide_eq_true (by omega), rfl⟩
  · rw [if_neg h]; exact .inl ⟨decide_eq_false (by omega), rfl⟩
def SOk (hb : Nat → Nat) (k : Nat) (s : Slot) : Prop := LRep s.l s.sv s.Cl ∧ HL (gk k) (cmpk k) (hb k) s.l s.items s.came s.C0
def up {α : Type} (a : Nat → α) (k : Nat) (v : α) : Nat → α := fun j => if j = k then v else a j
theorem up_same {α : Type} (a : Nat → α) (k : Nat) (v : α) : up a k v k = v := if_pos rfl
theorem up_other {α : Type} (a : Nat → α) (k j : Nat) (v : α) (h : j ≠ k) : up a k v j = a j := if_neg h
def all3 (sl : Nat → Slot) : Chunks := (sl 0).C ++ ((sl 1).C ++ (sl 2).C)
def oth (sl : Nat → Slot) (k : Nat) : Chunks := if k = 0 then (sl 1).C ++ (sl 2).C else if k = 1 then (sl 0).C ++ (sl 2).C else (sl 0).C ++ (sl 1).C
theorem oth_up (sl : Nat → Slot) (k : Nat) (s : Slot) (hk : k < 3) : oth (up sl k s) k = oth sl k := by
  rcases (by omega : k = 0 ∨ k = 1 ∨ k = 2) with rfl | rfl | rfl <;> rfl
theorem perm3 (sl : Nat → Slot) (k : Nat) (hk : k < 3) (x y : Nat × Obj) : (x :: y :: oth sl k ++ (sl k).C).Perm (x :: y :: all3 sl) := by
  unfold oth all3
  rcases (by omega : k = 0 ∨ k = 1 ∨ k = 2) with rfl | rfl | rfl
  all_goals (simp only [if_true, show ¬ (1 : Nat) = 0 by decide, show ¬ (2 : Nat) = 0 by decide, show ¬ (2 : Nat) = 1 by decide, if_false])
  all_goals (classical exact List.perm_iff_count.2 fun q => by simp only [List.count_append, List.count_cons]; omega)
theorem perm3' (sl : Nat → Slot) (k : Nat) (hk : k < 3) (x y : Nat × Obj) (s : Slot) (C' : Chunks) (h : C' = s.C) : (x :: y :: all3 (up sl k s)).Perm (x :: y :: oth sl k ++ C') := by
  have := perm3 (up sl k s) k hk x y
  rw [oth_up sl k s hk, up_same] at this
  rw [h]; exact this.symm
def hs3 (hb : Nat → Nat) : List Value := [.pointer (some ⟨hb 0, 0, none⟩), .pointer (some ⟨hb 1, 0, none⟩), .pointer (some ⟨hb 2, 0, none⟩)]
def ls3 (sl : Nat → Slot) : List Value := [(sl 0).sv, (sl 1).sv, (sl 2).sv]
theorem hs3_at (hb : Nat → Nat) (k : Nat) (hk : k < 3) : (hs3 hb)[k]? = some (.pointer (some ⟨hb k, 0, none⟩)) := by
  rcases (by omega : k = 0 ∨ k = 1 ∨ k = 2) with rfl | rfl | rfl <;> rfl
theorem ls3_at (sl : Nat → Slot) (k : Nat) (hk : k < 3) : (ls3 sl)[k]? = some (sl k).sv := by
  rcases (by omega : k = 0 ∨ k = 1 ∨ k = 2) with rfl | rfl | rfl <;> rfl
theorem ls3_set (sl : Nat → Slot) (k : Nat) (hk : k < 3) (s : Slot) : SetAt s.sv (ls3 sl) (0 + k * 1) (ls3 (up sl k s)) := by
  have e : ls3 (up sl k s) = (ls3 sl).set (0 + k * 1) s.sv := by
    rcases (by omega : k = 0 ∨ k = 1 ∨ k = 2) with rfl | rfl | rfl <;> rfl
  rw [e]; exact .gen (by simp only [ls3, List.length_cons, List.length_nil]; omega)
theorem and3 (w : Int) : ∃ k : Nat, k ≤ 3 ∧ IntKind.i64.wrap (BitVec.ofInt IntKind.i64.bits w &&& BitVec.ofInt IntKind.i64.bits 3).toNat = (k : Int) := by
  refine ⟨(BitVec.ofInt 64 w).toNat % 4, by omega, ?_⟩
  have h : (BitVec.ofInt IntKind.i64.bits w &&& BitVec.ofInt IntKind.i64.bits 3).toNat = (BitVec.ofInt 64 w).toNat % 4 := by
    rw [BitVec.toNat_and]
    exact Nat.and_two_pow_sub_one_eq_mod _ 2
  rw [h]; exact wr_i64 (by omega) (by omega)
theorem old_turn {X : Cx} {C : Chunks} {w : World} {t : Tn} (hB : X.B0 = []) (h : At X.w0 t.b t.o (t.l.flatMap enc1)) (hs : St X.w0 X.B0 C w) : At w t.b t.o (t.l.flatMap enc1) := fun i u hi =>
  RowIn.old (C := []) (vs := t.l.flatMap enc1) (by rw [hB]; simp) (fun i v h' => h i v h') w (hs.sub .nil) i u hi

theorem turns_walk (ts : List Tn) (ad0 : Option Addr) (cap0 b0 o0 : Nat) (had : ts ≠ [] → ad0 = some ⟨b0, o0, none⟩) (hbulk : (ts.map fun t => t.l.length + 1).sum ≤ 1048576) :
    Ct Try.prog 4 [.slice ad0 ts.length cap0].toArray (fun w => At w b0 o0 (ts.flatMap rowT) ∧ ∀ t ∈ ts, t.ok w) [] (fun v C' => v = .bool true ∧ C' = []) := by
  refine ct_of_walk (fn := Try.f4) Try.func4 rfl rfl fun w0 hpre hst => ?_
  clear hst
  repeat refine G.seq ?_
  obtain ⟨hscript, htok⟩ := hpre
  refine G.region [.loc] (.take 0 .done) rfl ?_
  refine GP.take rfl rfl (Does.assign rfl ?_)
  refine GP.keep [(0, _), (2, _)] (.cons rfl (.cons rfl .nil)) ?_
  repeat refine G.seq ?_
  refine G.region [.gen, .gen, .gen, .loc, .alloc, .gen] (.take 0 (.take 1 (.take 2 (.take 3 (.take 4 (.take 5 .done)))))) rfl ?_
  refine GP.take rfl rfl (Does.callN (.cons rfl .nil) cb13 (new_ct 14 #[] #[]) (fun _ _ => trivial) ?_)
  rintro _ C10 ⟨h10, rfl, hr10⟩
  try simp only [List.nil_append]
  refine GP.take rfl rfl (Does.callN (.cons rfl .nil) cb13 (new_ct 14 #[] #[]) (fun _ _ => trivial) ?_)
  rintro _ C11 ⟨h11, rfl, hr11⟩
  try simp only [List.nil_append]
  refine GP.take rfl rfl (Does.callN (.cons rfl .nil) cb13 (newNil_ct) (fun _ _ => trivial) ?_)
  rintro _ C12 ⟨h12, rfl, hr12⟩
  try simp only [List.nil_append]
  refine GP.take rfl rfl (Does.buildA (r := [_, _, _]) (.cons rfl (.cons rfl (.cons rfl .nil))) ar33 zl33 rfl ?_)
  refine GP.take rfl rfl (Does.alloc zl33 fun b3 Nb3 hb3 nb3 => ?_)
  refine GP.take0 rfl (Does.storeA rfl rfl sz33 (by first | exact .head | exact .tail .head | exact .tail (.tail .head) | exact .tail (.tail (.tail .head)) | exact .tail (.tail (.tail (.tail .head))) | exact .tail (.tail (.tail (.tail (.tail .head))))) (.cons rfl .head (.cons rfl (.tail .head) (.cons rfl (.tail (.tail .head)) .nil))) ?_)
  refine GP.keep [(0, _), (2, _), (3, _)] (.cons rfl (.cons rfl (.cons rfl .nil))) ?_
  repeat refine G.seq ?_
  refine G.region [.alloc] (.take 0 .done) rfl ?_
  refine GP.take rfl rfl (Does.alloc zl35 fun b4 Nb4 hb4 nb4 => ?_)
  refine GP.keep [(0, _), (2, _), (3, _), (4, _)] (.cons rfl (.cons rfl (.cons rfl (.cons rfl .nil)))) ?_
  repeat refine G.seq ?_
  refine G.region [.loc] (.take 0 .done) rfl ?_
  refine GP.take rfl rfl (Does.assign rfl ?_)
  refine GP.keep [(0, _), (2, _), (3, _), (4, _), (5, _)] (.cons rfl (.cons rfl (.cons rfl (.cons rfl (.cons rfl .nil))))) ?_
  repeat refine G.seq ?_
  obtain ⟨hb, e0, e1, e2⟩ : ∃ hb : Nat → Nat, h10 = hb 0 ∧ h11 = hb 1 ∧ h12 = hb 2 := ⟨fun k => if k = 0 then h10 else if k = 1 then h11 else h12, rfl, rfl, rfl⟩
  subst e0 e1 e2
  obtain ⟨sl, hsl, hl0⟩ : ∃ sl : Nat → Slot, (∀ k, k < 3 → SOk hb k (sl k)) ∧ (∀ k, (sl k).l = [] ∧ (sl k).items = [] ∧ (sl k).came = 0) ∧ (sl 0).C = C10 ∧ (sl 1).C = C11 ∧ (sl 2).C = C12 ∧ ls3 sl = [.slice none 0 0, .slice none 0 0, .slice none 0 0] := by
    refine ⟨fun k => ⟨[], .slice none 0 0, [], [], 0, if k = 0 then C10 else if k = 1 then C11 else C12⟩, ?_, fun k => ⟨rfl, rfl, rfl⟩, rfl, rfl, rfl, rfl⟩
    intro k hk
    rcases (by omega : k = 0 ∨ k = 1 ∨ k = 2) with rfl | rfl | rfl
    · exact ⟨LRep.nil, hr10, hd_nil, Coming.nil⟩
    · exact ⟨LRep.nil, hr11, hd_nil, Coming.nil⟩
    · exact ⟨LRep.nil, hr12, hd_nil, Coming.nil⟩
  obtain ⟨hempty, ec0, ec1, ec2, els⟩ := hl0
  subst ec0 ec1 ec2
  clear hr10 hr11 hr12
  refine G.subP [] (A := (b3, cel 33 (hs3 hb)) :: (b4, cel 35 (ls3 sl)) :: all3 sl) (by rw [els]; unfold all3 hs3; classical exact List.perm_iff_count.2 fun q => by simp only [List.count_append, List.count_cons, List.count_nil]; omega) ?_
  clear els
  have hlen1 : ∀ k, k < 3 → (sl k).items = [] := fun k _ => (hempty k).2.1
  refine G.block ?_
  refine G.loop (S := Nat) (fun i => [(0, .slice ad0 ts.length cap0), (3, .pointer (some ⟨b3, 0, none⟩)), (4, .pointer (some ⟨b4, 0, none⟩)), (5, .int .i64 (i : Int))]) (fun _ => (b3, cel 33 (hs3 hb)) :: (b4, cel 35 (ls3 sl)) :: all3 sl) (fun i => i ≤ 3) (fun i => 3 - i) 0 (by omega) (.cons rfl (.cons rfl (.cons rfl (.cons rfl .nil)))) .all ?_
  intro i hi IH
  repeat refine G.seq ?_
  refine G.region [.loc, .loc] (.take 0 (.take 1 .done)) rfl ?_
  refine GP.take rfl rfl (Does.move rfl ?_)
  refine GP.take rfl rfl (Does.lss rfl rfl rfl ?_)
  refine GP.keep [(0, _), (3, _), (4, _), (5, _), (20, _)] (.cons rfl (.cons rfl (.cons rfl (.cons rfl (.cons rfl .nil))))) ?_
  repeat refine G.seq ?_
  refine G.cond rfl ?_ ?_
  case refine_1 =>
    intro hz
    have hi3 : i < 3 := by omega
    refine G.skip ?_
    repeat refine G.seq ?_
    refine G.block ?_
    repeat refine G.seq ?_
    refine G.region [.loc, .loc, .gen, .loc, .loc, .loc, .loc, .gen, .gen, .loc, .loc] (.take 0 (.take 1 (.take 2 (.take 3 (.take 4 (.take 5 (.take 6 (.take 7 (.take 8 (.take 9 (.take 10 .done))))))))))) rfl ?_
    refine GP.take rfl rfl (Does.move rfl ?_)
    refine GP.take rfl rfl (Does.indexAddrA i rfl rfl ar33 rfl hi3 ?_)
    refine GP.take rfl rfl (Does.load1 rfl ft28 (CellIn.own (l := hs3 hb) (.head _) (by rw [Nat.zero_add, Nat.mul_one]; exact hs3_at hb i hi3)) ?_)
    refine GP.take rfl rfl (Does.eqlNil rfl rfl Try.underlying28 gd28 rfl ?_)
    refine GP.take rfl rfl (Does.move rfl ?_)
    refine GP.takeG rfl rfl rfl rfl (Does.move rfl ?_)
    refine GP.takeG rfl rfl rfl rfl (Does.indexAddrA i rfl rfl ar33 rfl hi3 ?_)
    refine GP.takeG rfl rfl rfl rfl (Does.load1 rfl ft28 (CellIn.own (l := hs3 hb) (.head _) (by rw [Nat.zero_add, Nat.mul_one]; exact hs3_at hb i hi3)) ?_)
    refine GP.takeG rfl rfl rfl rfl (Does.callP ((b3, cel 33 (hs3 hb)) :: (b4, cel 35 (ls3 sl)) :: oth sl i ++ (sl i).Cl) (sl i).C0 (.cons rfl .nil) cb15 (by rw [List.append_assoc]; exact perm3 sl i hi3 _ _) (len1 (hb i) (sl i).items (sl i).came (sl i).C0 ((hsl i hi3).2.1)) (fun _ _ => trivial) ?_)
    rintro _ C9 ⟨rfl, hC9⟩
    subst hC9
    refine ⟨(b3, cel 33 (hs3 hb)) :: (b4, cel 35 (ls3 sl)) :: all3 sl, by rw [List.append_assoc]; exact (perm3 sl i hi3 _ _).symm, ?_⟩
    refine GP.takeG rfl rfl rfl rfl (Does.neq rfl rfl (show (!decide (((sl i).items.length : Int) = 0)) = false by rw [hlen1 i hi3]; rfl) ?_)
    refine GP.take rfl rfl (Does.pickF rfl rfl ?_)
    refine GP.keep [(0, _), (3, _), (4, _), (5, _), (33, _)] (.cons rfl (.cons rfl (.cons rfl (.cons rfl (.cons rfl .nil))))) ?_
    repeat refine G.seq ?_
    refine G.condF rfl ?_
    refine G.skip ?_
    refine G.inBlock ?_
    repeat refine G.seq ?_
    refine G.region [.loc, .loc, .loc] (.take 0 (.take 1 (.take 2 .done))) rfl ?_
    refine GP.take rfl rfl (Does.move rfl ?_)
    refine GP.take rfl rfl (Does.add rfl rfl (r := ((i + 1 : Nat) : Int)) (wrc_i64 (by omega) (by omega) (by omega)) ?_)
    refine GP.take rfl rfl (Does.assign rfl ?_)
    refine GP.keep [(0, _), (3, _), (4, _), (5, _)] (.cons rfl (.cons rfl (.cons rfl (.cons rfl .nil)))) ?_
    exact IH (i + 1) (by omega) (by omega)
  intro hz
  clear IH
  refine G.exit rfl ?_
  repeat refine G.seq ?_
  refine G.region [.loc] (.take 0 .done) rfl ?_
  refine GP.take rfl rfl (Does.assign rfl ?_)
  refine GP.keep [(0, _), (3, _), (4, _), (6, _)] (.cons rfl (.cons rfl (.cons rfl (.cons rfl .nil)))) ?_
  repeat refine G.seq ?_
  refine G.block ?_
  refine G.loop (S := (Nat → Slot) × Nat) (fun s => [(0, .slice ad0 ts.length cap0), (3, .pointer (some ⟨b3, 0, none⟩)), (4, .pointer (some ⟨b4, 0, none⟩)), (6, .int .i64 (s.2 : Int))]) (fun s => (b3, cel 33 (hs3 hb)) :: (b4, cel 35 (ls3 s.1)) :: all3 s.1) (fun s => s.2 ≤ ts.length ∧ (∀ k, k < 3 → SOk hb k (s.1 k)) ∧ ∀ k, (s.1 k).l.length ≤ tot ts s.2 ∧ (s.1 k).came ≤ tot ts s.2) (fun s => ts.length - s.2)
    (sl, 0) ⟨Nat.zero_le _, hsl, fun k => by simp only [(hempty k).1, (hempty k).2.2]; simp⟩ (.cons rfl (.cons rfl (.cons rfl (.cons rfl .nil)))) .all ?_
  rintro ⟨sl, i⟩ ⟨hi, hsl, hbd⟩ IH
  simp only at hi hsl hbd IH ⊢
  have htot := tot_le ts i
  have htl := len_le_sum ts
  repeat refine G.seq ?_
  refine G.region [.loc, .loc, .loc, .loc] (.take 0 (.take 1 (.take 2 (.take 3 .done)))) rfl ?_
  refine GP.take rfl rfl (Does.move rfl ?_)
  refine GP.take rfl rfl (Does.move rfl ?_)
  refine GP.take rfl rfl (Does.len rfl is27 ?_)
  refine GP.take rfl rfl (Does.lss rfl rfl rfl ?_)
  refine GP.keep [(0, _), (3, _), (4, _), (6, _), (37, _)] (.cons rfl (.cons rfl (.cons rfl (.cons rfl (.cons rfl .nil))))) ?_
  repeat refine G.seq ?_
  refine G.cond rfl ?_ ?_
  case refine_1 =>
    intro hz
    have hil : i < ts.length := by omega
    have hne : ts ≠ [] := by rintro rfl; simp at hil
    obtain rfl := had hne
    obtain ⟨t, ht⟩ : ∃ t, ts[i]? = some t := ⟨ts[i], by simp [hil]⟩
    have htm : t ∈ ts := List.mem_of_getElem? ht
    obtain ⟨htc, htad, htat⟩ := htok t htm
    have hts := tot_succ ts i t ht
    have htot1 := tot_le ts (i + 1)
    refine G.skip ?_
    repeat refine G.seq ?_
    refine G.block ?_
    repeat refine G.seq ?_
    obtain ⟨k, hk3, hkw⟩ := and3 t.which
    refine G.region [.loc, .loc, .loc, .loc, .gen, .loc, .loc] (.take 0 (.take 1 (.take 2 (.take 3 (.take 4 (.take 5 (.take 6 .done))))))) rfl ?_
    refine GP.take rfl rfl (Does.move rfl ?_)
    refine GP.take rfl rfl (Does.move rfl ?_)
    refine GP.take rfl rfl (Does.indexAddr i rfl rfl sl27 rfl hil ?_)
    refine GP.take rfl rfl (Does.fieldAddr rfl fo38_1 ?_)
    refine GP.take rfl rfl (Does.load1 rfl ft3 (fun w hs => turn_row (by simp) (fun i u h => hscript i u h) i t ht w hs 1 _ rfl) ?_)
    refine GP.take rfl rfl (Does.and rfl rfl hkw ?_)
    refine GP.take rfl rfl (Does.assign rfl ?_)
    refine GP.keep [(0, _), (3, _), (4, _), (6, _), (7, _)] (.cons rfl (.cons rfl (.cons rfl (.cons rfl (.cons rfl .nil))))) ?_
    repeat refine G.seq ?_
    refine G.region [.loc, .loc] (.take 0 (.take 1 .done)) rfl ?_
    refine GP.take rfl rfl (Does.move rfl ?_)
    refine GP.take rfl rfl (Does.eql rfl rfl rfl ?_)
    refine GP.keep [(0, _), (3, _), (4, _), (6, _), (7, _), (47, _)] (.cons rfl (.cons rfl (.cons rfl (.cons rfl (.cons rfl (.cons rfl .nil)))))) ?_
    repeat refine G.seq ?_
    refine G.cond rfl ?_ ?_
    · intro hk
      refine G.exit rfl ?_
      repeat refine G.seq ?_
      refine G.region [.loc, .loc, .loc] (.take 0 (.take 1 (.take 2 .done))) rfl ?_
      refine GP.take rfl rfl (Does.move rfl ?_)
      refine GP.take rfl rfl (Does.add rfl rfl (r := ((i + 1 : Nat) : Int)) (wrc_i64 (by omega) (by omega) (by omega)) ?_)
      refine GP.take rfl rfl (Does.assign rfl ?_)
      refine GP.keep [(0, _), (3, _), (4, _), (6, _)] (.cons rfl (.cons rfl (.cons rfl (.cons rfl .nil)))) ?_
      exact IH (sl, i + 1) ⟨by omega, hsl, fun k => by have := hbd k; simp only; omega⟩ (by simp only; omega)
    intro hk
    have hk : k < 3 := by omega
    obtain ⟨hlr, hhl⟩ := hsl k hk
    obtain ⟨hbl, hbc⟩ := hbd k
    refine G.skip ?_
    repeat refine G.seq ?_
    refine G.fact (p := t.l ≠ [] → t.b ∉ ((sl k).Cl ++ (sl k).C0).map Prod.fst) (fun w hst hne hm => ?_) fun hnot => ?_
    · have hlt := At.lt htat 0 (List.length_pos_iff.2 hne)
      obtain ⟨c, hc, he⟩ := List.mem_map.1 hm
      rcases hst.new c ((perm3 sl k hk _ _).mem_iff.1 (List.mem_append_right _ hc)) with h1 | h1
      · simp at h1
      · exact absurd hlt (by rw [← he]; exact Nat.not_lt.2 h1)
    refine G.draw [.loc, .loc, .load, .loc, .loc, .load, .loc, .loc, .loc, .load, .loc, .loc, .gen, .loc, .loc, .loc, .loc, .loc] (.take 0 (.take 1 (.take 3 (.take 4 (.take 6 (.take 7 (.take 8 (.take 10 (.take 11 (.take 2 (.take 5 (.take 9 (.alt 12 (.take 13 (.take 14 (.take 15 (.take 16 (.take 17 .done))))) .stop))))))))))))) (by exact mixed) (by kernel_rfl) ?_
    intro N hN0 hN
    refine GP.take rfl rfl (Does.move rfl ?_)
    refine GP.take rfl rfl (Does.indexAddrA k rfl rfl ar33 rfl hk ?_)
    refine GP.take rfl rfl (Does.move rfl ?_)
    refine GP.take rfl rfl (Does.indexAddrA k rfl rfl ar35 rfl hk ?_)
    refine GP.take rfl rfl (Does.move rfl ?_)
    refine GP.take rfl rfl (Does.move rfl ?_)
    refine GP.take rfl rfl (Does.indexAddr i rfl rfl sl27 rfl hil ?_)
    refine GP.take rfl rfl (Does.move rfl ?_)
    refine GP.take rfl rfl (Does.eql rfl rfl rfl ?_)
    refine GP.take rfl rfl (Does.load1N rfl ft28 (hN _ (.head _)) (CellIn.own (l := hs3 hb) (.head _) (by rw [Nat.zero_add, Nat.mul_one]; exact hs3_at hb k hk)) ?_)
    refine GP.take rfl rfl (Does.load1N rfl ft34 (hN _ (.tail _ (.head _))) (CellIn.own (l := ls3 sl) (.tail _ (.head _)) (by rw [Nat.zero_add, Nat.mul_one]; exact ls3_at sl k hk)) ?_)
    refine GP.take rfl rfl (Does.loadAN (vs := [.int .i64 t.kind, .int .i64 t.which, .slice t.ad t.l.length t.cap]) rfl ag38 (Nat.lt_of_lt_of_le (cell_lt (w := w0) (b := b0) (o := o0 + (i * 3 + 0)) (hscript _ _ (flat_get rowT 3 rowT_length ts i hil 0 _ rfl))) hN0) (turn_row (by simp) (fun i u h => hscript i u h) i t ht) ?_)
    refine GP.one ?_
    refine GP.take rfl rfl (Does.callP ((b3, cel 33 (hs3 hb)) :: (b4, cel 35 (ls3 sl)) :: oth sl k) ((sl k).Cl ++ (sl k).C0) (.cons rfl (.cons rfl (.cons rfl (.cons rfl .nil)))) cb16 (perm3 sl k hk _ _) (turn_ct (t := t) (ok_k k) (all_k k) (hb k) (sl k).l (sl k).sv (sl k).Cl (sl k).items (sl k).came (sl k).C0 hlr hhl (by omega) (by omega) htc htad hnot) (fun w hs => old_turn rfl htat hs) ?_)
    rintro _ _ ⟨l1, sv1, Cl1, items1, came1, C1, rfl, hl1, hh1, rfl, hn1, hn2, hn3⟩
    refine ⟨(b3, cel 33 (hs3 hb)) :: (b4, cel 35 (ls3 sl)) :: all3 (up sl k ⟨l1, sv1, Cl1, items1, came1, C1⟩), perm3' sl k hk _ _ ⟨l1, sv1, Cl1, items1, came1, C1⟩ _ rfl, ?_⟩
    refine GP.take rfl rfl (Does.move rfl ?_)
    refine GP.take rfl rfl (Does.extract rfl rfl ?_)
    refine GP.take rfl rfl (Does.extract rfl rfl ?_)
    refine GP.take rfl rfl (Does.assign rfl ?_)
    refine GP.take rfl rfl (Does.assign rfl ?_)
    refine GP.keep [(0, _), (3, _), (4, _), (6, _), (7, _), (8, _), (9, _)] (.cons rfl (.cons rfl (.cons rfl (.cons rfl (.cons rfl (.cons rfl (.cons rfl .nil))))))) ?_
    repeat refine G.seq ?_
    refine G.region [.loc, .loc] (.take 0 (.take 1 .done)) rfl ?_
    refine GP.take rfl rfl (Does.move rfl ?_)
    refine GP.take rfl rfl (Does.not rfl rfl ?_)
    refine GP.keep [(0, _), (3, _), (4, _), (6, _), (7, _), (8, _), (65, _)] (.cons rfl (.cons rfl (.cons rfl (.cons rfl (.cons rfl (.cons rfl (.cons rfl .nil))))))) ?_
    repeat refine G.seq ?_
    refine G.condF rfl ?_
    refine G.skip ?_
    repeat refine G.seq ?_
    refine G.region [.loc, .loc, .loc, .gen] (.take 0 (.take 1 (.take 2 (.take 3 .done)))) rfl ?_
    refine GP.take rfl rfl (Does.move rfl ?_)
    refine GP.take rfl rfl (Does.move rfl ?_)
    refine GP.take rfl rfl (Does.indexAddrA k rfl rfl ar35 rfl hk ?_)
    refine GP.take0 rfl (Does.store1 rfl rfl sz34 (by obtain ⟨_, _, _, e, -⟩ := hl1.form; rw [e]; rfl) (.tail .head) (ls3_set sl k hk ⟨l1, sv1, Cl1, items1, came1, C1⟩) ?_)
    refine GP.keep [(0, _), (3, _), (4, _), (6, _)] (.cons rfl (.cons rfl (.cons rfl (.cons rfl .nil)))) ?_
    refine G.inBlock ?_
    repeat refine G.seq ?_
    refine G.region [.loc, .loc, .loc] (.take 0 (.take 1 (.take 2 .done))) rfl ?_
    refine GP.take rfl rfl (Does.move rfl ?_)
    refine GP.take rfl rfl (Does.add rfl rfl (r := ((i + 1 : Nat) : Int)) (wrc_i64 (by omega) (by omega) (by omega)) ?_)
    refine GP.take rfl rfl (Does.assign rfl ?_)
    refine GP.keep [(0, _), (3, _), (4, _), (6, _)] (.cons rfl (.cons rfl (.cons rfl (.cons rfl .nil)))) ?_
    refine IH (up sl k ⟨l1, sv1, Cl1, items1, came1, C1⟩, i + 1) ⟨by simp only; omega, fun j hj => ?_, fun j => ?_⟩ (by simp only; omega)
    · by_cases hjk : j = k
      · subst hjk; simp only [up_same]; exact ⟨hl1, hh1⟩
      · simp only [up_other _ _ _ _ hjk]; exact hsl j hj
    · by_cases hjk : j = k
      · subst hjk; simp only [up_same]; omega
      · simp only [up_other _ _ _ _ hjk]; have := hbd j; omega
  intro hz
  clear IH
  have hbd2 : ∀ k, (sl k).l.length + (sl k).came ≤ 2097152 := fun k => by have := hbd k; omega
  refine G.exit rfl ?_
  repeat refine G.seq ?_
  refine G.region [.loc] (.take 0 .done) rfl ?_
  refine GP.take rfl rfl (Does.assign rfl ?_)
  refine GP.keep [(3, _), (4, _), (10, _)] (.cons rfl (.cons rfl (.cons rfl .nil))) ?_
  repeat refine G.seq ?_
  refine G.block ?_
  refine G.loop (S := (Nat → Slot) × Nat) (fun s => [(3, .pointer (some ⟨b3, 0, none⟩)), (4, .pointer (some ⟨b4, 0, none⟩)), (10, .int .i64 (s.2 : Int))]) (fun s => (b3, cel 33 (hs3 hb)) :: (b4, cel 35 (ls3 s.1)) :: all3 s.1) (fun s => s.2 ≤ 3 ∧ (∀ k, k < 3 → SOk hb k (s.1 k)) ∧ ∀ k, (s.1 k).l.length + (s.1 k).came ≤ 2097152) (fun s => 3 - s.2)
    (sl, 0) ⟨by simp only; omega, hsl, hbd2⟩ (.cons rfl (.cons rfl (.cons rfl .nil))) .all ?_
  clear hsl hbd hbd2 hz hi htot
  clear i
  rintro ⟨sl, k⟩ ⟨hk3, hsl, hbd⟩ IH
  simp only at hk3 hsl hbd IH ⊢
  repeat refine G.seq ?_
  refine G.region [.loc, .loc] (.take 0 (.take 1 .done)) rfl ?_
  refine GP.take rfl rfl (Does.move rfl ?_)
  refine GP.take rfl rfl (Does.lss rfl rfl rfl ?_)
  refine GP.keep [(3, _), (4, _), (10, _), (70, _)] (.cons rfl (.cons rfl (.cons rfl (.cons rfl .nil)))) ?_
  repeat refine G.seq ?_
  refine G.cond rfl ?_ ?_
  case refine_2 =>
    intro hz
    refine G.exit rfl ?_
    repeat refine G.seq ?_
    refine G.region [.loc] (.take 0 .done) rfl ?_
    refine GP.take rfl rfl (Does.assign rfl ?_)
    refine GP.keep [(2, _)] (.cons rfl .nil) ?_
    exact fin_ret (fn := Try.f4) Try.func4 (res1 rfl rfl) .nil ⟨rfl, rfl⟩
  intro hz
  have hk : k < 3 := by omega
  refine G.skip ?_
  repeat refine G.seq ?_
  refine G.block ?_
  repeat refine G.seq ?_
  refine G.join (S := Unit) (fun _ => [(3, .pointer (some ⟨b3, 0, none⟩)), (4, .pointer (some ⟨b4, 0, none⟩)), (10, .int .i64 (k : Int)), (81, .bool false)]) (fun _ => (b3, cel 33 (hs3 hb)) :: (b4, cel 35 (ls3 sl)) :: all3 sl) (fun _ => True) ?_ fun key => ?_
  case refine_2 =>
    have hsk := hsl k hk
    have hlk := hsk.2.2.2.length
    obtain ⟨ad, cap, lb, hsv, -, -, -, -⟩ := hsk.1.form
    refine G.draw [.loc, .loc, .load, .gen, .loc, .loc, .load, .loc, .loc] (.take 0 (.take 1 (.take 4 (.take 5 (.take 2 (.alt 3 (.take 6 (.take 7 (.take 8 .done))) (.alt 6 (.take 7 (.alt 3 (.take 8 .done) .stop)) .stop))))))) (by exact mixed) (by kernel_rfl) ?_
    intro N hN0 hN
    refine GP.take rfl rfl (Does.move rfl ?_)
    refine GP.take rfl rfl (Does.indexAddrA k rfl rfl ar33 rfl hk ?_)
    refine GP.take rfl rfl (Does.move rfl ?_)
    refine GP.take rfl rfl (Does.indexAddrA k rfl rfl ar35 rfl hk ?_)
    refine GP.take rfl rfl (Does.load1N rfl ft28 (hN _ (.head _)) (CellIn.own (l := hs3 hb) (.head _) (by rw [Nat.zero_add, Nat.mul_one]; exact hs3_at hb k hk)) ?_)
    refine GP.alt ?_ ?_
    · skip
      refine GP.take rfl rfl (Does.callP ((b3, cel 33 (hs3 hb)) :: (b4, cel 35 (ls3 sl)) :: oth sl k ++ (sl k).Cl) (sl k).C0 (.cons rfl .nil) cb15 (by rw [List.append_assoc]; exact perm3 sl k hk _ _) (len1 (hb k) (sl k).items (sl k).came (sl k).C0 ((hsl k hk).2.1)) (fun _ _ => trivial) ?_)
      rintro _ C9 ⟨rfl, hC9⟩
      subst hC9
      refine ⟨(b3, cel 33 (hs3 hb)) :: (b4, cel 35 (ls3 sl)) :: all3 sl, by rw [List.append_assoc]; exact (perm3 sl k hk _ _).symm, ?_⟩
      refine GP.take rfl rfl (Does.load1N rfl ft34 (hN _ (.tail _ (.head _))) (CellIn.own (l := ls3 sl) (.tail _ (.head _)) (by rw [Nat.zero_add, Nat.mul_one]; exact ls3_at sl k hk)) ?_)
      refine GP.take rfl rfl (Does.len (ad := ad) (len := (sl k).l.length) (cap := cap) (by rw [← hsv]; rfl) is34 ?_)
      refine GP.take rfl rfl (Does.neq rfl rfl (show (!decide (((sl k).items.length : Int) = ((sl k).l.length : Int))) = false by rw [hlk]; simp) ?_)
      refine GP.keep [(3, _), (4, _), (10, _), (81, _)] (.cons rfl (.cons rfl (.cons rfl (.cons rfl .nil)))) ?_
      exact key () trivial
    refine GP.alt ?_ ?_
    · skip
      refine GP.take rfl rfl (Does.load1N rfl ft34 (hN _ (.tail _ (.head _))) (CellIn.own (l := ls3 sl) (.tail _ (.head _)) (by rw [Nat.zero_add, Nat.mul_one]; exact ls3_at sl k hk)) ?_)
      refine GP.take rfl rfl (Does.len (ad := ad) (len := (sl k).l.length) (cap := cap) (by rw [← hsv]; rfl) is34 ?_)
      refine GP.one ?_
      refine GP.take rfl rfl (Does.callP ((b3, cel 33 (hs3 hb)) :: (b4, cel 35 (ls3 sl)) :: oth sl k ++ (sl k).Cl) (sl k).C0 (.cons rfl .nil) cb15 (by rw [List.append_assoc]; exact perm3 sl k hk _ _) (len1 (hb k) (sl k).items (sl k).came (sl k).C0 ((hsl k hk).2.1)) (fun _ _ => trivial) ?_)
      rintro _ C9 ⟨rfl, hC9⟩
      subst hC9
      refine ⟨(b3, cel 33 (hs3 hb)) :: (b4, cel 35 (ls3 sl)) :: all3 sl, by rw [List.append_assoc]; exact (perm3 sl k hk _ _).symm, ?_⟩
      refine GP.take rfl rfl (Does.neq rfl rfl (show (!decide (((sl k).items.length : Int) = ((sl k).l.length : Int))) = false by rw [hlk]; simp) ?_)
      refine GP.keep [(3, _), (4, _), (10, _), (81, _)] (.cons rfl (.cons rfl (.cons rfl (.cons rfl .nil)))) ?_
      exact key () trivial
    exact GP.stop
  rintro - -
  refine G.condF rfl ?_
  refine G.skip ?_
  repeat refine G.seq ?_
  refine G.block ?_
  refine G.loop (S := Slot) (fun s => [(3, .pointer (some ⟨b3, 0, none⟩)), (4, .pointer (some ⟨b4, 0, none⟩)), (10, .int .i64 (k : Int))]) (fun s => (b3, cel 33 (hs3 hb)) :: (b4, cel 35 (ls3 (up sl k s))) :: all3 (up sl k s)) (fun s => SOk hb k s ∧ s.l.length + s.came ≤ 2097152) (fun s => s.l.length)
    (sl k) ⟨hsl k hk, hbd k⟩ (.cons rfl (.cons rfl (.cons rfl .nil))) (by rw [show up sl k (sl k) = sl by funext j; unfold up; split; (rename_i e; rw [e]); rfl]; exact .all) ?_
  intro s0 hs0 IH2
  obtain ⟨hs0, hb0⟩ := hs0
  have hsl2 : ∀ j, j < 3 → SOk hb j (up sl k s0 j) := fun j hj => by
    by_cases hjk : j = k
    · subst hjk; rw [up_same]; exact hs0
    · rw [up_other _ _ _ _ hjk]; exact hsl j hj
  have hbd2 : ∀ j, (up sl k s0 j).l.length + (up sl k s0 j).came ≤ 2097152 := fun j => by
    by_cases hjk : j = k
    · subst hjk; rw [up_same]; exact hb0
    · rw [up_other _ _ _ _ hjk]; exact hbd j
  have hup : ∀ s, up (up sl k s0) k s = up sl k s := fun s => by funext j; unfold up; split <;> rfl
  have hat : up sl k s0 k = s0 := up_same _ _ _
  clear hsl hbd
  generalize hsl1 : up sl k s0 = sl1 at *
  have hsl := hsl2
  have hbd := hbd2
  obtain ⟨ad, cap, lb, hsv, -, -, -, -⟩ := hs0.1.form
  repeat refine G.seq ?_
  refine G.region [.loc, .loc, .gen, .loc, .loc] (.take 0 (.take 1 (.take 2 (.take 3 (.take 4 .done))))) rfl ?_
  refine GP.take rfl rfl (Does.move rfl ?_)
  refine GP.take rfl rfl (Does.indexAddrA k rfl rfl ar35 rfl hk ?_)
  refine GP.take rfl rfl (Does.load1 rfl ft34 (CellIn.own (l := ls3 sl1) (.tail _ (.head _)) (by rw [Nat.zero_add, Nat.mul_one]; exact ls3_at sl1 k hk)) ?_)
  refine GP.take rfl rfl (Does.len (ad := ad) (len := s0.l.length) (cap := cap) (by rw [← hsv, hat]; rfl) is34 ?_)
  refine GP.take rfl rfl (Does.gtr rfl rfl rfl ?_)
  refine GP.keep [(3, _), (4, _), (10, _), (86, _)] (.cons rfl (.cons rfl (.cons rfl (.cons rfl .nil)))) ?_
  repeat refine G.seq ?_
  refine G.cond rfl ?_ ?_
  case refine_1 =>
    intro hz
    refine G.skip ?_
    repeat refine G.seq ?_
    refine G.block ?_
    repeat refine G.seq ?_
    refine G.draw [.loc, .loc, .load, .loc, .loc, .load, .loc, .loc, .loc, .gen, .loc, .loc, .loc, .loc, .loc] (.take 0 (.take 1 (.take 3 (.take 4 (.take 6 (.take 7 (.take 8 (.take 2 (.take 5 (.alt 9 (.take 10 (.take 11 (.take 12 (.take 13 (.take 14 .done))))) .stop)))))))))) (by exact mixed) (by kernel_rfl) ?_
    intro N hN0 hN
    refine GP.take rfl rfl (Does.move rfl ?_)
    refine GP.take rfl rfl (Does.indexAddrA k rfl rfl ar33 rfl hk ?_)
    refine GP.take rfl rfl (Does.move rfl ?_)
    refine GP.take rfl rfl (Does.indexAddrA k rfl rfl ar35 rfl hk ?_)
    refine GP.take rfl rfl (Does.build (r := [_, _, _]) (.cons rfl .nil) sp38 zl38 rfl ?_)
    refine GP.take rfl rfl (Does.move rfl ?_)
    refine GP.take rfl rfl (Does.eql rfl rfl rfl ?_)
    refine GP.take rfl rfl (Does.load1N rfl ft28 (hN _ (.head _)) (CellIn.own (l := hs3 hb) (.head _) (by rw [Nat.zero_add, Nat.mul_one]; exact hs3_at hb k hk)) ?_)
    refine GP.take rfl rfl (Does.load1N rfl ft34 (hN _ (.tail _ (.head _))) (CellIn.own (l := ls3 sl1) (.tail _ (.head _)) (by rw [Nat.zero_add, Nat.mul_one]; exact ls3_at sl1 k hk)) ?_)
    refine GP.one ?_
    refine GP.take rfl rfl (Does.callP ((b3, cel 33 (hs3 hb)) :: (b4, cel 35 (ls3 sl1)) :: oth sl1 k) ((sl1 k).Cl ++ (sl1 k).C0) (.cons rfl (.cons rfl (.cons rfl (.cons rfl .nil)))) cb16 (perm3 sl1 k hk _ _) (turn_ct (t := (⟨3, 0, none, 0, 0, 0, []⟩ : Tn)) (ok_k k) (all_k k) (hb k) (sl1 k).l (sl1 k).sv (sl1 k).Cl (sl1 k).items (sl1 k).came (sl1 k).C0 (hsl k hk).1 (hsl k hk).2 (by have := hbd k; simp only [List.length_nil]; omega) (by have := hbd k; simp only [List.length_nil]; omega) (Nat.le_refl _) (fun h => absurd rfl h) (fun h => absurd rfl h)) (fun w hs i u hi => by simp at hi) ?_)
    rintro _ _ ⟨l1, sv1, Cl1, items1, came1, C1, rfl, hl1, hh1, rfl, hn1, hn2, hn3⟩
    refine ⟨(b3, cel 33 (hs3 hb)) :: (b4, cel 35 (ls3 sl1)) :: all3 (up sl1 k ⟨l1, sv1, Cl1, items1, came1, C1⟩), perm3' sl1 k hk _ _ ⟨l1, sv1, Cl1, items1, came1, C1⟩ _ rfl, ?_⟩
    refine GP.take rfl rfl (Does.move rfl ?_)
    refine GP.take rfl rfl (Does.extract rfl rfl ?_)
    refine GP.take rfl rfl (Does.extract rfl rfl ?_)
    refine GP.take rfl rfl (Does.assign rfl ?_)
    refine GP.take rfl rfl (Does.assign rfl ?_)
    refine GP.keep [(3, _), (4, _), (10, _), (11, _), (12, _)] (.cons rfl (.cons rfl (.cons rfl (.cons rfl (.cons rfl .nil))))) ?_
    repeat refine G.seq ?_
    refine G.region [.loc, .loc] (.take 0 (.take 1 .done)) rfl ?_
    refine GP.take rfl rfl (Does.move rfl ?_)
    refine GP.take rfl rfl (Does.not rfl rfl ?_)
    refine GP.keep [(3, _), (4, _), (10, _), (11, _), (101, _)] (.cons rfl (.cons rfl (.cons rfl (.cons rfl (.cons rfl .nil))))) ?_
    repeat refine G.seq ?_
    refine G.condF rfl ?_
    refine G.skip ?_
    repeat refine G.seq ?_
    refine G.region [.loc, .loc, .loc, .gen] (.take 0 (.take 1 (.take 2 (.take 3 .done)))) rfl ?_
    refine GP.take rfl rfl (Does.move rfl ?_)
    refine GP.take rfl rfl (Does.move rfl ?_)
    refine GP.take rfl rfl (Does.indexAddrA k rfl rfl ar35 rfl hk ?_)
    refine GP.take0 rfl (Does.store1 rfl rfl sz34 (by obtain ⟨_, _, _, e, -⟩ := hl1.form; rw [e]; rfl) (.tail .head) (ls3_set sl1 k hk ⟨l1, sv1, Cl1, items1, came1, C1⟩) ?_)
    refine GP.keep [(3, _), (4, _), (10, _)] (.cons rfl (.cons rfl (.cons rfl .nil))) ?_
    refine G.inBlock ?_
    have hn3' := hn3 rfl
    rw [hat] at hn1 hn2 hn3'
    rw [hup]
    exact IH2 ⟨l1, sv1, Cl1, items1, came1, C1⟩ ⟨⟨hl1, hh1⟩, by simp only [List.length_nil] at hn1 hn2 ⊢; omega⟩ (by simp only; omega)
  intro hz
  have hl0 : s0.l = [] := List.eq_nil_of_length_eq_zero (by omega)
  have hi0 : (sl1 k).items = [] := by
    rw [hat]; exact List.eq_nil_of_length_eq_zero (by rw [hs0.2.2.2.length, hl0]; rfl)
  refine G.exit rfl ?_
  repeat refine G.seq ?_
  refine G.region [.loc, .loc, .gen, .gen, .loc, .loc, .loc, .alloc, .gen, .loc] (.take 0 (.take 1 (.take 2 (.take 3 (.take 4 (.take 5 (.take 6 (.take 7 (.take 8 (.take 9 .done)))))))))) rfl ?_
  refine GP.take rfl rfl (Does.move rfl ?_)
  refine GP.take rfl rfl (Does.indexAddrA k rfl rfl ar33 rfl hk ?_)
  refine GP.take rfl rfl (Does.load1 rfl ft28 (CellIn.own (l := hs3 hb) (.head _) (by rw [Nat.zero_add, Nat.mul_one]; exact hs3_at hb k hk)) ?_)
  refine GP.take rfl rfl (Does.callP ((b3, cel 33 (hs3 hb)) :: (b4, cel 35 (ls3 sl1)) :: oth sl1 k ++ (sl1 k).Cl) ((sl1 k).C0 ++ []) (.cons rfl .nil) cb17 (by rw [List.append_assoc, List.append_nil]; exact perm3 sl1 k hk _ _) (pop1 (ok_k k) (hb k) (sl1 k).items (sl1 k).came (sl1 k).C0 ((hsl k hk).2.1) 0 (by rw [hi0]; simp)) (fun _ _ => trivial) ?_)
  rintro _ _ ⟨rfl, C1, hrep1, rfl⟩
  refine ⟨(b3, cel 33 (hs3 hb)) :: (b4, cel 35 (ls3 sl1)) :: all3 (up sl1 k ⟨(sl1 k).l, (sl1 k).sv, (sl1 k).Cl, (popF (cmpk k) (sl1 k).items).1, (sl1 k).came, C1⟩), by rw [List.append_nil, List.append_assoc]; exact perm3' sl1 k hk _ _ _ _ rfl, ?_⟩
  simp only [show (!(sl1 k).items.isEmpty) = false by rw [hi0]; rfl]
  refine GP.take rfl rfl (Does.move rfl ?_)
  refine GP.take rfl rfl (Does.extract rfl rfl ?_)
  refine GP.take rfl rfl (Does.extract rfl rfl ?_)
  refine GP.take rfl rfl (Does.alloc zl31 fun b13 Nb13 hb13 nb13 => ?_)
  refine GP.take0 rfl (Does.storeA rfl rfl sz31 (by first | exact .head | exact .tail .head | exact .tail (.tail .head) | exact .tail (.tail (.tail .head)) | exact .tail (.tail (.tail (.tail .head))) | exact .tail (.tail (.tail (.tail (.tail .head))))) (.cons rfl .head (.cons rfl (.tail .head) .nil)) ?_)
  refine GP.take rfl rfl (Does.assign rfl ?_)
  refine GP.keep [(3, _), (4, _), (10, _), (14, _)] (.cons rfl (.cons rfl (.cons rfl (.cons rfl .nil)))) ?_
  repeat refine G.seq ?_
  refine G.region [.loc] (.take 0 .done) rfl ?_
  refine GP.take rfl rfl (Does.move rfl ?_)
  refine GP.keep [(3, _), (4, _), (10, _), (112, _)] (.cons rfl (.cons rfl (.cons rfl (.cons rfl .nil)))) ?_
  repeat refine G.seq ?_
  refine G.condF rfl ?_
  refine G.skip ?_
  refine G.inBlock ?_
  repeat refine G.seq ?_
  refine G.region [.loc, .loc, .loc] (.take 0 (.take 1 (.take 2 .done))) rfl ?_
  refine GP.take rfl rfl (Does.move rfl ?_)
  refine GP.take rfl rfl (Does.add rfl rfl (r := ((k + 1 : Nat) : Int)) (wrc_i64 (by omega) (by omega) (by omega)) ?_)
  refine GP.take rfl rfl (Does.assign rfl ?_)
  refine GP.keep [(3, _), (4, _), (10, _)] (.cons rfl (.cons rfl (.cons rfl .nil))) ?_
  have hpi : (popF (cmpk k) (sl1 k).items).1 = (sl1 k).items := by rw [hi0]; rfl
  have hls : ls3 sl1 = ls3 (up sl1 k ⟨(sl1 k).l, (sl1 k).sv, (sl1 k).Cl, (popF (cmpk k) (sl1 k).items).1, (sl1 k).came, C1⟩) := by
    unfold ls3 up
    rcases (by omega : k = 0 ∨ k = 1 ∨ k = 2) with rfl | rfl | rfl <;> rfl
  rw [hls]
  refine (G.sub (IH (up sl1 k ⟨(sl1 k).l, (sl1 k).sv, (sl1 k).Cl, (popF (cmpk k) (sl1 k).items).1, (sl1 k).came, C1⟩, k + 1) ⟨by simp only; omega, fun j hj => ?_, fun j => ?_⟩ (by simp only; omega)) .split1)
  · by_cases hjk : j = k
    · subst hjk; simp only [up_same]
      exact ⟨(hsl j hj).1, hrep1, by rw [hpi]; exact (hsl j hj).2.2.1, by rw [hpi]; exact (hsl j hj).2.2.2⟩
    · simp only [up_other _ _ _ _ hjk]; exact hsl j hj
  · by_cases hjk : j = k
    · subst hjk; simp only [up_same]; exact hbd j
    · simp only [up_other _ _ _ _ hjk]; exact hbd j
set_option maxRecDepth 100000 in
theorem heapTurns_contract (H : Type) (enc : TypeId × Value → H) (W : World) (base : Nat) (args : Array Value) (ds gs : List (DataW H)) (before : List MemPlace)
    (hval : ∀ (j : Nat) t v, Try.f4.params[j]? = some t → args[j]? = some v → Value.okWide Try.prog W .any base t v)
    (hW : DataW.Whole enc Try.prog Try.f4.params.toList Rows.heapTurnsSpec.vars false W args.toList ds gs before) (hk : Rows.uptoSmall H (ds ++ gs) = true) :
    Calls Try.prog 4 args W fun e W' => ∃ v, e = .returned v ∧ Rows.heapTurnsSpec.post enc Try.prog Try.f4 false true false false W args v W' := by
  have hW0 := hW
  obtain ⟨p, q, hA, -, -, -, -⟩ := hW
  have hsm : Rows.uptoBulkAll (ds ++ gs) ≤ 1048576 := of_decide_eq_true hk
  obtain ⟨v, vs, d, ds', p1, q1, n, hargs, rfl, rfl, h1, h2⟩ := trodAll_split (t := 27) (ts := []) hA
  obtain ⟨rfl, rfl, rfl⟩ := trodAll_end h2
  obtain rfl : args = #[v] := by cases args; simpa using hargs
  obtain ⟨a0, len, cap, rfl⟩ := Go.WideShapes.okWide_slice Try.underlying27 (hval 0 27 _ rfl rfl)
  obtain ⟨l, ad, cap', b, o, e1, e2, e3, e4, e5, e6⟩ := inv_turns h1
  have e1' : [Value.slice a0 len cap] = [.slice ad l.length cap'] := e1
  simp only [List.cons.injEq, Value.slice.injEq, and_true] at e1'
  obtain ⟨rfl, rfl, rfl⟩ := e1'
  have hbd : Rows.uptoBulk d + Rows.uptoBulkAll gs ≤ 1048576 := hsm
  have e6' : (l.map fun t => t.l.length + 1).sum + 1 ≤ Rows.uptoBulk d := e6
  refine (turns_walk l a0 cap b o e3 (by omega) W (by simp) (by simp) ⟨e4, e5⟩).mono ?_
  rintro e W' ⟨_, rfl, C', ⟨rfl, rfl⟩, hst⟩
  exact ⟨_, rfl, law_post laid maps full (by decide +kernel) rfl (fun ds hds => by match ds, hds with | [d], _ => rfl) rfl Try.underlying4 hW0 hst.mods.below⟩
set_option maxRecDepth 100000 in
theorem heapTurns_lifted (os : Os) (started : os.Started) (H : Type) (enc : TypeId × Value → H) (F : Stop.Interp) :
    ReturnsInHanded {} Try.checked os 4 .any ((Rows.OpenSpec.upto Rows.heapTurnsSpec).pre6 enc Try.prog Try.f4 Rows.heapTurnsUptoRow.domain false) (((Rows.OpenSpec.upto Rows.heapTurnsSpec).at F).post enc Try.prog Try.f4 false true false false) := by
  refine returnsInHanded_of_cond (C := Try.checked) (s := Rows.OpenSpec.upto Rows.heapTurnsSpec) (k := Rows.uptoSmall) rfl own started (by kernel_rfl) Try.func4
    (OpenSpec.witness (enc := enc) (C := Try.checked) (s := Rows.OpenSpec.upto Rows.heapTurnsSpec) (k := Rows.uptoSmall) rfl false ⟨#[], #[.slice none 0 0], []⟩ 8 (by kernel_rfl) (by kernel_rfl) (by kernel_rfl)
      (x := ([.nil], [], [])) (by kernel_rfl) rfl (by kernel_rfl)) ?_
  intro W base args ds gs before hval hW _ hk _
  exact heapTurns_contract H enc W base args ds gs before hval hW hk

/-- THE STATEMENT. -/
theorem heapTurns_holds : Rows.HeapTurnsUptoSaid :=
  OpenClaim.holds_of_cond 4 Try.f4 rfl rfl rfl rfl rfl rfl rfl ⟨rfl, rfl, rfl, rfl, rfl⟩ rfl rfl rfl rfl rfl (by kernel_rfl) Try.func4 (by kernel_rfl)
    (of_decide_eq_true (by kernel_rfl)) (by unfold Func.isWrapper; first | (rw [if_pos (by decide +kernel)]; kernel_rfl) | (rw [if_neg (by decide +kernel)]; exact ⟨rfl, rfl⟩))
    (fun os started H enc _ F => heapTurns_lifted os started H enc F)

end Go.Proofs.Ytcgenmfnlocbbaa.T
