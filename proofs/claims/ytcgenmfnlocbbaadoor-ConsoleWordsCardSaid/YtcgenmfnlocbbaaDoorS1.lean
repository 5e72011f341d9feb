/- Strings in the small program logic: their length, a byte, a part, a sum, a compare; ranging over one; bytes to a string and back. Nothing is claimed of the program here. -/
import Derived.Test.YtcgenmfnlocbbaaDoorL7
import Derived.Laws.BytesString
import Derived.RangeFuncRecord
namespace Go.Lg

/-- a string's value, out of its bytes -/
def str (l : List UInt8) : Value := .string ⟨l.toArray⟩
theorem str_of (s : ByteArray) : ∃ l : List UInt8, Value.string s = str l ∧ s.size = l.length := ⟨s.data.toList, by cases s; simp [str], by cases s; simp [ByteArray.size]⟩
theorem str_inj {a b : List UInt8} (h : str a = str b) : a = b := by
  simp only [str, Value.string.injEq, ByteArray.mk.injEq] at h
  simpa using h
theorem ba_size (l : List UInt8) : (⟨l.toArray⟩ : ByteArray).size = l.length := by simp [ByteArray.size]
theorem ba_get (l : List UInt8) (i : Nat) : (⟨l.toArray⟩ : ByteArray)[i]? = l[i]? := by
  by_cases h : i < l.length
  · rw [getElem?_pos (⟨l.toArray⟩ : ByteArray) i (by rw [ba_size]; exact h), List.getElem?_eq_getElem h]
    rfl
  · rw [getElem?_neg (⟨l.toArray⟩ : ByteArray) i (by rw [ba_size]; exact h), List.getElem?_eq_none (by omega)]
theorem ba_extract (l : List UInt8) (a b : Nat) : (⟨l.toArray⟩ : ByteArray).extract a b = ⟨((l.take b).drop a).toArray⟩ := by
  apply ByteArray.ext
  rw [ByteArray.data_extract]
  simp [List.extract_eq_take_drop, List.drop_take]
theorem ba_append (a b : List UInt8) : (⟨a.toArray⟩ : ByteArray) ++ ⟨b.toArray⟩ = ⟨(a ++ b).toArray⟩ := by
  apply ByteArray.ext
  rw [ByteArray.data_append]
  simp
theorem ba_loop (bs : ByteArray) : ∀ (k i : Nat) (r : List UInt8), bs.size - i = k → ByteArray.toList.loop bs i r = r.reverse ++ bs.data.toList.drop i := by
  intro k
  induction k with
  | zero =>
    intro i r h
    rw [ByteArray.toList.loop, if_neg (by omega), List.drop_eq_nil_of_le (by have : bs.data.size = bs.size := rfl; rw [Array.length_toList]; omega), List.append_nil]
  | succ k ih =>
    intro i r h
    have hi : i < bs.size := by omega
    have hi2 : i < bs.data.toList.length := by have : bs.data.size = bs.size := rfl; rw [Array.length_toList]; omega
    rw [ByteArray.toList.loop, if_pos hi, ih (i + 1) _ (by omega), List.reverse_cons, List.append_assoc, List.drop_eq_getElem_cons hi2]
    congr 2
    simp only [ByteArray.get!]
    rw [getElem!_pos bs.data i (by simpa using hi2)]
    simp
theorem ba_toList (l : List UInt8) : (⟨l.toArray⟩ : ByteArray).toList = l := by
  unfold ByteArray.toList
  rw [ba_loop _ _ 0 [] rfl]
  simp

section
variable {X : Cx} {L L' : Env} {ds : List Deferred} {C C' : Chunks} {N : Nat} {κ : Value → Chunks → Prop} {x y z : Operand} {u v : Value} {n m : Int} {kd : IntKind}

theorem Does.lenS {T : TypeId} {l : List UInt8} (hx : ev L x = some (str l)) (hT : X.P.underlying T = some .string) (hk : κ (.int .i64 (l.length : Int)) C) : Does X N (.call ⟨.builtin .len, #[x], #[T]⟩) .loc L ds C κ :=
  .of_run (fun ope ho a w hs w' => by
    unfold execOp; rw [ho]
    simp [hs.ev hx, str, resolve, invoke, builtin, Builtin.len_, run_ul hT, goInt, ba_size]) hk
theorem Does.indexS {T : TypeId} {l : List UInt8} {b : UInt8} (i : Nat) (hx : ev L x = some (str l)) (hy : ev L y = some (.int kd n)) (hT : X.P.underlying T = some .string) (hn : n = (i : Int)) (hb : l[i]? = some b) (hk : κ (.int .u8 (b.toNat : Int)) C) : Does X N (.index T x y) .loc L ds C κ :=
  .of_run (fun ope ho a w hs w' => by
    unfold execOp; rw [ho]
    subst hn
    simp [hs.ev hx, hs.ev hy, str, Instr.index, asIntOf, run_ul hT, ba_get, hb]) hk
theorem Does.sliceSF {T : TypeId} {l : List UInt8} (i : Nat) (hx : ev L x = some (str l)) (hy : ev L y = some (.int kd n)) (hT : X.P.underlying T = some .string) (hn : n = (i : Int)) (hi : i ≤ l.length) (hk : κ (str (l.drop i)) C) : Does X N (.slice T x (some y) none none) .loc L ds C κ :=
  .of_run (fun ope ho a w hs w' => by
    unfold execOp; rw [ho]
    subst hn
    simp [hs.ev hx, hs.ev hy, str, Instr.sliceAt, Instr.slice, Instr.sliceBounds, Instr.sliceBound, asIntOf, run_ul hT, ba_size, hi, ba_extract]) hk
theorem Does.sliceSB {T : TypeId} {l : List UInt8} {k2 : IntKind} {n2 : Int} (i j : Nat) (hx : ev L x = some (str l)) (hy : ev L y = some (.int kd n)) (hz : ev L z = some (.int k2 n2)) (hT : X.P.underlying T = some .string) (hn : n = (i : Int)) (hn2 : n2 = (j : Int)) (hi : i ≤ j) (hj : j ≤ l.length) (hk : κ (str ((l.take j).drop i)) C) : Does X N (.slice T x (some y) (some z) none) .loc L ds C κ :=
  .of_run (fun ope ho a w hs w' => by
    unfold execOp; rw [ho]
    subst hn hn2
    simp [hs.ev hx, hs.ev hy, hs.ev hz, str, Instr.sliceAt, Instr.slice, Instr.sliceBounds, Instr.sliceBound, asIntOf, run_ul hT, ba_size, hi, hj, ba_extract]) hk
theorem Does.addS {T T' : TypeId} {a b : List UInt8} (hx : ev L x = some (str a)) (hy : ev L y = some (str b)) (hl : a.length + b.length ≤ 9223372036854775807) (hk : κ (str (a ++ b)) C) : Does X N (.binOp .add T x y T') .loc L ds C κ :=
  .of_run (fun ope ho ac w hs w' => by
    have hm : ¬ (((a.length + b.length : Nat) : Int) > IntKind.i64.max) := by
      have : IntKind.i64.max = 9223372036854775807 := by decide
      rw [this]; omega
    unfold execOp; rw [ho]
    simp only [hs.ev hx, hs.ev hy, str]
    simp only [eqGuard, binOp, Op.stringOp, ba_size, if_neg hm, ba_append]
    rfl) hk
theorem Does.eqS {T T' : TypeId} {a b : List UInt8} {t : Bool} (hx : ev L x = some (str a)) (hy : ev L y = some (str b)) (ht : decide (a = b) = t) (hk : κ (.bool t) C) : Does X N (.binOp .eql T x y T') .loc L ds C κ :=
  .of_run (fun ope ho ac w hs w' => by
    unfold execOp; rw [ho]
    simp only [hs.ev hx, hs.ev hy, str]
    have : (a == b) = t := by rw [← ht]; by_cases h : a = b <;> simp [h]
    simp [eqGuard, binOp, Op.stringOp, ba_toList, this]) hk
theorem Does.neS {T T' : TypeId} {a b : List UInt8} {t : Bool} (hx : ev L x = some (str a)) (hy : ev L y = some (str b)) (ht : (!decide (a = b)) = t) (hk : κ (.bool t) C) : Does X N (.binOp .neq T x y T') .loc L ds C κ :=
  .of_run (fun ope ho ac w hs w' => by
    unfold execOp; rw [ho]
    simp only [hs.ev hx, hs.ev hy, str]
    have : (!(a == b)) = t := by rw [← ht]; by_cases h : a = b <;> simp [h]
    simp [eqGuard, binOp, Op.stringOp, ba_toList, this]) hk

theorem St.put {w0 : World} {B0 : List Nat} {w : World} {b : Nat} {o o' : Obj} (h : St w0 B0 C w) (hu : Upd b o o' C C') : St w0 B0 C' (w.putObj b o') :=
  h.upd hu rfl rfl rfl (by simp [World.putObj]) (World.putObj_heap_same (h.lt hu.mem)) (fun k hk => World.putObj_heap_other hk)

/-- ranging over a string: the iterator -/
theorem Does.rangeS {T : TypeId} {l : List UInt8} (hx : ev L x = some (str l)) (hT : X.P.underlying T = some .string) (hk : ∀ b, κ (.pointer (some ⟨b, 0, none⟩)) ((b, .stringIter ⟨l.toArray⟩ 0) :: C)) : Does X N (.range T x) .gen L ds C κ := by
  intro ope ho a w hs hN
  have hrun : (execOp a.eval ope).run X.P w = .ok (.value (.pointer (some ⟨w.heap.size, 0, none⟩))) (w.alloc (.stringIter ⟨l.toArray⟩ 0)) := by
    unfold execOp; rw [ho]
    simp [hs.ev hx, str, Instr.range, run_ul hT, newObj, Sem.run, World.alloc_eq]
  simp only [opS, hrun]
  exact ⟨by show _ ≤ (w.heap.push _).size; simp; omega, _, hk _, hs.st.alloc _⟩
/-- a rune more -/
theorem Does.nextS {l : List UInt8} {b pos : Nat} (hx : ev L x = some (.pointer (some ⟨b, 0, none⟩))) (hp : pos < l.length) (hu : Upd b (.stringIter ⟨l.toArray⟩ pos) (.stringIter ⟨l.toArray⟩ (pos + (Utf8.decode ⟨l.toArray⟩ pos).2)) C C') (hk : κ (.tuple #[.bool true, .int .i64 (pos : Int), .int .i32 ((Utf8.decode ⟨l.toArray⟩ pos).1 : Int)]) C') : Does X N (.next x true) .gen L ds C κ := by
  intro ope ho a w hs hN
  have hm := hs.st.own _ hu.mem
  have hrun : (execOp a.eval ope).run X.P w = .ok (.value (.tuple #[.bool true, .int .i64 (pos : Int), .int .i32 ((Utf8.decode ⟨l.toArray⟩ pos).1 : Int)])) (w.putObj b (.stringIter ⟨l.toArray⟩ (pos + (Utf8.decode ⟨l.toArray⟩ pos).2))) := by
    unfold execOp; rw [ho]
    simp [hs.ev hx, Instr.next, getObj, setObj, Sem.run, hm, hp, ba_size, goInt, World.putObj]
  simp only [opS, hrun]
  exact ⟨by simp [World.putObj]; omega, _, hk, hs.st.put hu⟩
/-- no more -/
theorem Does.nextE {l : List UInt8} {b pos : Nat} (hx : ev L x = some (.pointer (some ⟨b, 0, none⟩))) (hp : l.length ≤ pos) (hm : (b, Obj.stringIter ⟨l.toArray⟩ pos) ∈ C) (hk : κ (.tuple #[.bool false]) C) : Does X N (.next x true) .gen L ds C κ := by
  intro ope ho a w hs hN
  have hm := hs.st.own _ hm
  have hrun : (execOp a.eval ope).run X.P w = .ok (.value (.tuple #[.bool false])) w := by
    unfold execOp; rw [ho]
    simp [hs.ev hx, Instr.next, getObj, Sem.run, hm, ba_size, show ¬ pos < l.length by omega]
  simp only [opS, hrun]
  exact ⟨hN, _, hk, hs.st⟩
/-- bytes, as cells -/
def rowU (b : UInt8) : List Value := [.int .u8 (b.toNat : Int)]
theorem rowU_length (b : UInt8) : (rowU b).length = 1 := rfl
theorem rowU_one (b : UInt8) : ∀ v ∈ rowU b, oneC v = true := by intro v hv; simp [rowU] at hv; rw [hv]; rfl
theorem rowU_map (l : List UInt8) : l.flatMap rowU = (l.map fun b => (b.toNat : Int)).map (Value.int .u8) := by
  induction l with
  | nil => rfl
  | cons b l ih => rw [List.flatMap_cons, ih]; rfl
theorem foldl_push (l : List UInt8) : ∀ s : List UInt8, ((l.map fun b => (b.toNat : Int)).foldl (fun (r : ByteArray) (n : Int) => r.push (UInt8.ofNat n.toNat)) ⟨s.toArray⟩) = ⟨(s ++ l).toArray⟩ := by
  induction l with
  | nil => intro s; simp
  | cons b l ih =>
    intro s
    simp only [List.map_cons, List.foldl_cons]
    have : (⟨s.toArray⟩ : ByteArray).push (UInt8.ofNat ((b.toNat : Int)).toNat) = ⟨(s ++ [b]).toArray⟩ := by
      simp [ByteArray.push]
    rw [this, ih]
    simp
/-- string(bytes) -/
theorem Does.strOfN {S T e : TypeId} {l : List UInt8} {bb bo cap : Nat} (hx : ev L x = some (.slice (some ⟨bb, bo, none⟩) l.length cap)) (hS : X.P.underlying S = some (.slice e)) (he : X.P.underlying e = some (.int .u8)) (hT : X.P.underlying T = some .string) (hr : RowIn X C bb bo (l.flatMap rowU)) (hk : κ (str l) C) : Does X N (.convert S T x) .gen L ds C κ := by
  intro ope ho a w hs hN
  have hload := hr.load hs.st
  rw [flat_length rowU 1 rowU_length, Nat.mul_one, rowU_map] at hload
  have hrun : (execOp a.eval ope).run X.P w = .ok (.value (str l)) w := by
    unfold execOp; rw [ho]
    have h1 := run_convert_bytes_string (P := X.P) w S T e (some ⟨bb, bo, none⟩) l.length cap hS he hT
    have h2 := run_bytesToString (P := X.P) w ⟨bb, bo, none⟩ l.length cap _ hload
    have h3 := foldl_push l []
    simp only [List.nil_append] at h3
    have h4 : (ByteArray.empty) = ⟨([] : List UInt8).toArray⟩ := rfl
    rw [h4, h3] at h2
    rw [h2] at h1
    simp [hs.ev hx, h1, str]
  simp only [opS, hrun]
  exact ⟨hN, _, hk, hs.st⟩
theorem Does.strOfNil {S T e : TypeId} {n cap : Nat} (hx : ev L x = some (.slice none n cap)) (hS : X.P.underlying S = some (.slice e)) (he : X.P.underlying e = some (.int .u8)) (hT : X.P.underlying T = some .string) (hk : κ (str []) C) : Does X N (.convert S T x) .gen L ds C κ := by
  intro ope ho a w hs hN
  have hrun : (execOp a.eval ope).run X.P w = .ok (.value (str [])) w := by
    unfold execOp; rw [ho]
    have h1 := run_convert_bytes_string (P := X.P) w S T e none n cap hS he hT
    have h2 : (Conv.bytesToString (.slice none n cap)).run X.P w = .ok (str []) w := rfl
    rw [h2] at h1
    simp [hs.ev hx, h1]
  simp only [opS, hrun]
  exact ⟨hN, _, hk, hs.st⟩
end
end Go.Lg
