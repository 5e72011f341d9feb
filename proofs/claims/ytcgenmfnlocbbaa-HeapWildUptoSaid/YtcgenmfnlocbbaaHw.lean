/- 'HeapWild': with a compare that is no order at all every call ends, each thing comes out once, and no more is compared than the document says. For every keys, table and n of at most 1048576 values together. -/
import Derived.Test.YtcgenmfnlocbbaaRows
import Derived.Test.YtcgenmfnlocbbaaHv
namespace Go.Proofs.Ytcgenmfnlocbbaa.T
open Go.Lg Go.Hp Go.RowKit
theorem gd28 : Try.prog.eqGuardType Try.prog.depth 28 = false := by kernel_rfl
theorem zl3 : zeroL Try.prog 3 = some [.int .i64 0] := by kernel_rfl
theorem own : ownKnob Try.prog.godebug = none := by kernel_rfl
theorem laid : laidOutB Try.prog = true := by kernel_rfl
theorem maps : mapsRowed Try.prog = true := by kernel_rfl
theorem full : ∀ t e, t < Try.prog.types.size → Try.prog.underlying t = some (.slice e) → 0 < Try.prog.cellsOf e := slices_full_of Try.prog (by kernel_rfl)

theorem wrap0 : IntKind.i64.wrap ((0 : Nat) : Int) = 0 := rfl
theorem RowIn.lay {X : Cx} {C Et : Chunks} {b o : Nat} {vs : List Value} (hB : X.B0 = Et.map Prod.fst) (hown : ∀ c ∈ Et, X.w0.heap[c.1]? = some c.2) (hC : ∀ c ∈ Et, c ∈ C) (h : ∀ i v, vs[i]? = some v → X.w0.cell? ⟨b, o + i, none⟩ = some v) : RowIn X C b o vs := by
  by_cases hb : b ∈ X.B0
  · rw [hB] at hb
    obtain ⟨c, hc, rfl⟩ := List.mem_map.1 hb
    intro w hs i v hi
    have h1 := h i v hi
    have h2 := hs.own c (hC c hc)
    rw [← hown c hc] at h2
    simp only [World.cell?, h2] at h1 ⊢
    exact h1
  · exact RowIn.old hb h
/-- things that bear their number -/
def Num (inn : List (Int × Int)) : Prop := ∀ (j : Nat) (x : Int × Int), inn[j]? = some x → x.2 = (j : Int)
theorem Num.snoc {inn : List (Int × Int)} (h : Num inn) {n : Nat} (hn : inn.length = n) (k : Int) : Num (inn ++ [(k, (n : Int))]) := by
  subst hn
  intro j x hj
  rcases Nat.lt_or_ge j inn.length with hl | hl
  · rw [List.getElem?_append_left hl] at hj; exact h j x hj
  · rw [List.getElem?_append_right hl] at hj
    rcases Nat.eq_or_lt_of_le hl with he | he
    · rw [← he] at hj ⊢
      simp at hj
      rw [← hj]
    · rw [List.getElem?_eq_none (by simp; omega)] at hj; cases hj
theorem once_of {inn : List (Int × Int)} (hn : Num inn) (L R : List ((Int × Int) × Nat)) (hp : (L ++ R).Perm (inn.zipIdx 0)) : Once inn (L.map (·.1)) := by
  have hL : ∀ x ∈ L, inn[x.2]? = some x.1 ∧ x.1.2 = (x.2 : Int) := fun x hx => by
    have h1 := hp.mem_iff.1 (List.mem_append_left R hx)
    have h2 := List.mem_zipIdx_iff_getElem?.1 h1
    exact ⟨h2, hn _ _ h2⟩
  refine ⟨fun x hx => ?_, ?_⟩
  · obtain ⟨y, hy, rfl⟩ := List.mem_map.1 hx
    exact ⟨y.2, (hL y hy).2, (hL y hy).1⟩
  · have hs : (L.map (·.2)).Nodup := by
      have h1 : ((inn.zipIdx 0).map (·.2)).Nodup := by rw [List.zipIdx_map_snd]; exact List.nodup_range'
      have h2 := ((hp.map (·.2)).nodup_iff).2 h1
      rw [List.map_append] at h2
      exact (List.nodup_append.1 h2).1
    have he : (L.map (·.1)).map (·.2) = (L.map (·.2)).map (fun n : Nat => (n : Int)) := by
      rw [List.map_map, List.map_map]
      exact List.map_congr_left fun x hx => (hL x hx).2
    rw [he]
    exact List.Pairwise.map _ (fun a b h => fun e => h (by omega)) hs
theorem once_pops {inn : List (Int × Int)} (hn : Num inn) (cmp : Int × Int → Int × Int → Int) (k : Nat) (hk : (pushF cmp [] 0 inn).1.length = k) : Once inn (popsF cmp k (pushF cmp [] 0 inn).1).1 := by
  rw [popsF_map]
  refine once_of hn _ [] ?_
  rw [List.append_nil]
  exact (popsI_perm cmp _ _ hk).trans (by simpa using pushF_perm cmp inn [] 0)
theorem once_sort {inn : List (Int × Int)} (hn : Num inn) (cmp : Int × Int → Int × Int → Int) : Once inn (sortF cmp inn) := by
  rw [sortF_map]
  exact once_of hn _ [] (by rw [List.append_nil]; exact sortI_perm cmp inn)
theorem once_least {inn : List (Int × Int)} (hn : Num inn) (cmp : Int × Int → Int × Int → Int) (m : Nat) (hm : m ≤ inn.length) : Once inn (leastF cmp inn m) := by
  rcases Nat.eq_zero_or_pos m with rfl | hpos
  · exact once_of hn [] (inn.zipIdx 0) (List.Perm.refl _)
  obtain ⟨R, hR⟩ := ls_perm cmp m hpos inn inn.length (Nat.le_refl _)
  rw [List.take_of_length_le (by simp)] at hR
  have hlen : (lsRun cmp m inn inn.length).items.length = m := by rw [(lsRun_length cmp m hpos inn inn.length).1]; omega
  have hp := popsI_perm (cmpL cmp) m _ hlen
  have := once_of hn ((popsI (cmpL cmp) m (lsRun cmp m inn inn.length).items).map (·.1)).reverse R ((((List.reverse_perm _).trans (hp.map _)).append_right R).trans hR)
  unfold leastF
  rw [popsF_map]
  simpa using this
structure WS where
  inn : List (Int × Int)
  s10 : Value
  C10 : Chunks
  i : Nat
structure WP where
  items : List ((Int × Int) × Nat)
  C0 : Chunks
  out : List (Int × Int)
  s12 : Value
  C12 : Chunks
  i : Nat
  c : Nat
theorem wild_walk (ks : List Int) (ad : Option Addr) (cap b o : Nat) (had : ks ≠ [] → ad = some ⟨b, o, none⟩) (T : List Int) (ad1 : Option Addr) (cap1 b1 o1 : Nat) (had1 : T ≠ [] → ad1 = some ⟨b1, o1, none⟩) (n : Int) (Et : Chunks) (hT : TabIn T b1 o1 Et) (hbulk : ks.length + T.length ≤ 1048576) :
    Ct Try.prog 8 [.slice ad ks.length cap, .slice ad1 T.length cap1, .int .i64 n].toArray (fun w => At w b o (ks.flatMap (fun x => [Value.int .i64 x]))) Et (fun v C' => v = .bool true ∧ C' = Et) := by
  refine ct_of_walk (fn := Try.f8) Try.func8 rfl rfl fun w0 hks hst => ?_
  have hown := hst.own
  clear hst
  have hwok := fun cb tb => wild_ok cb tb T ad1 cap1 b1 o1 Et had1 hT (by omega)
  obtain ⟨cmp, hcmp⟩ : ∃ cmp, cmpW T = cmp := ⟨_, rfl⟩
  rw [hcmp] at hwok
  obtain ⟨TV, hTV⟩ : ∃ TV, Value.slice ad1 T.length cap1 = TV := ⟨_, rfl⟩
  have hTV1 : oneC TV = true := by rw [← hTV]; rfl
  have hTVc : TV.cells = #[TV] := by rw [← hTV]; rfl
  rw [hTV] at hwok ⊢
  clear hcmp hT had1
  repeat refine G.seq ?_
  refine G.region [.alloc, .loc] (.take 0 (.take 1 .done)) rfl ?_
  refine GP.take rfl rfl (Does.box (T := 48) rfl hTVc fun b4 N4 h4 n4 => ?_)
  refine GP.take rfl rfl (Does.assign rfl ?_)
  refine GP.keep [(0, _), (2, _), (4, _)] (.cons rfl (.cons rfl (.cons rfl .nil))) ?_
  repeat refine G.seq ?_
  refine G.region [.alloc, .gen] (.take 0 (.take 1 .done)) rfl ?_
  refine GP.take rfl rfl (Does.alloc zl3 fun b7 Nb7 hb7 nb7 => ?_)
  refine GP.take0 rfl (Does.store1 rfl rfl sz3 rfl (by first | exact .head | exact .tail .head | exact .tail (.tail .head) | exact .tail (.tail (.tail .head)) | exact .tail (.tail (.tail (.tail .head))) | exact .tail (.tail (.tail (.tail (.tail .head))))) (by first | exact .head | exact .tail .head | exact .tail (.tail .head) | exact .tail (.tail (.tail .head))) ?_)
  refine GP.keep [(0, _), (2, _), (4, _), (7, _)] (.cons rfl (.cons rfl (.cons rfl (.cons rfl .nil)))) ?_
  repeat refine G.seq ?_
  refine G.region [.loc, .loc] (.take 0 (.take 1 .done)) rfl ?_
  refine GP.take rfl rfl (Does.makeFunc .nil (.cons rfl (.cons rfl .nil)) ?_)
  refine GP.take rfl rfl (Does.assign rfl ?_)
  refine GP.keep [(0, _), (2, _), (7, _), (8, _)] (.cons rfl (.cons rfl (.cons rfl (.cons rfl .nil)))) ?_
  repeat refine G.seq ?_
  refine G.region [.loc, .gen, .loc] (.take 0 (.take 1 (.take 2 .done))) rfl ?_
  refine GP.take rfl rfl (Does.move rfl ?_)
  refine GP.take rfl rfl (Does.callN (.cons rfl .nil) cb13 (new_ct 32 #[] #[.pointer (some ⟨b7, 0, none⟩), .pointer (some ⟨b4, 0, none⟩)]) (fun _ _ => trivial) ?_)
  rintro _ C0 ⟨hb, rfl, hrep⟩
  refine GP.take rfl rfl (Does.assign rfl ?_)
  refine GP.keep [(0, _), (2, _), (7, _), (8, _), (9, _)] (.cons rfl (.cons rfl (.cons rfl (.cons rfl (.cons rfl .nil))))) ?_
  repeat refine G.seq ?_
  refine G.region [.loc, .loc] (.take 0 (.take 1 .done)) rfl ?_
  refine GP.take rfl rfl (Does.move rfl ?_)
  refine GP.take rfl rfl (Does.eqlNil rfl rfl Try.underlying28 gd28 rfl ?_)
  refine GP.keep [(0, _), (2, _), (7, _), (8, _), (9, _), (25, _)] (.cons rfl (.cons rfl (.cons rfl (.cons rfl (.cons rfl (.cons rfl .nil)))))) ?_
  repeat refine G.seq ?_
  refine G.condF rfl ?_
  refine G.skip ?_
  repeat refine G.seq ?_
  refine G.region [.loc] (.take 0 .done) rfl ?_
  refine GP.take rfl rfl (Does.assign rfl ?_)
  refine GP.keep [(0, _), (2, _), (7, _), (8, _), (9, _), (10, _)] (.cons rfl (.cons rfl (.cons rfl (.cons rfl (.cons rfl (.cons rfl .nil)))))) ?_
  repeat refine G.seq ?_
  refine G.region [.loc] (.take 0 .done) rfl ?_
  refine GP.take rfl rfl (Does.assign rfl ?_)
  refine GP.keep [(0, _), (2, _), (7, _), (8, _), (9, _), (10, _), (11, _)] (.cons rfl (.cons rfl (.cons rfl (.cons rfl (.cons rfl (.cons rfl (.cons rfl .nil))))))) ?_
  repeat refine G.seq ?_
  have hwc := hwok b7 b4
  clear hwok
  refine G.block ?_
  refine G.dropP [] (A := (b7, cel 3 [.int .i64 0]) :: (b4, cel 48 [TV]) :: (Et ++ ([] ++ C0))) (by classical exact List.perm_iff_count.2 fun q => by simp only [List.nil_append, List.cons_append, List.count_append, List.count_cons, List.count_nil] <;> omega) ?_
  refine G.loop (S := WS) (fun s => [(0, .slice ad ks.length cap), (2, .int .i64 n), (7, .pointer (some ⟨b7, 0, none⟩)), (8, .func (.func 32) #[] #[.pointer (some ⟨b7, 0, none⟩), .pointer (some ⟨b4, 0, none⟩)]), (9, .pointer (some ⟨hb, 0, none⟩)), (10, s.s10), (11, .int .i64 (s.i : Int))]) (fun s => (b7, cel 3 [.int .i64 0]) :: (b4, cel 48 [TV]) :: (Et ++ (s.C10 ++ C0)))
    (fun s => Num s.inn ∧ LRep s.inn s.s10 s.C10 ∧ s.inn.length = s.i ∧ s.i ≤ ks.length) (fun s => ks.length - s.i)
    ⟨[], _, [], 0⟩ ⟨fun j x h => by simp at h, LRep.nil, rfl, Nat.zero_le _⟩ (.cons rfl (.cons rfl (.cons rfl (.cons rfl (.cons rfl (.cons rfl (.cons rfl .nil))))))) .all ?_
  rintro ⟨inn, s10, C10, i⟩ ⟨hnum, h10, hil, hi⟩ IH
  simp only at hnum h10 hil hi IH ⊢
  repeat refine G.seq ?_
  refine G.region [.loc, .loc, .loc, .loc] (.take 0 (.take 1 (.take 2 (.take 3 .done)))) rfl ?_
  refine GP.take rfl rfl (Does.move rfl ?_)
  refine GP.take rfl rfl (Does.move rfl ?_)
  refine GP.take rfl rfl (Does.len rfl is48 ?_)
  refine GP.take rfl rfl (Does.lss rfl rfl rfl ?_)
  refine GP.keep [(0, _), (2, _), (7, _), (8, _), (9, _), (10, _), (11, _), (29, _)] (.cons rfl (.cons rfl (.cons rfl (.cons rfl (.cons rfl (.cons rfl (.cons rfl (.cons rfl .nil)))))))) ?_
  repeat refine G.seq ?_
  refine G.cond rfl ?_ ?_
  case refine_1 =>
    intro hz
    have hik : i < ks.length := by omega
    have hne : ks ≠ [] := by rintro rfl; simp at hik
    obtain rfl := had hne
    refine G.skip ?_
    repeat refine G.seq ?_
    refine G.block ?_
    repeat refine G.seq ?_
    refine G.region [.loc, .loc, .loc, .loc, .gen, .loc, .loc, .alloc, .gen, .loc] (.take 0 (.take 1 (.take 2 (.take 3 (.take 4 (.take 5 (.take 6 (.take 7 (.take 8 (.take 9 .done)))))))))) rfl ?_
    refine GP.take rfl rfl (Does.move rfl ?_)
    refine GP.take rfl rfl (Does.move rfl ?_)
    refine GP.take rfl rfl (Does.move rfl ?_)
    refine GP.take rfl rfl (Does.indexAddr i rfl rfl sl48 rfl hik ?_)
    refine GP.take rfl rfl (Does.load1 rfl ft3 (fun w hs => RowIn.lay (X := cxF Try.prog 8 Try.f8.ntmps w0 (List.map Prod.fst Et) fun v C' => v = .bool true ∧ C' = Et) (Et := Et) rfl hown (fun c hc => by simp only [List.mem_append, List.mem_cons, hc, or_true, true_or]) hks w hs (i * 1 + 0) _ (flat_get (fun x => [Value.int .i64 x]) 1 (fun _ => rfl) ks i hik 0 _ rfl)) ?_)
    refine GP.take rfl rfl (Does.move rfl ?_)
    refine GP.take rfl rfl (Does.build (r := [_, _]) (.cons rfl (.cons rfl .nil)) sp31 zl31 rfl ?_)
    refine GP.take rfl rfl (Does.buildSlice (r := [_, _]) (.cons rfl .nil) sl34 zl31 (by decide) rfl fun b39 N39 h39 n39 => ?_)
    refine GP.take rfl rfl (Does.appendT rfl (l := inn) (xs := [(ks[i], (i : Int))]) (mc := 1) ((b39, cel 31 [.int .i64 ks[i], .int .i64 (i : Int)]) :: (b7, cel 3 [.int .i64 0]) :: (b4, cel 48 [TV]) :: Et) C10 C0 rfl rfl rfl h10 (fun _ => ⟨b39, 0, rfl, RowIn.own (.head _) rfl⟩) (by simp only [List.length_cons, List.length_nil]; omega) ?_)
    intro s10n C10n h10n
    refine GP.take rfl rfl (Does.assign rfl ?_)
    refine GP.keep [(0, _), (2, _), (7, _), (8, _), (9, _), (10, _), (11, _)] (.cons rfl (.cons rfl (.cons rfl (.cons rfl (.cons rfl (.cons rfl (.cons rfl .nil))))))) ?_
    refine G.dropP [(b39, cel 31 [.int .i64 ks[i], .int .i64 (i : Int)])] (A := (b7, cel 3 [.int .i64 0]) :: (b4, cel 48 [TV]) :: (Et ++ (C10n ++ C0))) (by classical exact List.perm_iff_count.2 fun q => by simp only [List.cons_append, List.count_append, List.count_cons, List.count_nil] <;> omega) ?_
    refine G.inBlock ?_
    repeat refine G.seq ?_
    refine G.region [.loc, .loc, .loc] (.take 0 (.take 1 (.take 2 .done))) rfl ?_
    refine GP.take rfl rfl (Does.move rfl ?_)
    refine GP.take rfl rfl (Does.add rfl rfl (r := ((i + 1 : Nat) : Int)) (wrc_i64 (by omega) (by omega) (by omega)) ?_)
    refine GP.take rfl rfl (Does.assign rfl ?_)
    refine GP.keep [(0, _), (2, _), (7, _), (8, _), (9, _), (10, _), (11, _)] (.cons rfl (.cons rfl (.cons rfl (.cons rfl (.cons rfl (.cons rfl (.cons rfl .nil))))))) ?_
    exact IH ⟨inn ++ [(ks[i], (i : Int))], s10n, C10n, i + 1⟩ ⟨hnum.snoc hil _, h10n, by simp [hil], by simp only; omega⟩ (by simp only; omega)
  intro hz
  clear IH
  refine G.exit rfl ?_
  repeat refine G.seq ?_
  have hib : inn.length ≤ 1048576 := by omega
  obtain ⟨ad10, cap10, lb10, hs10, had10, -, hmem10, hrow10⟩ := h10.form
  subst hs10
  obtain ⟨L, hL⟩ : ∃ L, inn.length = L := ⟨_, rfl⟩
  refine G.fact (p := inn ≠ [] → lb10 ∉ (C0 ++ wE b7 b4 TV Et 0).map Prod.fst) (fun w hst hne hm => ?_) fun hnot => ?_
  · have h8 := (hst.perm (C' := C10 ++ (C0 ++ wE b7 b4 TV Et 0)) (by classical exact List.perm_iff_count.2 fun q => by simp only [wE, wrap0, List.count_append, List.count_cons] <;> omega)).nd
    rw [List.map_append] at h8
    exact (List.nodup_append.1 h8).2.2 _ (hmem10 hne) _ hm rfl
  refine G.region [.loc, .loc, .gen] (.take 0 (.take 1 (.take 2 .done))) rfl ?_
  refine GP.take rfl rfl (Does.move rfl ?_)
  refine GP.take rfl rfl (Does.move rfl ?_)
  refine GP.take rfl rfl (Does.callP C10 (C0 ++ wE b7 b4 TV Et 0) (.cons rfl (.cons rfl .nil)) cb20 (by classical exact List.perm_iff_count.2 fun q => by simp only [wE, wrap0, List.count_append, List.count_cons] <;> omega) (push1 hwc hb [] 0 C0 hrep 0 inn ad10 cap10 lb10 0 had10 hnot (by simp only [List.length_nil]; omega) (by omega)) (fun w hs j u hj => hrow10 (cxF Try.prog 8 Try.f8.ntmps w0 (List.map Prod.fst Et) fun v C' => v = .bool true ∧ C' = Et) (C0 ++ wE b7 b4 TV Et 0) ([]) w (hs.perm (by classical exact List.perm_iff_count.2 fun q => by simp only [wE, wrap0, List.count_append, List.count_cons, List.count_nil] <;> omega)) j u hj) ?_)
  rintro _ _ ⟨rfl, C1, hrep1, rfl⟩
  refine ⟨(b7, cel 3 [.int .i64 (IntKind.i64.wrap ((0 + (pushF cmp [] 0 inn).2.2 : Nat) : Int))]) :: (b4, cel 48 [TV]) :: (Et ++ (C10 ++ C1)), (by classical exact List.perm_iff_count.2 fun q => by simp only [wE, List.count_append, List.count_cons] <;> omega), ?_⟩
  refine GP.keep [(2, _), (7, _), (8, _), (9, _), (10, _)] (.cons rfl (.cons rfl (.cons rfl (.cons rfl (.cons rfl .nil))))) ?_
  repeat refine G.seq ?_
  refine G.region [.loc] (.take 0 .done) rfl ?_
  refine GP.take rfl rfl (Does.assign rfl ?_)
  refine GP.keep [(2, _), (7, _), (8, _), (9, _), (10, _), (12, _)] (.cons rfl (.cons rfl (.cons rfl (.cons rfl (.cons rfl (.cons rfl .nil)))))) ?_
  repeat refine G.seq ?_
  refine G.region [.loc] (.take 0 .done) rfl ?_
  refine GP.take rfl rfl (Does.assign rfl ?_)
  refine GP.keep [(2, _), (7, _), (8, _), (9, _), (10, _), (12, _), (13, _)] (.cons rfl (.cons rfl (.cons rfl (.cons rfl (.cons rfl (.cons rfl (.cons rfl .nil))))))) ?_
  repeat refine G.seq ?_
  have hpl := pushF_length cmp inn [] 0
  simp only [List.length_nil, Nat.zero_add] at hpl
  rw [hpl.2] at hrep1
  have honce := once_pops hnum cmp inn.length hpl.1
  obtain ⟨want, hwant⟩ : ∃ want, (popsF cmp (pushF cmp [] 0 inn).1.length (pushF cmp [] 0 inn).1).1 = want := ⟨_, rfl⟩
  rw [← hpl.1, hwant] at honce
  have hwl : want.length = inn.length := by rw [← hwant, popsF_map, List.length_map, popsI_length, hpl.1]
  refine G.block ?_
  refine G.dropP [] (A := (b7, cel 3 [.int .i64 (IntKind.i64.wrap ((0 + (pushF cmp [] 0 inn).2.2 : Nat) : Int))]) :: (b4, cel 48 [TV]) :: (Et ++ (C10 ++ ([] ++ C1)))) (by classical exact List.perm_iff_count.2 fun q => by simp only [List.nil_append, List.cons_append, List.count_append, List.count_cons, List.count_nil] <;> omega) ?_
  refine G.loop (S := WP) (fun s => [(2, .int .i64 n), (7, .pointer (some ⟨b7, 0, none⟩)), (8, .func (.func 32) #[] #[.pointer (some ⟨b7, 0, none⟩), .pointer (some ⟨b4, 0, none⟩)]), (9, .pointer (some ⟨hb, 0, none⟩)), (10, .slice ad10 inn.length cap10), (12, s.s12), (13, .int .i64 (s.i : Int))]) (fun s => (b7, cel 3 [.int .i64 (IntKind.i64.wrap (s.c : Int))]) :: (b4, cel 48 [TV]) :: (Et ++ (C10 ++ (s.C12 ++ s.C0))))
    (fun s => HRep 71 73 row1 3 hb (.func (.func 32) #[] #[.pointer (some ⟨b7, 0, none⟩), .pointer (some ⟨b4, 0, none⟩)]) s.items inn.length s.C0 ∧ LRep s.out s.s12 s.C12 ∧ s.out.length = s.i ∧ s.i + s.items.length = inn.length ∧ s.out ++ (popsF cmp s.items.length s.items).1 = want) (fun s => inn.length - s.i)
    ⟨_, C1, [], _, [], 0, _⟩ ⟨hrep1, LRep.nil, rfl, by simp only [hpl.1]; omega, hwant⟩ (.cons rfl (.cons rfl (.cons rfl (.cons rfl (.cons rfl (.cons rfl (.cons rfl .nil))))))) .all ?_
  clear hrep hrep1 hnot hpl hwant hL
  rintro ⟨items, C0, out, s12, C12, i2, c⟩ ⟨hrep, h12, hol, hlf, hwant⟩ IH
  simp only at hrep h12 hol hlf hwant IH ⊢
  repeat refine G.seq ?_
  refine G.region [.loc, .loc, .loc, .loc] (.take 0 (.take 1 (.take 2 (.take 3 .done)))) rfl ?_
  refine GP.take rfl rfl (Does.move rfl ?_)
  refine GP.take rfl rfl (Does.move rfl ?_)
  refine GP.take rfl rfl (Does.len rfl is34 ?_)
  refine GP.take rfl rfl (Does.lss rfl rfl rfl ?_)
  refine GP.keep [(2, _), (7, _), (8, _), (9, _), (10, _), (12, _), (13, _), (47, _)] (.cons rfl (.cons rfl (.cons rfl (.cons rfl (.cons rfl (.cons rfl (.cons rfl (.cons rfl .nil)))))))) ?_
  repeat refine G.seq ?_
  refine G.cond rfl ?_ ?_
  case refine_1 =>
    intro hz
    have hpos : 0 < items.length := by omega
    have hne : items ≠ [] := List.length_pos_iff.1 hpos
    have hie : (!items.isEmpty) = true := by simpa using hne
    have hpl := popF_length cmp items
    have hpc := popF_cost cmp items
    have hndl := nd_le items.length
    have hndi : nd items.length = nd (inn.length - i2) := by congr 1; omega
    have hpops : (popsF cmp items.length items).1 = firstF items :: (popsF cmp (items.length - 1) (popF cmp items).1).1 := by
      obtain ⟨q, hq⟩ : ∃ q, items.length = q + 1 := ⟨items.length - 1, by omega⟩
      rw [hq, Nat.add_sub_cancel]; rfl
    obtain ⟨pc, hpce⟩ : ∃ pc, (popF cmp items).2 = pc := ⟨_, rfl⟩
    rw [hpce] at hpc
    refine G.skip ?_
    repeat refine G.seq ?_
    refine G.block ?_
    repeat refine G.seq ?_
    refine G.region [.gen] (.take 0 .done) rfl ?_
    refine GP.take0 rfl (Does.store1 rfl rfl sz3 rfl .head .head ?_)
    refine GP.keep [(2, _), (7, _), (8, _), (9, _), (10, _), (12, _), (13, _)] (.cons rfl (.cons rfl (.cons rfl (.cons rfl (.cons rfl (.cons rfl (.cons rfl .nil))))))) ?_
    repeat refine G.seq ?_
    refine G.region [.loc, .gen, .loc, .loc, .loc, .alloc, .gen, .loc] (.take 0 (.take 1 (.take 2 (.take 3 (.take 4 (.take 5 (.take 6 (.take 7 .done)))))))) rfl ?_
    refine GP.take rfl rfl (Does.move rfl ?_)
    refine GP.take rfl rfl (Does.callP (C10 ++ C12) (C0 ++ wE b7 b4 TV Et 0) (.cons rfl .nil) cb17 (by classical exact List.perm_iff_count.2 fun q => by simp only [wE, wrap0, List.count_append, List.count_cons] <;> omega) (pop1 hwc hb items inn.length C0 hrep 0 (by omega)) (fun _ _ => trivial) ?_)
    rintro _ _ ⟨rfl, C1, hrep1, rfl⟩
    refine ⟨(b7, cel 3 [.int .i64 (IntKind.i64.wrap ((0 + (popF cmp items).2 : Nat) : Int))]) :: (b4, cel 48 [TV]) :: (Et ++ (C10 ++ (C12 ++ C1))), (by classical exact List.perm_iff_count.2 fun q => by simp only [wE, List.count_append, List.count_cons] <;> omega), ?_⟩
    rw [hie, hpce]
    refine GP.take rfl rfl (Does.move rfl ?_)
    refine GP.take rfl rfl (Does.extract rfl rfl ?_)
    refine GP.take rfl rfl (Does.extract rfl rfl ?_)
    refine GP.take rfl rfl (Does.alloc zl31 fun b14 Nb14 hb14 nb14 => ?_)
    refine GP.take0 rfl (Does.storeA rfl rfl sz31 (by first | exact .head | exact .tail .head | exact .tail (.tail .head) | exact .tail (.tail (.tail .head)) | exact .tail (.tail (.tail (.tail .head))) | exact .tail (.tail (.tail (.tail (.tail .head))))) (.cons rfl .head (.cons rfl (.tail .head) .nil)) ?_)
    refine GP.take rfl rfl (Does.assign rfl ?_)
    refine GP.keep [(2, _), (7, _), (8, _), (9, _), (10, _), (12, _), (13, _), (14, _), (15, _)] (.cons rfl (.cons rfl (.cons rfl (.cons rfl (.cons rfl (.cons rfl (.cons rfl (.cons rfl (.cons rfl .nil))))))))) ?_
    repeat refine G.seq ?_
    refine G.draw [.loc, .loc, .loc, .load, .loc, .loc, .loc, .loc, .gen, .loc, .loc, .loc, .loc] (.take 0 (.take 1 (.take 2 (.take 4 (.take 5 (.take 6 (.take 7 (.alt 3 (.alt 8 (.take 9 (.take 10 (.take 11 (.take 12 .done)))) .stop) (.alt 8 (.take 9 (.take 10 (.take 3 (.take 11 (.take 12 .done))))) .stop))))))))) (by exact mixed) (by kernel_rfl) ?_
    intro N hN0 hN
    refine GP.take rfl rfl (Does.move rfl ?_)
    refine GP.take rfl rfl (Does.not rfl rfl ?_)
    refine GP.take rfl rfl (Does.move rfl ?_)
    refine GP.takeG rfl rfl rfl rfl (Does.move rfl ?_)
    refine GP.takeG rfl rfl rfl rfl (Does.len rfl is34 ?_)
    refine GP.takeG rfl rfl rfl rfl (Does.move rfl ?_)
    refine GP.takeG rfl rfl rfl rfl (Does.sub rfl rfl (r := ((inn.length - i2 : Nat) : Int)) (wrc_i64 (by omega) (by omega) (by omega)) ?_)
    refine GP.alt ?_ ?_
    · skip
      refine GP.takeG rfl rfl rfl rfl (Does.load1N rfl ft3 (hN _ (.tail _ (.head _))) (CellIn.own (.tail _ (.head _)) rfl) ?_)
      refine GP.one ?_
      refine GP.takeG rfl rfl rfl rfl (Does.callN (.cons rfl .nil) cb19 (digits_nd (inn.length - i2) (by omega)) (fun _ _ => trivial) ?_)
      rintro _ _ ⟨rfl, rfl⟩
      simp only [List.append_nil]
      refine GP.takeG rfl rfl rfl rfl (Does.mul rfl rfl (r := ((2 * nd (inn.length - i2) : Nat) : Int)) (wrc_i64 (by omega) (by omega) (by omega)) ?_)
      refine GP.takeG rfl rfl rfl rfl (Does.add rfl rfl (r := ((2 * nd (inn.length - i2) + 2 : Nat) : Int)) (wrc_i64 (by omega) (by omega) (by omega)) ?_)
      refine GP.takeG rfl rfl rfl rfl (Does.gtr rfl rfl (show decide (IntKind.i64.wrap ((0 + pc : Nat) : Int) > ((2 * nd (inn.length - i2) + 2 : Nat) : Int)) = false from decide_eq_false (by rw [wr_i64 (by omega) (by omega)]; omega)) ?_)
      refine GP.take rfl rfl (Does.pickF rfl rfl ?_)
      refine GP.keep [(2, _), (7, _), (8, _), (9, _), (10, _), (12, _), (13, _), (14, _), (67, _)] (.cons rfl (.cons rfl (.cons rfl (.cons rfl (.cons rfl (.cons rfl (.cons rfl (.cons rfl (.cons rfl .nil))))))))) ?_
      refine G.condF rfl ?_
      refine G.skip ?_
      repeat refine G.seq ?_
      refine G.region [.loc, .gen, .alloc, .gen, .loc] (.take 0 (.take 1 (.take 2 (.take 3 (.take 4 .done))))) rfl ?_
      refine GP.take rfl rfl (Does.move rfl ?_)
      refine GP.take rfl rfl (Does.loadA (vs := enc1 (firstF items)) rfl ag31 (RowIn.own (.head _) rfl) ?_)
      refine GP.take rfl rfl (Does.buildSlice (r := [_, _]) (.cons rfl .nil) sl34 zl31 (by decide) rfl fun b70 N70 h70 n70 => ?_)
      refine GP.take rfl rfl (Does.appendT rfl (l := out) (xs := [firstF items]) (mc := 1) ((b70, cel 31 (enc1 (firstF items))) :: (b14, cel 31 (enc1 (firstF items))) :: (b7, cel 3 [.int .i64 (IntKind.i64.wrap ((0 + pc : Nat) : Int))]) :: (b4, cel 48 [TV]) :: (Et ++ C10)) C12 C1 rfl rfl (by simp only [List.cons_append, List.append_assoc]) h12 (fun _ => ⟨b70, 0, rfl, RowIn.own (.head _) rfl⟩) (by simp only [List.length_cons, List.length_nil]; omega) ?_)
      intro s12n C12n h12n
      refine GP.take rfl rfl (Does.assign rfl ?_)
      refine GP.keep [(2, _), (7, _), (8, _), (9, _), (10, _), (12, _), (13, _)] (.cons rfl (.cons rfl (.cons rfl (.cons rfl (.cons rfl (.cons rfl (.cons rfl .nil))))))) ?_
      refine G.dropP [(b70, cel 31 (enc1 (firstF items))), (b14, cel 31 (enc1 (firstF items)))] (A := (b7, cel 3 [.int .i64 (IntKind.i64.wrap ((0 + pc : Nat) : Int))]) :: (b4, cel 48 [TV]) :: (Et ++ (C10 ++ (C12n ++ C1)))) (by classical exact List.perm_iff_count.2 fun q => by simp only [enc1, List.cons_append, List.count_append, List.count_cons, List.count_nil] <;> omega) ?_
      refine G.inBlock ?_
      repeat refine G.seq ?_
      refine G.region [.loc, .loc, .loc] (.take 0 (.take 1 (.take 2 .done))) rfl ?_
      refine GP.take rfl rfl (Does.move rfl ?_)
      refine GP.take rfl rfl (Does.add rfl rfl (r := ((i2 + 1 : Nat) : Int)) (wrc_i64 (by omega) (by omega) (by omega)) ?_)
      refine GP.take rfl rfl (Does.assign rfl ?_)
      refine GP.keep [(2, _), (7, _), (8, _), (9, _), (10, _), (12, _), (13, _)] (.cons rfl (.cons rfl (.cons rfl (.cons rfl (.cons rfl (.cons rfl (.cons rfl .nil))))))) ?_
      exact IH ⟨(popF cmp items).1, C1, out ++ [firstF items], s12n, C12n, i2 + 1, 0 + pc⟩ ⟨hrep1, h12n, by simp only [List.length_append, List.length_cons, List.length_nil]; omega, by simp only [hpl]; omega, by simp only [hpl]; rw [List.append_assoc, List.singleton_append, ← hpops]; exact hwant⟩ (by simp only; omega)
    refine GP.alt ?_ ?_
    · skip
      refine GP.takeG rfl rfl rfl rfl (Does.callN (.cons rfl .nil) cb19 (digits_nd (inn.length - i2) (by omega)) (fun _ _ => trivial) ?_)
      rintro _ _ ⟨rfl, rfl⟩
      simp only [List.append_nil]
      refine GP.takeG rfl rfl rfl rfl (Does.mul rfl rfl (r := ((2 * nd (inn.length - i2) : Nat) : Int)) (wrc_i64 (by omega) (by omega) (by omega)) ?_)
      refine GP.takeG rfl rfl rfl rfl (Does.add rfl rfl (r := ((2 * nd (inn.length - i2) + 2 : Nat) : Int)) (wrc_i64 (by omega) (by omega) (by omega)) ?_)
      refine GP.takeG rfl rfl rfl rfl (Does.load1N rfl ft3 (hN _ (.tail _ (.head _))) (CellIn.own (.tail _ (.head _)) rfl) ?_)
      refine GP.takeG rfl rfl rfl rfl (Does.gtr rfl rfl (show decide (IntKind.i64.wrap ((0 + pc : Nat) : Int) > ((2 * nd (inn.length - i2) + 2 : Nat) : Int)) = false from decide_eq_false (by rw [wr_i64 (by omega) (by omega)]; omega)) ?_)
      refine GP.take rfl rfl (Does.pickF rfl rfl ?_)
      refine GP.keep [(2, _), (7, _), (8, _), (9, _), (10, _), (12, _), (13, _), (14, _), (67, _)] (.cons rfl (.cons rfl (.cons rfl (.cons rfl (.cons rfl (.cons rfl (.cons rfl (.cons rfl (.cons rfl .nil))))))))) ?_
      refine G.condF rfl ?_
      refine G.skip ?_
      repeat refine G.seq ?_
      refine G.region [.loc, .gen, .alloc, .gen, .loc] (.take 0 (.take 1 (.take 2 (.take 3 (.take 4 .done))))) rfl ?_
      refine GP.take rfl rfl (Does.move rfl ?_)
      refine GP.take rfl rfl (Does.loadA (vs := enc1 (firstF items)) rfl ag31 (RowIn.own (.head _) rfl) ?_)
      refine GP.take rfl rfl (Does.buildSlice (r := [_, _]) (.cons rfl .nil) sl34 zl31 (by decide) rfl fun b70 N70 h70 n70 => ?_)
      refine GP.take rfl rfl (Does.appendT rfl (l := out) (xs := [firstF items]) (mc := 1) ((b70, cel 31 (enc1 (firstF items))) :: (b14, cel 31 (enc1 (firstF items))) :: (b7, cel 3 [.int .i64 (IntKind.i64.wrap ((0 + pc : Nat) : Int))]) :: (b4, cel 48 [TV]) :: (Et ++ C10)) C12 C1 rfl rfl (by simp only [List.cons_append, List.append_assoc]) h12 (fun _ => ⟨b70, 0, rfl, RowIn.own (.head _) rfl⟩) (by simp only [List.length_cons, List.length_nil]; omega) ?_)
      intro s12n C12n h12n
      refine GP.take rfl rfl (Does.assign rfl ?_)
      refine GP.keep [(2, _), (7, _), (8, _), (9, _), (10, _), (12, _), (13, _)] (.cons rfl (.cons rfl (.cons rfl (.cons rfl (.cons rfl (.cons rfl (.cons rfl .nil))))))) ?_
      refine G.dropP [(b70, cel 31 (enc1 (firstF items))), (b14, cel 31 (enc1 (firstF items)))] (A := (b7, cel 3 [.int .i64 (IntKind.i64.wrap ((0 + pc : Nat) : Int))]) :: (b4, cel 48 [TV]) :: (Et ++ (C10 ++ (C12n ++ C1)))) (by classical exact List.perm_iff_count.2 fun q => by simp only [enc1, List.cons_append, List.count_append, List.count_cons, List.count_nil] <;> omega) ?_
      refine G.inBlock ?_
      repeat refine G.seq ?_
      refine G.region [.loc, .loc, .loc] (.take 0 (.take 1 (.take 2 .done))) rfl ?_
      refine GP.take rfl rfl (Does.move rfl ?_)
      refine GP.take rfl rfl (Does.add rfl rfl (r := ((i2 + 1 : Nat) : Int)) (wrc_i64 (by omega) (by omega) (by omega)) ?_)
      refine GP.take rfl rfl (Does.assign rfl ?_)
      refine GP.keep [(2, _), (7, _), (8, _), (9, _), (10, _), (12, _), (13, _)] (.cons rfl (.cons rfl (.cons rfl (.cons rfl (.cons rfl (.cons rfl (.cons rfl .nil))))))) ?_
      exact IH ⟨(popF cmp items).1, C1, out ++ [firstF items], s12n, C12n, i2 + 1, 0 + pc⟩ ⟨hrep1, h12n, by simp only [List.length_append, List.length_cons, List.length_nil]; omega, by simp only [hpl]; omega, by simp only [hpl]; rw [List.append_assoc, List.singleton_append, ← hpops]; exact hwant⟩ (by simp only; omega)
    exact GP.stop
  intro hz
  clear IH
  refine G.exit rfl ?_
  repeat refine G.seq ?_
  have hit0 : items = [] := List.eq_nil_of_length_eq_zero (by omega)
  subst hit0
  simp only [List.length_nil, popsF, List.append_nil] at hwant
  subst hwant
  have hol2 : out.length = inn.length := by rw [hwl]
  obtain ⟨ad12, cap12, lb12, hs12, had12, -, -, hrow12⟩ := h12.form
  subst hs12
  obtain ⟨M, hM⟩ : ∃ M, (min n inn.length).toNat = M := ⟨_, rfl⟩
  have hMl : M ≤ inn.length := by omega
  have hMn : (if (inn.length : Int) < (if (0 : Int) > n then 0 else n) then (inn.length : Int) else (if (0 : Int) > n then 0 else n)) = (M : Int) := by (repeat' split) <;> omega
  refine G.region [.loc, .gen, .loc, .loc, .loc, .alloc, .gen, .loc] (.take 0 (.take 1 (.take 2 (.take 3 (.take 4 (.take 5 (.take 6 (.take 7 .done)))))))) rfl ?_
  refine GP.take rfl rfl (Does.move rfl ?_)
  refine GP.take rfl rfl (Does.callP (C10 ++ C12) (C0 ++ wE b7 b4 TV Et c) (.cons rfl .nil) cb17 (by classical exact List.perm_iff_count.2 fun q => by simp only [wE, List.count_append, List.count_cons] <;> omega) (pop1 hwc hb [] inn.length C0 hrep c (by simp)) (fun _ _ => trivial) ?_)
  rintro _ _ ⟨rfl, C1, hrep1, rfl⟩
  refine ⟨(b7, cel 3 [.int .i64 (IntKind.i64.wrap ((c + (popF cmp ([] : List ((Int × Int) × Nat))).2 : Nat) : Int))]) :: (b4, cel 48 [TV]) :: (Et ++ (C10 ++ (C12 ++ C1))), (by classical exact List.perm_iff_count.2 fun q => by simp only [wE, List.count_append, List.count_cons] <;> omega), ?_⟩
  refine GP.take rfl rfl (Does.move rfl ?_)
  refine GP.take rfl rfl (Does.extract rfl rfl ?_)
  refine GP.take rfl rfl (Does.extract rfl rfl ?_)
  refine GP.take rfl rfl (Does.alloc zl31 fun b16 Nb16 hb16 nb16 => ?_)
  refine GP.take0 rfl (Does.storeA rfl rfl sz31 (by first | exact .head | exact .tail .head | exact .tail (.tail .head) | exact .tail (.tail (.tail .head)) | exact .tail (.tail (.tail (.tail .head))) | exact .tail (.tail (.tail (.tail (.tail .head))))) (.cons rfl .head (.cons rfl (.tail .head) .nil)) ?_)
  refine GP.take rfl rfl (Does.assign rfl ?_)
  refine GP.keep [(2, _), (7, _), (8, _), (9, _), (10, _), (12, _), (17, _)] (.cons rfl (.cons rfl (.cons rfl (.cons rfl (.cons rfl (.cons rfl (.cons rfl .nil))))))) ?_
  repeat refine G.seq ?_
  refine G.dropP [(b16, cel 31 (enc1 (firstF ([] : List ((Int × Int) × Nat)))))] (A := (b7, cel 3 [.int .i64 (IntKind.i64.wrap ((c + (popF cmp ([] : List ((Int × Int) × Nat))).2 : Nat) : Int))]) :: (b4, cel 48 [TV]) :: (Et ++ (C10 ++ (C12 ++ C1)))) (by classical exact List.perm_iff_count.2 fun q => by simp only [enc1, List.cons_append, List.count_append, List.count_cons, List.count_nil] <;> omega) ?_
  refine G.region [.gen] (.take 0 .done) rfl ?_
  refine GP.take0 rfl (Does.store1 rfl rfl sz3 rfl .head .head ?_)
  refine GP.keep [(2, _), (7, _), (8, _), (9, _), (10, _), (12, _), (17, _)] (.cons rfl (.cons rfl (.cons rfl (.cons rfl (.cons rfl (.cons rfl (.cons rfl .nil))))))) ?_
  repeat refine G.seq ?_
  refine G.fact (p := inn ≠ [] → lb10 ∉ (wE b7 b4 TV Et 0).map Prod.fst) (fun w hst hne hm => ?_) fun hnot => ?_
  · have h8 := (hst.perm (C' := C10 ++ ((C12 ++ C1) ++ wE b7 b4 TV Et 0)) (by classical exact List.perm_iff_count.2 fun q => by simp only [wE, wrap0, List.count_append, List.count_cons] <;> omega)).nd
    rw [List.map_append] at h8
    exact (List.nodup_append.1 h8).2.2 _ (hmem10 hne) _ (by rw [List.map_append]; exact List.mem_append_right _ hm) rfl
  refine G.region [.loc, .loc, .loc, .gen, .loc] (.take 0 (.take 1 (.take 2 (.take 3 (.take 4 .done))))) rfl ?_
  refine GP.take rfl rfl (Does.move rfl ?_)
  refine GP.take rfl rfl (Does.move rfl ?_)
  refine GP.take rfl rfl (Does.move rfl ?_)
  refine GP.take rfl rfl (Does.callP (C10 ++ (C12 ++ C1)) (wE b7 b4 TV Et 0) (.cons rfl (.cons rfl (.cons rfl .nil))) cb33 (by classical exact List.perm_iff_count.2 fun q => by simp only [wE, wrap0, List.count_append, List.count_cons] <;> omega) (least_ct hwc (.func (.func 32) #[] #[.pointer (some ⟨b7, 0, none⟩), .pointer (some ⟨b4, 0, none⟩)]) (.inl rfl) inn n ad10 cap10 lb10 0 0 had10 hnot (by omega)) (fun w hs j u hj => hrow10 (cxF Try.prog 8 Try.f8.ntmps w0 (List.map Prod.fst Et) fun v C' => v = .bool true ∧ C' = Et) (wE b7 b4 TV Et 0) (C12 ++ C1) w (hs.perm (by classical exact List.perm_iff_count.2 fun q => by simp only [wE, wrap0, List.cons_append, List.count_append, List.count_cons] <;> omega)) j u hj) ?_)
  rintro sv18 _ ⟨C18, h18, rfl⟩
  rw [hM] at h18 ⊢
  refine ⟨(b7, cel 3 [.int .i64 (IntKind.i64.wrap ((0 + leastC cmp inn M : Nat) : Int))]) :: (b4, cel 48 [TV]) :: (Et ++ (C10 ++ (C12 ++ (C18 ++ C1)))), (by classical exact List.perm_iff_count.2 fun q => by simp only [wE, List.count_append, List.count_cons] <;> omega), ?_⟩
  refine GP.take rfl rfl (Does.assign rfl ?_)
  refine GP.keep [(2, _), (7, _), (8, _), (9, _), (10, _), (12, _), (17, _), (18, _)] (.cons rfl (.cons rfl (.cons rfl (.cons rfl (.cons rfl (.cons rfl (.cons rfl (.cons rfl .nil)))))))) ?_
  repeat refine G.seq ?_
  refine G.region [.loc, .loc, .loc, .loc, .loc, .loc] (.take 0 (.take 1 (.take 2 (.take 3 (.take 4 (.take 5 .done)))))) rfl ?_
  refine GP.take rfl rfl (Does.move rfl ?_)
  refine GP.take rfl rfl (Does.max rfl rfl rfl ?_)
  refine GP.take rfl rfl (Does.move rfl ?_)
  refine GP.take rfl rfl (Does.len rfl is34 ?_)
  refine GP.take rfl rfl (Does.min rfl rfl hMn ?_)
  refine GP.take rfl rfl (Does.assign rfl ?_)
  refine GP.keep [(2, _), (7, _), (8, _), (9, _), (10, _), (12, _), (17, _), (18, _), (19, _)] (.cons rfl (.cons rfl (.cons rfl (.cons rfl (.cons rfl (.cons rfl (.cons rfl (.cons rfl (.cons rfl .nil))))))))) ?_
  repeat refine G.seq ?_
  have hlc := leastC_le cmp inn M hMl
  have hll := leastF_length cmp inn M
  have hndM := nd_le M
  have hbig1 : inn.length * (3 * nd M + 3) ≤ 4000000000000 := Nat.le_trans (Nat.mul_le_mul hib (show 3 * nd M + 3 ≤ 3145731 by omega)) (by decide)
  have hon18 := once_least hnum cmp M hMl
  obtain ⟨ad18, cap18, lb18, hs18, had18, -, -, hrow18⟩ := h18.form
  subst hs18
  obtain ⟨lc, hlce⟩ : ∃ lc, leastC cmp inn M = lc := ⟨_, rfl⟩
  rw [hlce] at hlc ⊢
  obtain ⟨fw, hfw⟩ : ∃ fw, leastF cmp inn M = fw := ⟨_, rfl⟩
  rw [hfw] at hll hon18 had18 h18 hrow18 ⊢
  refine G.draw [.loc, .loc, .loc, .loc, .loc, .loc, .loc, .loc, .loc, .loc, .gen, .loc, .loc, .loc, .load, .loc, .loc, .loc, .gen, .loc, .loc, .loc, .loc, .loc] (.take 0 (.take 1 (.take 2 (.take 3 (.take 4 (.take 5 (.take 6 (.take 7 (.take 8 (.take 9 (.alt 10 (.take 11 (.take 12 (.take 13 (.take 15 (.take 16 (.take 17 (.alt 14 (.alt 18 (.take 19 (.take 20 (.take 21 (.take 22 (.take 23 .done))))) .stop) (.alt 18 (.take 19 (.take 20 (.take 21 (.take 14 (.take 22 (.take 23 .done)))))) .stop)))))))) .stop))))))))))) (by exact mixed) (by kernel_rfl) ?_
  intro N hN0 hN
  refine GP.take rfl rfl (Does.move rfl ?_)
  refine GP.take rfl rfl (Does.move rfl ?_)
  refine GP.takeG rfl rfl rfl rfl (Does.move rfl ?_)
  refine GP.takeG rfl rfl rfl rfl (Does.len rfl is34 ?_)
  refine GP.takeG rfl rfl rfl rfl (Does.move rfl ?_)
  refine GP.takeG rfl rfl rfl rfl (Does.neq rfl rfl (show (!decide ((fw.length : Int) = (M : Int))) = false by rw [hll]; simp) ?_)
  refine GP.take rfl rfl (Does.pickF rfl rfl ?_)
  refine GP.take rfl rfl (Does.move rfl ?_)
  refine GP.takeG rfl rfl rfl rfl (Does.move rfl ?_)
  refine GP.takeG rfl rfl rfl rfl (Does.move rfl ?_)
  refine GP.one ?_
  refine GP.takeG rfl rfl rfl rfl (Does.callN (.cons rfl (.cons rfl .nil)) cb34 (once_ct inn fw ad10 ad18 cap10 cap18 lb10 0 lb18 0 had10 had18 hib (by omega) hon18) (fun w hs => ⟨fun j u hj => hrow10 (cxF Try.prog 8 Try.f8.ntmps w0 (List.map Prod.fst Et) fun v C' => v = .bool true ∧ C' = Et) ((b7, cel 3 [.int .i64 (IntKind.i64.wrap ((0 + lc : Nat) : Int))]) :: (b4, cel 48 [TV]) :: Et) (C12 ++ (C18 ++ C1)) w (hs.perm (by classical exact List.perm_iff_count.2 fun q => by simp only [List.cons_append, List.count_append, List.count_cons] <;> omega)) j u hj, fun j u hj => hrow18 (cxF Try.prog 8 Try.f8.ntmps w0 (List.map Prod.fst Et) fun v C' => v = .bool true ∧ C' = Et) ((b7, cel 3 [.int .i64 (IntKind.i64.wrap ((0 + lc : Nat) : Int))]) :: (b4, cel 48 [TV]) :: Et ++ (C10 ++ C12)) (C1) w (hs.perm (by classical exact List.perm_iff_count.2 fun q => by simp only [List.cons_append, List.count_append, List.count_cons] <;> omega)) j u hj⟩) ?_)
  rintro _ _ ⟨rfl, rfl⟩
  simp only [List.append_nil]
  refine GP.takeG rfl rfl rfl rfl (Does.not rfl rfl ?_)
  refine GP.take rfl rfl (Does.pickF rfl rfl ?_)
  refine GP.take rfl rfl (Does.move rfl ?_)
  refine GP.takeG rfl rfl rfl rfl (Does.move rfl ?_)
  refine GP.takeG rfl rfl rfl rfl (Does.len rfl is34 ?_)
  refine GP.takeG rfl rfl rfl rfl (Does.move rfl ?_)
  refine GP.alt ?_ ?_
  · skip
    refine GP.takeG rfl rfl rfl rfl (Does.load1N rfl ft3 (hN _ (.head _)) (CellIn.own (.head _) rfl) ?_)
    refine GP.one ?_
    refine GP.takeG rfl rfl rfl rfl (Does.callN (.cons rfl .nil) cb19 (digits_nd M (by omega)) (fun _ _ => trivial) ?_)
    rintro _ _ ⟨rfl, rfl⟩
    simp only [List.append_nil]
    refine GP.takeG rfl rfl rfl rfl (Does.mul rfl rfl (r := ((3 * nd M : Nat) : Int)) (wrc_i64 (by omega) (by omega) (by omega)) ?_)
    refine GP.takeG rfl rfl rfl rfl (Does.add rfl rfl (r := ((3 * nd M + 3 : Nat) : Int)) (wrc_i64 (by omega) (by omega) (by omega)) ?_)
    refine GP.takeG rfl rfl rfl rfl (Does.mul rfl rfl (r := ((inn.length * (3 * nd M + 3) : Nat) : Int)) (wrc_i64 (by rw [Int.natCast_mul]) (by rw [← Int.natCast_mul]; omega) (by rw [← Int.natCast_mul]; omega)) ?_)
    refine GP.takeG rfl rfl rfl rfl (Does.gtr rfl rfl (show decide (IntKind.i64.wrap ((0 + lc : Nat) : Int) > ((inn.length * (3 * nd M + 3) : Nat) : Int)) = false from decide_eq_false (by rw [wr_i64 (by omega) (by omega)]; omega)) ?_)
    refine GP.take rfl rfl (Does.pickF rfl rfl ?_)
    refine GP.keep [(2, _), (7, _), (8, _), (9, _), (10, _), (12, _), (109, _)] (.cons rfl (.cons rfl (.cons rfl (.cons rfl (.cons rfl (.cons rfl (.cons rfl .nil))))))) ?_
    refine G.condF rfl ?_
    refine G.skip ?_
    repeat refine G.seq ?_
    refine G.region [.gen] (.take 0 .done) rfl ?_
    refine GP.take0 rfl (Does.store1 rfl rfl sz3 rfl .head .head ?_)
    refine GP.keep [(2, _), (7, _), (8, _), (9, _), (10, _), (12, _)] (.cons rfl (.cons rfl (.cons rfl (.cons rfl (.cons rfl (.cons rfl .nil)))))) ?_
    repeat refine G.seq ?_
    refine G.dropP C18 (A := (b7, cel 3 [.int .i64 0]) :: (b4, cel 48 [TV]) :: (Et ++ (C10 ++ (C12 ++ C1)))) (by classical exact List.perm_iff_count.2 fun q => by simp only [List.cons_append, List.count_append, List.count_cons] <;> omega) ?_
    refine G.region [.loc, .loc, .gen, .loc] (.take 0 (.take 1 (.take 2 (.take 3 .done)))) rfl ?_
    refine GP.take rfl rfl (Does.move rfl ?_)
    refine GP.take rfl rfl (Does.move rfl ?_)
    refine GP.take rfl rfl (Does.callP (C10 ++ (C12 ++ C1)) (wE b7 b4 TV Et 0) (.cons rfl (.cons rfl .nil)) cb35 (by classical exact List.perm_iff_count.2 fun q => by simp only [wE, wrap0, List.count_append, List.count_cons] <;> omega) (sort_ct hwc (.func (.func 32) #[] #[.pointer (some ⟨b7, 0, none⟩), .pointer (some ⟨b4, 0, none⟩)]) (new_ct 32 #[] #[.pointer (some ⟨b7, 0, none⟩), .pointer (some ⟨b4, 0, none⟩)]) inn ad10 cap10 lb10 0 0 had10 hnot (by omega)) (fun w hs j u hj => hrow10 (cxF Try.prog 8 Try.f8.ntmps w0 (List.map Prod.fst Et) fun v C' => v = .bool true ∧ C' = Et) (wE b7 b4 TV Et 0) (C12 ++ C1) w (hs.perm (by classical exact List.perm_iff_count.2 fun q => by simp only [wE, wrap0, List.cons_append, List.count_append, List.count_cons] <;> omega)) j u hj) ?_)
    rintro sv20 _ ⟨C20, h20, rfl⟩
    refine ⟨(b7, cel 3 [.int .i64 (IntKind.i64.wrap ((0 + sortC cmp inn : Nat) : Int))]) :: (b4, cel 48 [TV]) :: (Et ++ (C10 ++ (C12 ++ (C20 ++ C1)))), (by classical exact List.perm_iff_count.2 fun q => by simp only [wE, List.count_append, List.count_cons] <;> omega), ?_⟩
    refine GP.take rfl rfl (Does.assign rfl ?_)
    refine GP.keep [(2, _), (7, _), (8, _), (9, _), (10, _), (12, _), (20, _)] (.cons rfl (.cons rfl (.cons rfl (.cons rfl (.cons rfl (.cons rfl (.cons rfl .nil))))))) ?_
    repeat refine G.seq ?_
    have hsc := sortC_le cmp inn
    have hsl := sortF_length cmp inn
    have hndL := nd_le inn.length
    have hbig2 : inn.length * (3 * nd inn.length + 3) ≤ 4000000000000 := Nat.le_trans (Nat.mul_le_mul hib (show 3 * nd inn.length + 3 ≤ 3145731 by omega)) (by decide)
    have hon20 := once_sort hnum cmp
    obtain ⟨ad20, cap20, lb20, hs20, had20, -, -, hrow20⟩ := h20.form
    subst hs20
    obtain ⟨sc, hsce⟩ : ∃ sc, sortC cmp inn = sc := ⟨_, rfl⟩
    rw [hsce] at hsc ⊢
    obtain ⟨al, hal⟩ : ∃ al, sortF cmp inn = al := ⟨_, rfl⟩
    rw [hal] at hsl hon20 had20 h20 hrow20 ⊢
    refine G.draw [.loc, .loc, .gen, .loc, .loc, .loc, .gen, .loc, .loc, .load, .loc, .loc, .loc, .loc, .gen, .loc, .loc, .loc, .loc, .loc, .loc] (.take 0 (.take 1 (.alt 2 (.take 3 (.take 4 (.take 5 (.alt 6 (.take 7 (.take 8 (.take 10 (.take 11 (.take 12 (.take 13 (.alt 9 (.alt 14 (.take 15 (.take 16 (.take 17 (.take 18 (.take 19 (.take 20 .done)))))) .stop) (.alt 14 (.take 15 (.take 16 (.take 17 (.take 9 (.take 18 (.take 19 (.take 20 .done))))))) .stop)))))))) .stop)))) .stop))) (by exact mixed) (by kernel_rfl) ?_
    intro N hN0 hN
    refine GP.take rfl rfl (Does.move rfl ?_)
    refine GP.take rfl rfl (Does.move rfl ?_)
    refine GP.one ?_
    refine GP.take rfl rfl (Does.callN (.cons rfl (.cons rfl .nil)) cb36 (each_ct inn out ad10 ad12 cap10 cap12 lb10 0 lb12 0 had10 had12 hib (by omega) honce) (fun w hs => ⟨fun j u hj => hrow10 (cxF Try.prog 8 Try.f8.ntmps w0 (List.map Prod.fst Et) fun v C' => v = .bool true ∧ C' = Et) ((b7, cel 3 [.int .i64 (IntKind.i64.wrap ((0 + sc : Nat) : Int))]) :: (b4, cel 48 [TV]) :: Et) (C12 ++ (C20 ++ C1)) w (hs.perm (by classical exact List.perm_iff_count.2 fun q => by simp only [List.cons_append, List.count_append, List.count_cons] <;> omega)) j u hj, fun j u hj => hrow12 (cxF Try.prog 8 Try.f8.ntmps w0 (List.map Prod.fst Et) fun v C' => v = .bool true ∧ C' = Et) ((b7, cel 3 [.int .i64 (IntKind.i64.wrap ((0 + sc : Nat) : Int))]) :: (b4, cel 48 [TV]) :: Et ++ C10) (C20 ++ C1) w (hs.perm (by classical exact List.perm_iff_count.2 fun q => by simp only [List.cons_append, List.count_append, List.count_cons] <;> omega)) j u hj⟩) ?_)
    rintro _ _ ⟨rfl, rfl⟩
    simp only [List.append_nil]
    refine GP.take rfl rfl (Does.move rfl ?_)
    refine GP.takeG rfl rfl rfl rfl (Does.move rfl ?_)
    refine GP.takeG rfl rfl rfl rfl (Does.move rfl ?_)
    refine GP.one ?_
    refine GP.takeG rfl rfl rfl rfl (Does.callN (.cons rfl (.cons rfl .nil)) cb36 (each_ct inn al ad10 ad20 cap10 cap20 lb10 0 lb20 0 had10 had20 hib (by omega) hon20) (fun w hs => ⟨fun j u hj => hrow10 (cxF Try.prog 8 Try.f8.ntmps w0 (List.map Prod.fst Et) fun v C' => v = .bool true ∧ C' = Et) ((b7, cel 3 [.int .i64 (IntKind.i64.wrap ((0 + sc : Nat) : Int))]) :: (b4, cel 48 [TV]) :: Et) (C12 ++ (C20 ++ C1)) w (hs.perm (by classical exact List.perm_iff_count.2 fun q => by simp only [List.cons_append, List.count_append, List.count_cons] <;> omega)) j u hj, fun j u hj => hrow20 (cxF Try.prog 8 Try.f8.ntmps w0 (List.map Prod.fst Et) fun v C' => v = .bool true ∧ C' = Et) ((b7, cel 3 [.int .i64 (IntKind.i64.wrap ((0 + sc : Nat) : Int))]) :: (b4, cel 48 [TV]) :: Et ++ (C10 ++ C12)) (C1) w (hs.perm (by classical exact List.perm_iff_count.2 fun q => by simp only [List.cons_append, List.count_append, List.count_cons] <;> omega)) j u hj⟩) ?_)
    rintro _ _ ⟨rfl, rfl⟩
    simp only [List.append_nil]
    refine GP.take rfl rfl (Does.pickT rfl rfl ?_)
    refine GP.take rfl rfl (Does.move rfl ?_)
    refine GP.takeG rfl rfl rfl rfl (Does.move rfl ?_)
    refine GP.takeG rfl rfl rfl rfl (Does.len rfl is34 ?_)
    refine GP.takeG rfl rfl rfl rfl (Does.move rfl ?_)
    refine GP.takeG rfl rfl rfl rfl (Does.len rfl is34 ?_)
    refine GP.alt ?_ ?_
    · skip
      refine GP.takeG rfl rfl rfl rfl (Does.load1N rfl ft3 (hN _ (.head _)) (CellIn.own (.head _) rfl) ?_)
      refine GP.one ?_
      refine GP.takeG rfl rfl rfl rfl (Does.callN (.cons rfl .nil) cb19 (digits_nd inn.length (by omega)) (fun _ _ => trivial) ?_)
      rintro _ _ ⟨rfl, rfl⟩
      simp only [List.append_nil]
      refine GP.takeG rfl rfl rfl rfl (Does.mul rfl rfl (r := ((3 * nd inn.length : Nat) : Int)) (wrc_i64 (by omega) (by omega) (by omega)) ?_)
      refine GP.takeG rfl rfl rfl rfl (Does.add rfl rfl (r := ((3 * nd inn.length + 3 : Nat) : Int)) (wrc_i64 (by omega) (by omega) (by omega)) ?_)
      refine GP.takeG rfl rfl rfl rfl (Does.mul rfl rfl (r := ((inn.length * (3 * nd inn.length + 3) : Nat) : Int)) (wrc_i64 (by rw [Int.natCast_mul]) (by rw [← Int.natCast_mul]; omega) (by rw [← Int.natCast_mul]; omega)) ?_)
      refine GP.takeG rfl rfl rfl rfl (Does.leq rfl rfl (show decide (IntKind.i64.wrap ((0 + sc : Nat) : Int) ≤ ((inn.length * (3 * nd inn.length + 3) : Nat) : Int)) = true from decide_eq_true (by rw [wr_i64 (by omega) (by omega)]; omega)) ?_)
      refine GP.take rfl rfl (Does.pickT rfl rfl ?_)
      refine GP.take rfl rfl (Does.assign rfl ?_)
      refine GP.keep [(6, _)] (.cons rfl .nil) ?_
      refine G.dropP ((b7, cel 3 [.int .i64 (IntKind.i64.wrap ((0 + sc : Nat) : Int))]) :: (b4, cel 48 [TV]) :: (C10 ++ (C12 ++ (C20 ++ C1)))) (A := Et) (by classical exact List.perm_iff_count.2 fun q => by simp only [List.count_append, List.count_cons] <;> omega) ?_
      exact fin_ret (fn := Try.f8) (R := []) Try.func8 (res1 rfl rfl) .all ⟨rfl, rfl⟩
    refine GP.alt ?_ ?_
    · skip
      refine GP.takeG rfl rfl rfl rfl (Does.callN (.cons rfl .nil) cb19 (digits_nd inn.length (by omega)) (fun _ _ => trivial) ?_)
      rintro _ _ ⟨rfl, rfl⟩
      simp only [List.append_nil]
      refine GP.takeG rfl rfl rfl rfl (Does.mul rfl rfl (r := ((3 * nd inn.length : Nat) : Int)) (wrc_i64 (by omega) (by omega) (by omega)) ?_)
      refine GP.takeG rfl rfl rfl rfl (Does.add rfl rfl (r := ((3 * nd inn.length + 3 : Nat) : Int)) (wrc_i64 (by omega) (by omega) (by omega)) ?_)
      refine GP.takeG rfl rfl rfl rfl (Does.mul rfl rfl (r := ((inn.length * (3 * nd inn.length + 3) : Nat) : Int)) (wrc_i64 (by rw [Int.natCast_mul]) (by rw [← Int.natCast_mul]; omega) (by rw [← Int.natCast_mul]; omega)) ?_)
      refine GP.takeG rfl rfl rfl rfl (Does.load1N rfl ft3 (hN _ (.head _)) (CellIn.own (.head _) rfl) ?_)
      refine GP.takeG rfl rfl rfl rfl (Does.leq rfl rfl (show decide (IntKind.i64.wrap ((0 + sc : Nat) : Int) ≤ ((inn.length * (3 * nd inn.length + 3) : Nat) : Int)) = true from decide_eq_true (by rw [wr_i64 (by omega) (by omega)]; omega)) ?_)
      refine GP.take rfl rfl (Does.pickT rfl rfl ?_)
      refine GP.take rfl rfl (Does.assign rfl ?_)
      refine GP.keep [(6, _)] (.cons rfl .nil) ?_
      refine G.dropP ((b7, cel 3 [.int .i64 (IntKind.i64.wrap ((0 + sc : Nat) : Int))]) :: (b4, cel 48 [TV]) :: (C10 ++ (C12 ++ (C20 ++ C1)))) (A := Et) (by classical exact List.perm_iff_count.2 fun q => by simp only [List.count_append, List.count_cons] <;> omega) ?_
      exact fin_ret (fn := Try.f8) (R := []) Try.func8 (res1 rfl rfl) .all ⟨rfl, rfl⟩
    exact GP.stop
  refine GP.alt ?_ ?_
  · skip
    refine GP.takeG rfl rfl rfl rfl (Does.callN (.cons rfl .nil) cb19 (digits_nd M (by omega)) (fun _ _ => trivial) ?_)
    rintro _ _ ⟨rfl, rfl⟩
    simp only [List.append_nil]
    refine GP.takeG rfl rfl rfl rfl (Does.mul rfl rfl (r := ((3 * nd M : Nat) : Int)) (wrc_i64 (by omega) (by omega) (by omega)) ?_)
    refine GP.takeG rfl rfl rfl rfl (Does.add rfl rfl (r := ((3 * nd M + 3 : Nat) : Int)) (wrc_i64 (by omega) (by omega) (by omega)) ?_)
    refine GP.takeG rfl rfl rfl rfl (Does.mul rfl rfl (r := ((inn.length * (3 * nd M + 3) : Nat) : Int)) (wrc_i64 (by rw [Int.natCast_mul]) (by rw [← Int.natCast_mul]; omega) (by rw [← Int.natCast_mul]; omega)) ?_)
    refine GP.takeG rfl rfl rfl rfl (Does.load1N rfl ft3 (hN _ (.head _)) (CellIn.own (.head _) rfl) ?_)
    refine GP.takeG rfl rfl rfl rfl (Does.gtr rfl rfl (show decide (IntKind.i64.wrap ((0 + lc : Nat) : Int) > ((inn.length * (3 * nd M + 3) : Nat) : Int)) = false from decide_eq_false (by rw [wr_i64 (by omega) (by omega)]; omega)) ?_)
    refine GP.take rfl rfl (Does.pickF rfl rfl ?_)
    refine GP.keep [(2, _), (7, _), (8, _), (9, _), (10, _), (12, _), (109, _)] (.cons rfl (.cons rfl (.cons rfl (.cons rfl (.cons rfl (.cons rfl (.cons rfl .nil))))))) ?_
    refine G.condF rfl ?_
    refine G.skip ?_
    repeat refine G.seq ?_
    refine G.region [.gen] (.take 0 .done) rfl ?_
    refine GP.take0 rfl (Does.store1 rfl rfl sz3 rfl .head .head ?_)
    refine GP.keep [(2, _), (7, _), (8, _), (9, _), (10, _), (12, _)] (.cons rfl (.cons rfl (.cons rfl (.cons rfl (.cons rfl (.cons rfl .nil)))))) ?_
    repeat refine G.seq ?_
    refine G.dropP C18 (A := (b7, cel 3 [.int .i64 0]) :: (b4, cel 48 [TV]) :: (Et ++ (C10 ++ (C12 ++ C1)))) (by classical exact List.perm_iff_count.2 fun q => by simp only [List.cons_append, List.count_append, List.count_cons] <;> omega) ?_
    refine G.region [.loc, .loc, .gen, .loc] (.take 0 (.take 1 (.take 2 (.take 3 .done)))) rfl ?_
    refine GP.take rfl rfl (Does.move rfl ?_)
    refine GP.take rfl rfl (Does.move rfl ?_)
    refine GP.take rfl rfl (Does.callP (C10 ++ (C12 ++ C1)) (wE b7 b4 TV Et 0) (.cons rfl (.cons rfl .nil)) cb35 (by classical exact List.perm_iff_count.2 fun q => by simp only [wE, wrap0, List.count_append, List.count_cons] <;> omega) (sort_ct hwc (.func (.func 32) #[] #[.pointer (some ⟨b7, 0, none⟩), .pointer (some ⟨b4, 0, none⟩)]) (new_ct 32 #[] #[.pointer (some ⟨b7, 0, none⟩), .pointer (some ⟨b4, 0, none⟩)]) inn ad10 cap10 lb10 0 0 had10 hnot (by omega)) (fun w hs j u hj => hrow10 (cxF Try.prog 8 Try.f8.ntmps w0 (List.map Prod.fst Et) fun v C' => v = .bool true ∧ C' = Et) (wE b7 b4 TV Et 0) (C12 ++ C1) w (hs.perm (by classical exact List.perm_iff_count.2 fun q => by simp only [wE, wrap0, List.cons_append, List.count_append, List.count_cons] <;> omega)) j u hj) ?_)
    rintro sv20 _ ⟨C20, h20, rfl⟩
    refine ⟨(b7, cel 3 [.int .i64 (IntKind.i64.wrap ((0 + sortC cmp inn : Nat) : Int))]) :: (b4, cel 48 [TV]) :: (Et ++ (C10 ++ (C12 ++ (C20 ++ C1)))), (by classical exact List.perm_iff_count.2 fun q => by simp only [wE, List.count_append, List.count_cons] <;> omega), ?_⟩
    refine GP.take rfl rfl (Does.assign rfl ?_)
    refine GP.keep [(2, _), (7, _), (8, _), (9, _), (10, _), (12, _), (20, _)] (.cons rfl (.cons rfl (.cons rfl (.cons rfl (.cons rfl (.cons rfl (.cons rfl .nil))))))) ?_
    repeat refine G.seq ?_
    have hsc := sortC_le cmp inn
    have hsl := sortF_length cmp inn
    have hndL := nd_le inn.length
    have hbig2 : inn.length * (3 * nd inn.length + 3) ≤ 4000000000000 := Nat.le_trans (Nat.mul_le_mul hib (show 3 * nd inn.length + 3 ≤ 3145731 by omega)) (by decide)
    have hon20 := once_sort hnum cmp
    obtain ⟨ad20, cap20, lb20, hs20, had20, -, -, hrow20⟩ := h20.form
    subst hs20
    obtain ⟨sc, hsce⟩ : ∃ sc, sortC cmp inn = sc := ⟨_, rfl⟩
    rw [hsce] at hsc ⊢
    obtain ⟨al, hal⟩ : ∃ al, sortF cmp inn = al := ⟨_, rfl⟩
    rw [hal] at hsl hon20 had20 h20 hrow20 ⊢
    refine G.draw [.loc, .loc, .gen, .loc, .loc, .loc, .gen, .loc, .loc, .load, .loc, .loc, .loc, .loc, .gen, .loc, .loc, .loc, .loc, .loc, .loc] (.take 0 (.take 1 (.alt 2 (.take 3 (.take 4 (.take 5 (.alt 6 (.take 7 (.take 8 (.take 10 (.take 11 (.take 12 (.take 13 (.alt 9 (.alt 14 (.take 15 (.take 16 (.take 17 (.take 18 (.take 19 (.take 20 .done)))))) .stop) (.alt 14 (.take 15 (.take 16 (.take 17 (.take 9 (.take 18 (.take 19 (.take 20 .done))))))) .stop)))))))) .stop)))) .stop))) (by exact mixed) (by kernel_rfl) ?_
    intro N hN0 hN
    refine GP.take rfl rfl (Does.move rfl ?_)
    refine GP.take rfl rfl (Does.move rfl ?_)
    refine GP.one ?_
    refine GP.take rfl rfl (Does.callN (.cons rfl (.cons rfl .nil)) cb36 (each_ct inn out ad10 ad12 cap10 cap12 lb10 0 lb12 0 had10 had12 hib (by omega) honce) (fun w hs => ⟨fun j u hj => hrow10 (cxF Try.prog 8 Try.f8.ntmps w0 (List.map Prod.fst Et) fun v C' => v = .bool true ∧ C' = Et) ((b7, cel 3 [.int .i64 (IntKind.i64.wrap ((0 + sc : Nat) : Int))]) :: (b4, cel 48 [TV]) :: Et) (C12 ++ (C20 ++ C1)) w (hs.perm (by classical exact List.perm_iff_count.2 fun q => by simp only [List.cons_append, List.count_append, List.count_cons] <;> omega)) j u hj, fun j u hj => hrow12 (cxF Try.prog 8 Try.f8.ntmps w0 (List.map Prod.fst Et) fun v C' => v = .bool true ∧ C' = Et) ((b7, cel 3 [.int .i64 (IntKind.i64.wrap ((0 + sc : Nat) : Int))]) :: (b4, cel 48 [TV]) :: Et ++ C10) (C20 ++ C1) w (hs.perm (by classical exact List.perm_iff_count.2 fun q => by simp only [List.cons_append, List.count_append, List.count_cons] <;> omega)) j u hj⟩) ?_)
    rintro _ _ ⟨rfl, rfl⟩
    simp only [List.append_nil]
    refine GP.take rfl rfl (Does.move rfl ?_)
    refine GP.takeG rfl rfl rfl rfl (Does.move rfl ?_)
    refine GP.takeG rfl rfl rfl rfl (Does.move rfl ?_)
    refine GP.one ?_
    refine GP.takeG rfl rfl rfl rfl (Does.callN (.cons rfl (.cons rfl .nil)) cb36 (each_ct inn al ad10 ad20 cap10 cap20 lb10 0 lb20 0 had10 had20 hib (by omega) hon20) (fun w hs => ⟨fun j u hj => hrow10 (cxF Try.prog 8 Try.f8.ntmps w0 (List.map Prod.fst Et) fun v C' => v = .bool true ∧ C' = Et) ((b7, cel 3 [.int .i64 (IntKind.i64.wrap ((0 + sc : Nat) : Int))]) :: (b4, cel 48 [TV]) :: Et) (C12 ++ (C20 ++ C1)) w (hs.perm (by classical exact List.perm_iff_count.2 fun q => by simp only [List.cons_append, List.count_append, List.count_cons] <;> omega)) j u hj, fun j u hj => hrow20 (cxF Try.prog 8 Try.f8.ntmps w0 (List.map Prod.fst Et) fun v C' => v = .bool true ∧ C' = Et) ((b7, cel 3 [.int .i64 (IntKind.i64.wrap ((0 + sc : Nat) : Int))]) :: (b4, cel 48 [TV]) :: Et ++ (C10 ++ C12)) (C1) w (hs.perm (by classical exact List.perm_iff_count.2 fun q => by simp only [List.cons_append, List.count_append, List.count_cons] <;> omega)) j u hj⟩) ?_)
    rintro _ _ ⟨rfl, rfl⟩
    simp only [List.append_nil]
    refine GP.take rfl rfl (Does.pickT rfl rfl ?_)
    refine GP.take rfl rfl (Does.move rfl ?_)
    refine GP.takeG rfl rfl rfl rfl (Does.move rfl ?_)
    refine GP.takeG rfl rfl rfl rfl (Does.len rfl is34 ?_)
    refine GP.takeG rfl rfl rfl rfl (Does.move rfl ?_)
    refine GP.takeG rfl rfl rfl rfl (Does.len rfl is34 ?_)
    refine GP.alt ?_ ?_
    · skip
      refine GP.takeG rfl rfl rfl rfl (Does.load1N rfl ft3 (hN _ (.head _)) (CellIn.own (.head _) rfl) ?_)
      refine GP.one ?_
      refine GP.takeG rfl rfl rfl rfl (Does.callN (.cons rfl .nil) cb19 (digits_nd inn.length (by omega)) (fun _ _ => trivial) ?_)
      rintro _ _ ⟨rfl, rfl⟩
      simp only [List.append_nil]
      refine GP.takeG rfl rfl rfl rfl (Does.mul rfl rfl (r := ((3 * nd inn.length : Nat) : Int)) (wrc_i64 (by omega) (by omega) (by omega)) ?_)
      refine GP.takeG rfl rfl rfl rfl (Does.add rfl rfl (r := ((3 * nd inn.length + 3 : Nat) : Int)) (wrc_i64 (by omega) (by omega) (by omega)) ?_)
      refine GP.takeG rfl rfl rfl rfl (Does.mul rfl rfl (r := ((inn.length * (3 * nd inn.length + 3) : Nat) : Int)) (wrc_i64 (by rw [Int.natCast_mul]) (by rw [← Int.natCast_mul]; omega) (by rw [← Int.natCast_mul]; omega)) ?_)
      refine GP.takeG rfl rfl rfl rfl (Does.leq rfl rfl (show decide (IntKind.i64.wrap ((0 + sc : Nat) : Int) ≤ ((inn.length * (3 * nd inn.length + 3) : Nat) : Int)) = true from decide_eq_true (by rw [wr_i64 (by omega) (by omega)]; omega)) ?_)
      refine GP.take rfl rfl (Does.pickT rfl rfl ?_)
      refine GP.take rfl rfl (Does.assign rfl ?_)
      refine GP.keep [(6, _)] (.cons rfl .nil) ?_
      refine G.dropP ((b7, cel 3 [.int .i64 (IntKind.i64.wrap ((0 + sc : Nat) : Int))]) :: (b4, cel 48 [TV]) :: (C10 ++ (C12 ++ (C20 ++ C1)))) (A := Et) (by classical exact List.perm_iff_count.2 fun q => by simp only [List.count_append, List.count_cons] <;> omega) ?_
      exact fin_ret (fn := Try.f8) (R := []) Try.func8 (res1 rfl rfl) .all ⟨rfl, rfl⟩
    refine GP.alt ?_ ?_
    · skip
      refine GP.takeG rfl rfl rfl rfl (Does.callN (.cons rfl .nil) cb19 (digits_nd inn.length (by omega)) (fun _ _ => trivial) ?_)
      rintro _ _ ⟨rfl, rfl⟩
      simp only [List.append_nil]
      refine GP.takeG rfl rfl rfl rfl (Does.mul rfl rfl (r := ((3 * nd inn.length : Nat) : Int)) (wrc_i64 (by omega) (by omega) (by omega)) ?_)
      refine GP.takeG rfl rfl rfl rfl (Does.add rfl rfl (r := ((3 * nd inn.length + 3 : Nat) : Int)) (wrc_i64 (by omega) (by omega) (by omega)) ?_)
      refine GP.takeG rfl rfl rfl rfl (Does.mul rfl rfl (r := ((inn.length * (3 * nd inn.length + 3) : Nat) : Int)) (wrc_i64 (by rw [Int.natCast_mul]) (by rw [← Int.natCast_mul]; omega) (by rw [← Int.natCast_mul]; omega)) ?_)
      refine GP.takeG rfl rfl rfl rfl (Does.load1N rfl ft3 (hN _ (.head _)) (CellIn.own (.head _) rfl) ?_)
      refine GP.takeG rfl rfl rfl rfl (Does.leq rfl rfl (show decide (IntKind.i64.wrap ((0 + sc : Nat) : Int) ≤ ((inn.length * (3 * nd inn.length + 3) : Nat) : Int)) = true from decide_eq_true (by rw [wr_i64 (by omega) (by omega)]; omega)) ?_)
      refine GP.take rfl rfl (Does.pickT rfl rfl ?_)
      refine GP.take rfl rfl (Does.assign rfl ?_)
      refine GP.keep [(6, _)] (.cons rfl .nil) ?_
      refine G.dropP ((b7, cel 3 [.int .i64 (IntKind.i64.wrap ((0 + sc : Nat) : Int))]) :: (b4, cel 48 [TV]) :: (C10 ++ (C12 ++ (C20 ++ C1)))) (A := Et) (by classical exact List.perm_iff_count.2 fun q => by simp only [List.count_append, List.count_cons] <;> omega) ?_
      exact fin_ret (fn := Try.f8) (R := []) Try.func8 (res1 rfl rfl) .all ⟨rfl, rfl⟩
    exact GP.stop
  exact GP.stop
theorem tab_of {W : World} {T : List Int} {b o : Nat} (h : At W b o (T.flatMap (fun x => [Value.int .i64 x]))) : ∃ Et : Chunks, TabIn T b o Et ∧ (Et.map Prod.fst).Nodup ∧ ∀ c ∈ Et, W.heap[c.1]? = some c.2 := by
  by_cases hT : T = []
  · exact ⟨[], fun hne => absurd hT hne, .nil, fun c hc => by cases hc⟩
  have hcell : ∀ i v, T[i]? = some v → W.cell? ⟨b, o + i, none⟩ = some (.int .i64 v) := fun i v hi => by
    obtain ⟨hl, rfl⟩ := List.getElem?_eq_some_iff.1 hi
    have := h (i * 1 + 0) _ (flat_get (fun x => [Value.int .i64 x]) 1 (fun _ => rfl) T i hl 0 _ rfl)
    simpa using this
  have h0 := hcell 0 T[0]! (by cases T with | nil => exact absurd rfl hT | cons x l => rfl)
  rcases hb : W.heap[b]? with _ | ob
  · simp [World.cell?, hb] at h0
  · cases ob with
    | cells arr e fr =>
      refine ⟨[(b, .cells arr.toList.toArray e fr)], fun _ => ⟨arr.toList, e, fr, .head _, fun i v hi => ?_⟩, by simp, fun c hc => ?_⟩
      · have := hcell i v hi
        simp only [World.cell?, hb] at this
        simpa using this
      · simp only [List.mem_singleton] at hc
        subst hc
        rw [hb, Array.toArray_toList]
    | _ => simp [World.cell?, hb] at h0
theorem below_of {W W' : World} {Et : Chunks} (hst : St W (Et.map Prod.fst) Et W') (hown : ∀ c ∈ Et, W.heap[c.1]? = some c.2) : Go.RowKit.Below W.heap.size W W' :=
  ⟨hst.mods.os, hst.mods.tape, hst.mods.output, hst.mods.size, fun k hk => by
    by_cases hm : k ∈ Et.map Prod.fst
    · obtain ⟨c, hc, rfl⟩ := List.mem_map.1 hm
      rw [hst.own c hc, hown c hc]
    · exact hst.mods.block k hk hm⟩
set_option maxRecDepth 100000 in
theorem heapWild_contract (H : Type) (enc : TypeId × Value → H) (W : World) (base : Nat) (args : Array Value) (ds gs : List (DataW H)) (before : List MemPlace)
    (hval : ∀ (j : Nat) t v, Try.f8.params[j]? = some t → args[j]? = some v → Value.okWide Try.prog W .any base t v)
    (hW : DataW.Whole enc Try.prog Try.f8.params.toList Rows.heapWildSpec.vars false W args.toList ds gs before) (hk : Rows.uptoSmall H (ds ++ gs) = true) :
    Calls Try.prog 8 args W fun e W' => ∃ v, e = .returned v ∧ Rows.heapWildSpec.post enc Try.prog Try.f8 false true false false W args v W' := by
  have hW0 := hW
  obtain ⟨p, q, hA, -, -, -, -⟩ := hW
  have hsm : Rows.uptoBulkAll (ds ++ gs) ≤ 1048576 := of_decide_eq_true hk
  obtain ⟨v, vs, d, ds', p1, q1, n1, hargs, rfl, rfl, h1, h2⟩ := trodAll_split (t := 48) (ts := [48, 3]) hA
  obtain ⟨v2, vs2, d2, ds2, p2, q2, n2, rfl, rfl, rfl, h3, h4⟩ := trodAll_split (t := 48) (ts := [3]) h2
  obtain ⟨v3, vs3, d3, ds3, p3, q3, n3, rfl, rfl, rfl, h5, h6⟩ := trodAll_split (t := 3) (ts := []) h4
  obtain ⟨rfl, rfl, rfl⟩ := trodAll_end h6
  obtain rfl : args = #[v, v2, v3] := by cases args; simpa using hargs
  obtain ⟨a0, len, cap, rfl⟩ := Go.WideShapes.okWide_slice Try.underlying48 (hval 0 48 _ rfl rfl)
  obtain ⟨a1, len1, cap1, rfl⟩ := Go.WideShapes.okWide_slice Try.underlying48 (hval 1 48 _ rfl rfl)
  obtain ⟨n, rfl⟩ := Go.WideShapes.okWide_int Try.underlying3 (hval 2 3 _ rfl rfl)
  obtain ⟨ks, ad, cap', b, o, e1, e2, e3, e4, e5, e6⟩ := inv_ints h1
  obtain ⟨T, ad1, cap1', b1, o1, f1, f2, f3, f4, f5, f6⟩ := inv_ints h3
  have e1' : [Value.slice a0 len cap] = [.slice ad ks.length cap'] := e1
  have f1' : [Value.slice a1 len1 cap1] = [.slice ad1 T.length cap1'] := f1
  simp only [List.cons.injEq, Value.slice.injEq, and_true] at e1' f1'
  obtain ⟨rfl, rfl, rfl⟩ := e1'
  obtain ⟨rfl, rfl, rfl⟩ := f1'
  have hbd : Rows.uptoBulk d + (Rows.uptoBulk d2 + (Rows.uptoBulk d3 + Rows.uptoBulkAll gs)) ≤ 1048576 := hsm
  have e6' : ks.length + 1 ≤ Rows.uptoBulk d := e6
  have f6' : T.length + 1 ≤ Rows.uptoBulk d2 := f6
  obtain ⟨Et, hTab, hnd, hown⟩ := tab_of f4
  refine (wild_walk ks a0 cap b o e3 T a1 cap1 b1 o1 f3 n Et hTab (by omega) W hnd hown e4).mono ?_
  rintro e W' ⟨_, rfl, C', ⟨rfl, rfl⟩, hst⟩
  exact ⟨_, rfl, law_post laid maps full (by decide +kernel) rfl (fun ds hds => by match ds, hds with | [d, d2, d3], _ => rfl) rfl Try.underlying4 hW0 (below_of hst hown)⟩
set_option maxRecDepth 100000 in
theorem heapWild_lifted (os : Os) (started : os.Started) (H : Type) (enc : TypeId × Value → H) (F : Stop.Interp) :
    ReturnsInHanded {} Try.checked os 8 .any ((Rows.OpenSpec.upto Rows.heapWildSpec).pre6 enc Try.prog Try.f8 Rows.heapWildUptoRow.domain false) (((Rows.OpenSpec.upto Rows.heapWildSpec).at F).post enc Try.prog Try.f8 false true false false) := by
  refine returnsInHanded_of_cond (C := Try.checked) (s := Rows.OpenSpec.upto Rows.heapWildSpec) (k := Rows.uptoSmall) rfl own started (by kernel_rfl) Try.func8
    (OpenSpec.witness (enc := enc) (C := Try.checked) (s := Rows.OpenSpec.upto Rows.heapWildSpec) (k := Rows.uptoSmall) rfl false ⟨#[], #[.slice none 0 0, .slice none 0 0, .int .i64 0], []⟩ 8 (by kernel_rfl) (by kernel_rfl) (by kernel_rfl)
      (x := ([.nil, .nil, .lit (.int .i64 0)], [], [])) (by kernel_rfl) rfl (by kernel_rfl)) ?_
  intro W base args ds gs before hval hW _ hk _
  exact heapWild_contract H enc W base args ds gs before hval hW hk

/-- THE STATEMENT. -/
theorem heapWild_holds : Rows.HeapWildUptoSaid :=
  OpenClaim.holds_of_cond 8 Try.f8 rfl rfl rfl rfl rfl rfl rfl ⟨rfl, rfl, rfl, rfl, rfl⟩ rfl rfl rfl rfl rfl (by kernel_rfl) Try.func8 (by kernel_rfl)
    (of_decide_eq_true (by kernel_rfl)) (by unfold Func.isWrapper; first | (rw [if_pos (by decide +kernel)]; kernel_rfl) | (rw [if_neg (by decide +kernel)]; exact ⟨rfl, rfl⟩))
    (fun os started H enc _ F => heapWild_lifted os started H enc F)

end Go.Proofs.Ytcgenmfnlocbbaa.T
