/- 'HeapFresh': the answers of Sort and Least are new memory, of the list and of one another, also where nothing was to be done. For every list and n of at most 1048576 values together. -/
import Derived.Test.YtcgenmfnlocbbaaRows
import Derived.Test.YtcgenmfnlocbbaaHk
namespace Go.Proofs.Ytcgenmfnlocbbaa.T
open Go.Lg Go.Hp Go.RowKit

theorem own : ownKnob Try.prog.godebug = none := by kernel_rfl
theorem laid : laidOutB Try.prog = true := by kernel_rfl
theorem maps : mapsRowed Try.prog = true := by kernel_rfl
theorem full : ∀ t e, t < Try.prog.types.size → Try.prog.underlying t = some (.slice e) → 0 < Try.prog.cellsOf e := slices_full_of Try.prog (by kernel_rfl)

theorem grown2_ct (l : List (Int × Int)) (ad : Option Addr) (cap : Nat) (Cl : Chunks) (b : Nat) (mk : Int) (hl : LRep l (.slice ad l.length cap) Cl) (hkp : Keep l b Cl) (hbig : l.length ≤ 16777216) :
    Ct Try.prog 38 [.slice ad l.length cap, .int .i64 mk].toArray (fun _ => True) Cl (fun v C' => ∃ ad2 cap2 b2, v = .slice ad2 (l ++ List.replicate 64 (mk, mk)).length cap2 ∧ (l ++ List.replicate 64 (mk, mk) ≠ [] → ad2 = some ⟨b2, 0, none⟩) ∧ Keep l b C' ∧ Keep (l ++ List.replicate 64 (mk, mk)) b2 C') := by
  refine (grown_ct l _ Cl b mk hl hkp hbig).mono (fun _ h => h) ?_
  rintro v C' ⟨C2, Cold, h2, hk, rfl⟩
  obtain ⟨ad2, cap2, b2, rfl, h3, -, hk2⟩ := h2.keep
  exact ⟨ad2, cap2, b2, rfl, h3, hk, fun hne => by obtain ⟨sp, hm⟩ := hk2 hne; exact ⟨sp, List.mem_append_left _ hm⟩⟩
theorem stands2_ct (l : List (Int × Int)) (n : Nat) (mk bh : Int) (hl : l = mks mk n) (hm1 : -100000 ≤ mk) (hm2 : mk ≤ 100000) (ad ad2 : Option Addr) (cap cap2 b b2 : Nat) (had : l ≠ [] → ad = some ⟨b, 0, none⟩) (had2 : l ++ List.replicate 64 (bh, bh) ≠ [] → ad2 = some ⟨b2, 0, none⟩) (hbig : n ≤ 16777216) :
    Ct Try.prog 39 [.slice ad n cap, .slice ad2 (l ++ List.replicate 64 (bh, bh)).length cap2, .int .i64 mk, .int .i64 bh].toArray (fun w => At w b 0 (l.flatMap enc1) ∧ At w b2 0 ((l ++ List.replicate 64 (bh, bh)).flatMap enc1)) [] (fun v C' => v = .bool true ∧ C' = []) := by
  subst hl
  have := stands_ct n mk bh hm1 hm2 ad ad2 cap cap2 b b2 had had2 hbig
  rw [mks_length] at this
  exact this
theorem marked2_ct (n : Nat) (l : List (Int × Int)) (ad : Option Addr) (cap : Nat) (Cl : Chunks) (mk : Int) (hm1 : -100000 ≤ mk) (hm2 : mk ≤ 100000) (hn : l.length = n) (hl : LRep l (.slice ad n cap) Cl) (hbig : n ≤ 16777216) :
    Ct Try.prog 37 [.slice ad n cap, .int .i64 mk].toArray (fun _ => True) Cl (fun v C' => v = .tuple #[] ∧ ∃ l' b', l' = mks mk n ∧ l'.length = n ∧ LRep l' (.slice ad n cap) C' ∧ (l' ≠ [] → ad = some ⟨b', 0, none⟩) ∧ Keep l' b' C') := by
  refine (marked_ct l _ Cl mk hm1 hm2 hl (by omega)).mono (fun _ h => h) ?_
  rintro v C' ⟨rfl, h⟩
  rw [hn] at h
  obtain ⟨ad2, cap2, b2, e, h3, -, hk2⟩ := h.keep
  simp only [Value.slice.injEq] at e
  obtain ⟨rfl, -, rfl⟩ := e
  exact ⟨rfl, _, b2, rfl, mks_length mk n, h, h3, hk2⟩
theorem fresh_walk (l : List (Int × Int)) (n : Int) (ad : Option Addr) (cap b o : Nat) (had : l ≠ [] → ad = some ⟨b, o, none⟩) (hcap : l.length ≤ cap) (hbig : l.length ≤ 1048576) :
    Ct Try.prog 9 [.slice ad l.length cap, .int .i64 n].toArray (fun w => At w b o (l.flatMap enc1)) [] (fun v C' => v = .bool true ∧ C' = []) := by
  refine ct_of_walk (fn := Try.f9) Try.func9 rfl rfl fun w0 hpre hst => ?_
  clear hst
  repeat refine G.seq ?_
  refine G.region [.loc] (.take 0 .done) rfl ?_
  refine GP.take rfl rfl (Does.assign rfl ?_)
  refine GP.keep [(0, _), (1, _)] (.cons rfl (.cons rfl .nil)) ?_
  repeat refine G.seq ?_
  refine G.region [.loc] (.take 0 .done) rfl ?_
  refine GP.take rfl rfl (Does.assign rfl ?_)
  refine GP.keep [(0, _), (1, _), (5, _)] (.cons rfl (.cons rfl (.cons rfl .nil))) ?_
  repeat refine G.seq ?_
  refine G.region [.loc, .loc, .gen, .loc] (.take 0 (.take 1 (.take 2 (.take 3 .done)))) rfl ?_
  refine GP.take rfl rfl (Does.move rfl ?_)
  refine GP.take rfl rfl (Does.move rfl ?_)
  refine GP.take rfl rfl (Does.appendT rfl (l := []) (xs := l) (ad2 := ad) (mc := cap) [] [] [] rfl rfl rfl LRep.nil (fun hne => ⟨b, o, had hne, At.row (by simp) hpre⟩) (by simp only [List.length_nil]; omega) ?_)
  intro s5a C5a h5a
  simp only [List.nil_append] at h5a
  refine GP.take rfl rfl (Does.assign rfl ?_)
  refine GP.keep [(1, _), (5, _)] (.cons rfl (.cons rfl .nil)) ?_
  repeat refine G.seq ?_
  obtain ⟨ad5a, cap5a, lb5a, hs5a, had5a, hc5a, -, hrow5a⟩ := h5a.form
  subst hs5a
  refine G.region [.loc, .gen, .loc] (.take 0 (.take 1 (.take 2 .done))) rfl ?_
  refine GP.take rfl rfl (Does.move rfl ?_)
  refine GP.take rfl rfl (Does.callN (.cons rfl (.cons rfl .nil)) cb30 (docSort_ct l false ad5a cap5a lb5a 0 had5a hc5a (by omega)) (fun w hs j u hj => hrow5a (cxF Try.prog 9 Try.f9.ntmps w0 (List.map Prod.fst ([] : Chunks)) fun v C' => v = .bool true ∧ C' = []) [] [] w (hs.perm (by classical exact List.perm_iff_count.2 fun q => by simp only [List.nil_append, List.append_nil] <;> omega)) j u hj) ?_)
  intro s5 C5 h5
  refine GP.take rfl rfl (Does.assign rfl ?_)
  refine GP.keep [(1, _), (5, _)] (.cons rfl (.cons rfl .nil)) ?_
  repeat refine G.seq ?_
  refine G.dropP C5a (A := C5) (by classical exact List.perm_iff_count.2 fun q => by simp only [List.nil_append, List.append_nil, List.count_append] <;> omega) ?_
  have hD0 := sortF_doc (.inl ⟨rfl, rfl⟩ : AllOk false cmpK) l
  have hDl := docF_length false l.length l rfl
  have hsk := sortI_keys l
  rw [hD0] at hsk
  generalize docF false l.length l = D at *
  clear hD0
  have hDD := sort_self D hsk
  obtain ⟨m, hm⟩ : ∃ m, D.length = m := ⟨_, rfl⟩
  obtain ⟨M, hM⟩ : ∃ M, (min n D.length).toNat = M := ⟨_, rfl⟩
  have hMl : M ≤ D.length := by omega
  have hMn : (if (D.length : Int) < (if (0 : Int) > n then 0 else n) then (D.length : Int) else (if (0 : Int) > n then 0 else n)) = (M : Int) := by (repeat' split) <;> omega
  have hHl : D.length / 2 ≤ D.length := by omega
  have hsH : sortF cmpK (D.take (D.length / 2)) = D.take (D.length / 2) := sort_self _ (hsk.sublist (List.take_sublist _ _))
  have hlM : leastF cmpK D M = D.take M := by rw [least_take lawK antiK D M hMl, hDD]
  have htH : (D.take (D.length / 2)).length = D.length / 2 := by rw [List.length_take]; omega
  have htM : (D.take M).length = M := by rw [List.length_take]; omega
  have hq2 : (D.length : Int).tdiv 2 = ((D.length / 2 : Nat) : Int) := (Int.ofNat_tdiv _ _).symm
  obtain ⟨ad5, cap5, lb5, hs5, had5, hc5, -, hrow5⟩ := h5.form
  subst hs5
  refine G.region [.loc] (.take 0 .done) rfl ?_
  refine GP.take rfl rfl (Does.assign rfl ?_)
  refine GP.keep [(1, _), (5, _), (6, _)] (.cons rfl (.cons rfl (.cons rfl .nil))) ?_
  repeat refine G.seq ?_
  refine G.region [.loc, .loc, .gen, .loc] (.take 0 (.take 1 (.take 2 (.take 3 .done)))) rfl ?_
  refine GP.take rfl rfl (Does.move rfl ?_)
  refine GP.take rfl rfl (Does.move rfl ?_)
  refine GP.take rfl rfl (Does.appendT rfl (l := []) (xs := D) (ad2 := ad5) (mc := cap5) [] [] C5 rfl rfl rfl LRep.nil (fun hne => ⟨lb5, 0, had5 hne, fun w hs j u hj => hrow5 (cxF Try.prog 9 Try.f9.ntmps w0 (List.map Prod.fst ([] : Chunks)) fun v C' => v = .bool true ∧ C' = []) [] [] w (hs.perm (by classical exact List.perm_iff_count.2 fun q => by simp only [List.nil_append, List.append_nil] <;> omega)) j u hj⟩) (by simp only [List.length_nil]; omega) ?_)
  intro s6 C6 h6
  simp only [List.nil_append] at h6 ⊢
  refine GP.take rfl rfl (Does.assign rfl ?_)
  refine GP.keep [(1, _), (5, _), (6, _)] (.cons rfl (.cons rfl (.cons rfl .nil))) ?_
  repeat refine G.seq ?_
  obtain ⟨ad6, cap6, lb6, hs6, had6, hc6, -, hrow6⟩ := h6.form
  subst hs6
  refine G.region [.loc, .loc, .loc, .loc, .loc, .loc] (.take 0 (.take 1 (.take 2 (.take 3 (.take 4 (.take 5 .done)))))) rfl ?_
  refine GP.take rfl rfl (Does.move rfl ?_)
  refine GP.take rfl rfl (Does.max rfl rfl rfl ?_)
  refine GP.take rfl rfl (Does.move rfl ?_)
  refine GP.take rfl rfl (Does.len rfl is34 ?_)
  refine GP.take rfl rfl (Does.min rfl rfl hMn ?_)
  refine GP.take rfl rfl (Does.assign rfl ?_)
  refine GP.keep [(1, _), (5, _), (6, _), (7, _)] (.cons rfl (.cons rfl (.cons rfl (.cons rfl .nil)))) ?_
  repeat refine G.seq ?_
  refine G.region [.loc, .loc, .loc, .loc] (.take 0 (.take 1 (.take 2 (.take 3 .done)))) rfl ?_
  refine GP.take rfl rfl (Does.move rfl ?_)
  refine GP.take rfl rfl (Does.len rfl is34 ?_)
  refine GP.take rfl rfl (Does.quo rfl rfl (by omega) (r := ((D.length / 2 : Nat) : Int)) (wrc_i64 hq2 (by rw [hq2]; omega) (by rw [hq2]; omega)) ?_)
  refine GP.take rfl rfl (Does.assign rfl ?_)
  refine GP.keep [(1, _), (5, _), (6, _), (7, _), (8, _)] (.cons rfl (.cons rfl (.cons rfl (.cons rfl (.cons rfl .nil))))) ?_
  repeat refine G.seq ?_
  refine G.region [.loc, .gen, .loc] (.take 0 (.take 1 (.take 2 .done))) rfl ?_
  refine GP.take rfl rfl (Does.move rfl ?_)
  refine GP.take rfl rfl (Does.callN (.cons rfl (.cons rfl .nil)) cb35 (sort_ct byK_ok (.func (.func 14) #[] #[]) (new_ct 14 #[] #[]) D ad5 cap5 lb5 0 0 had5 (by simp) (by omega)) (fun w hs j u hj => hrow5 (cxF Try.prog 9 Try.f9.ntmps w0 (List.map Prod.fst ([] : Chunks)) fun v C' => v = .bool true ∧ C' = []) (C6) ([]) w (hs.perm (by classical exact List.perm_iff_count.2 fun q => by simp only [List.append_nil, List.count_append] <;> omega)) j u hj) ?_)
  rintro s9 _ ⟨C9, h9, rfl⟩
  rw [hDD] at h9
  refine GP.take rfl rfl (Does.assign rfl ?_)
  refine GP.keep [(1, _), (5, _), (6, _), (7, _), (8, _), (9, _)] (.cons rfl (.cons rfl (.cons rfl (.cons rfl (.cons rfl (.cons rfl .nil)))))) ?_
  refine G.dropP [] (A := C6 ++ (C5 ++ (C9))) (by classical exact List.perm_iff_count.2 fun q => by simp only [List.append_nil, List.count_append] <;> omega) ?_
  repeat refine G.seq ?_
  refine G.region [.loc, .loc, .gen, .loc] (.take 0 (.take 1 (.take 2 (.take 3 .done)))) rfl ?_
  refine GP.take rfl rfl (Does.move rfl ?_)
  refine GP.take rfl rfl (Does.move rfl ?_)
  refine GP.take rfl rfl (Does.callN (.cons rfl (.cons rfl (.cons rfl .nil))) cb33 (least_ct byK_ok (.func (.func 14) #[] #[]) (.inl rfl) D n ad5 cap5 lb5 0 0 had5 (by simp) (by omega)) (fun w hs j u hj => hrow5 (cxF Try.prog 9 Try.f9.ntmps w0 (List.map Prod.fst ([] : Chunks)) fun v C' => v = .bool true ∧ C' = []) (C6) (C9) w (hs.perm (by classical exact List.perm_iff_count.2 fun q => by simp only [List.count_append] <;> omega)) j u hj) ?_)
  rintro s10 _ ⟨C10, h10, rfl⟩
  rw [hM, hlM] at h10
  refine GP.take rfl rfl (Does.assign rfl ?_)
  refine GP.keep [(1, _), (5, _), (6, _), (7, _), (8, _), (9, _), (10, _)] (.cons rfl (.cons rfl (.cons rfl (.cons rfl (.cons rfl (.cons rfl (.cons rfl .nil))))))) ?_
  refine G.dropP [] (A := C6 ++ (C5 ++ (C9 ++ (C10)))) (by classical exact List.perm_iff_count.2 fun q => by simp only [List.append_nil, List.count_append] <;> omega) ?_
  repeat refine G.seq ?_
  refine G.region [.loc, .loc, .loc, .gen, .loc] (.take 0 (.take 1 (.take 2 (.take 3 (.take 4 .done))))) rfl ?_
  refine GP.take rfl rfl (Does.move rfl ?_)
  refine GP.take rfl rfl (Does.move rfl ?_)
  refine GP.take rfl rfl (Does.sliceToG (D.length / 2) rfl rfl sl34 rfl (by omega) ?_)
  refine GP.take rfl rfl (Does.callN (.cons rfl (.cons rfl .nil)) cb35 (by have hq := sort_ct byK_ok (.func (.func 14) #[] #[]) (new_ct 14 #[] #[]) (D.take (D.length / 2)) ad5 cap5 lb5 0 0 (fun hne => had5 (by rintro rfl; simp at hne)) (by simp) (by rw [htH]; omega); rw [htH] at hq; exact hq) (fun w hs => At.take (fun j u hj => hrow5 (cxF Try.prog 9 Try.f9.ntmps w0 (List.map Prod.fst ([] : Chunks)) fun v C' => v = .bool true ∧ C' = []) (C6) (C9 ++ (C10)) w (hs.perm (by classical exact List.perm_iff_count.2 fun q => by simp only [List.count_append] <;> omega)) j u hj) _ hHl) ?_)
  rintro s11 _ ⟨C11, h11, rfl⟩
  rw [hsH] at h11
  refine GP.take rfl rfl (Does.assign rfl ?_)
  refine GP.keep [(1, _), (5, _), (6, _), (7, _), (8, _), (9, _), (10, _), (11, _)] (.cons rfl (.cons rfl (.cons rfl (.cons rfl (.cons rfl (.cons rfl (.cons rfl (.cons rfl .nil)))))))) ?_
  refine G.dropP [] (A := C6 ++ (C5 ++ (C9 ++ (C10 ++ (C11))))) (by classical exact List.perm_iff_count.2 fun q => by simp only [List.append_nil, List.count_append] <;> omega) ?_
  repeat refine G.seq ?_
  refine G.region [.loc, .gen, .loc] (.take 0 (.take 1 (.take 2 .done))) rfl ?_
  refine GP.take rfl rfl (Does.move rfl ?_)
  refine GP.take rfl rfl (Does.callN (.cons rfl (.cons rfl .nil)) cb35 (sort_ct byK_ok (.func (.func 14) #[] #[]) (new_ct 14 #[] #[]) D ad5 cap5 lb5 0 0 had5 (by simp) (by omega)) (fun w hs j u hj => hrow5 (cxF Try.prog 9 Try.f9.ntmps w0 (List.map Prod.fst ([] : Chunks)) fun v C' => v = .bool true ∧ C' = []) (C6) (C9 ++ (C10 ++ (C11))) w (hs.perm (by classical exact List.perm_iff_count.2 fun q => by simp only [List.count_append] <;> omega)) j u hj) ?_)
  rintro s12 _ ⟨C12, h12, rfl⟩
  rw [hDD] at h12
  refine GP.take rfl rfl (Does.assign rfl ?_)
  refine GP.keep [(1, _), (5, _), (6, _), (7, _), (8, _), (9, _), (10, _), (11, _), (12, _)] (.cons rfl (.cons rfl (.cons rfl (.cons rfl (.cons rfl (.cons rfl (.cons rfl (.cons rfl (.cons rfl .nil))))))))) ?_
  refine G.dropP [] (A := C6 ++ (C5 ++ (C9 ++ (C10 ++ (C11 ++ (C12)))))) (by classical exact List.perm_iff_count.2 fun q => by simp only [List.append_nil, List.count_append] <;> omega) ?_
  repeat refine G.seq ?_
  refine G.region [.loc, .loc, .gen, .loc] (.take 0 (.take 1 (.take 2 (.take 3 .done)))) rfl ?_
  refine GP.take rfl rfl (Does.move rfl ?_)
  refine GP.take rfl rfl (Does.move rfl ?_)
  refine GP.take rfl rfl (Does.callN (.cons rfl (.cons rfl (.cons rfl .nil))) cb33 (least_ct byK_ok (.func (.func 14) #[] #[]) (.inl rfl) D n ad5 cap5 lb5 0 0 had5 (by simp) (by omega)) (fun w hs j u hj => hrow5 (cxF Try.prog 9 Try.f9.ntmps w0 (List.map Prod.fst ([] : Chunks)) fun v C' => v = .bool true ∧ C' = []) (C6) (C9 ++ (C10 ++ (C11 ++ (C12)))) w (hs.perm (by classical exact List.perm_iff_count.2 fun q => by simp only [List.count_append] <;> omega)) j u hj) ?_)
  rintro s13 _ ⟨C13, h13, rfl⟩
  rw [hM, hlM] at h13
  refine GP.take rfl rfl (Does.assign rfl ?_)
  refine GP.keep [(1, _), (5, _), (6, _), (7, _), (8, _), (9, _), (10, _), (11, _), (12, _), (13, _)] (.cons rfl (.cons rfl (.cons rfl (.cons rfl (.cons rfl (.cons rfl (.cons rfl (.cons rfl (.cons rfl (.cons rfl .nil)))))))))) ?_
  refine G.dropP [] (A := C6 ++ (C5 ++ (C9 ++ (C10 ++ (C11 ++ (C12 ++ (C13))))))) (by classical exact List.perm_iff_count.2 fun q => by simp only [List.append_nil, List.count_append] <;> omega) ?_
  repeat refine G.seq ?_
  obtain ⟨ad9, cap9, -, hs9, -, -, -⟩ := h9.keep
  subst hs9
  obtain ⟨ad10, cap10, -, hs10, -, -, -⟩ := h10.keep
  subst hs10
  obtain ⟨ad11, cap11, -, hs11, -, -, -⟩ := h11.keep
  subst hs11
  obtain ⟨ad12, cap12, -, hs12, -, -, -⟩ := h12.keep
  subst hs12
  obtain ⟨ad13, cap13, -, hs13, -, -, -⟩ := h13.keep
  subst hs13
  rw [htH, htM]
  rw [htM] at h10 h13
  rw [htH] at h11
  refine G.region [.loc, .loc, .gen, .loc, .loc, .loc, .loc, .gen, .loc, .loc, .loc, .loc, .loc, .loc, .loc, .gen, .loc, .loc, .loc, .loc, .loc, .loc, .loc, .loc, .loc, .loc, .loc, .loc, .loc, .gen, .loc, .loc, .loc, .loc, .loc, .gen, .loc, .loc] (.take 0 (.take 1 (.take 2 (.take 3 (.take 4 (.take 5 (.take 6 (.take 7 (.take 8 (.take 9 (.take 10 (.take 11 (.take 12 (.take 13 (.take 14 (.take 15 (.take 16 (.take 17 (.take 18 (.take 19 (.take 20 (.take 21 (.take 22 (.take 23 (.take 24 (.take 25 (.take 26 (.take 27 (.take 28 (.take 29 (.take 30 (.take 31 (.take 32 (.take 33 (.take 34 (.take 35 (.take 36 (.take 37 .done)))))))))))))))))))))))))))))))))))))) rfl ?_
  refine GP.take rfl rfl (Does.move rfl ?_)
  refine GP.take rfl rfl (Does.move rfl ?_)
  obtain ⟨pr, hct, hpr⟩ := same_call (X := cxF Try.prog 9 Try.f9.ntmps w0 (List.map Prod.fst ([] : Chunks)) fun v C' => v = .bool true ∧ C' = []) (C := C6 ++ (C5 ++ (C9 ++ (C10 ++ (C11 ++ (C12 ++ (C13))))))) _ _ (.slice ad9 D.length cap9) (.slice ad6 D.length cap6) (C6 ++ (C5)) C9 (C10 ++ (C11 ++ (C12 ++ (C13)))) ([]) C6 (C5 ++ (C9 ++ (C10 ++ (C11 ++ (C12 ++ (C13)))))) h9 h6 rfl (by (try simp only [htM, htH]); omega) (by simp) (by simp)
  refine GP.take rfl rfl (Does.callN (.cons rfl (.cons rfl .nil)) cb29 hct (fun w hs => hpr w hs) ?_)
  rintro _ _ ⟨rfl, rfl⟩
  clear hct hpr
  simp only [List.append_nil]
  refine GP.take rfl rfl (Does.not rfl rfl ?_)
  refine GP.take rfl rfl (Does.move rfl ?_)
  refine GP.takeG rfl rfl rfl rfl (Does.move rfl ?_)
  refine GP.takeG rfl rfl rfl rfl (Does.move rfl ?_)
  obtain ⟨pr, hct, hpr⟩ := same_call (X := cxF Try.prog 9 Try.f9.ntmps w0 (List.map Prod.fst ([] : Chunks)) fun v C' => v = .bool true ∧ C' = []) (C := C6 ++ (C5 ++ (C9 ++ (C10 ++ (C11 ++ (C12 ++ (C13))))))) _ _ (.slice ad12 D.length cap12) (.slice ad6 D.length cap6) (C6 ++ (C5 ++ (C9 ++ (C10 ++ (C11))))) C12 (C13) ([]) C6 (C5 ++ (C9 ++ (C10 ++ (C11 ++ (C12 ++ (C13)))))) h12 h6 rfl (by (try simp only [htM, htH]); omega) (by simp) (by simp)
  refine GP.takeG rfl rfl rfl rfl (Does.callN (.cons rfl (.cons rfl .nil)) cb29 hct (fun w hs => hpr w hs) ?_)
  rintro _ _ ⟨rfl, rfl⟩
  clear hct hpr
  simp only [List.append_nil]
  refine GP.takeG rfl rfl rfl rfl (Does.not rfl rfl ?_)
  refine GP.take rfl rfl (Does.pickF rfl rfl ?_)
  refine GP.take rfl rfl (Does.move rfl ?_)
  refine GP.takeG rfl rfl rfl rfl (Does.move rfl ?_)
  refine GP.takeG rfl rfl rfl rfl (Does.move rfl ?_)
  refine GP.takeG rfl rfl rfl rfl (Does.move rfl ?_)
  refine GP.takeG rfl rfl rfl rfl (Does.sliceToG (D.length / 2) rfl rfl sl34 rfl (by omega) ?_)
  obtain ⟨pr, hct, hpr⟩ := same_take (X := cxF Try.prog 9 Try.f9.ntmps w0 (List.map Prod.fst ([] : Chunks)) fun v C' => v = .bool true ∧ C' = []) (C := C6 ++ (C5 ++ (C9 ++ (C10 ++ (C11 ++ (C12 ++ (C13))))))) _ D (.slice ad11 (D.length / 2) cap11) ad6 cap6 (D.length / 2) (C6 ++ (C5 ++ (C9 ++ (C10)))) C11 (C12 ++ (C13)) [] C6 (C5 ++ (C9 ++ (C10 ++ (C11 ++ (C12 ++ (C13)))))) h11 h6 hHl rfl (by simp only [htH]; omega) (by simp) (by simp)
  refine GP.takeG rfl rfl rfl rfl (Does.callN (.cons rfl (.cons rfl .nil)) cb29 hct (fun w hs => hpr w hs) ?_)
  rintro _ _ ⟨rfl, rfl⟩
  clear hct hpr
  simp only [List.append_nil]
  refine GP.takeG rfl rfl rfl rfl (Does.not rfl rfl ?_)
  refine GP.take rfl rfl (Does.pickF rfl rfl ?_)
  refine GP.take rfl rfl (Does.move rfl ?_)
  refine GP.takeG rfl rfl rfl rfl (Does.move rfl ?_)
  refine GP.takeG rfl rfl rfl rfl (Does.len rfl is34 ?_)
  refine GP.takeG rfl rfl rfl rfl (Does.move rfl ?_)
  refine GP.takeG rfl rfl rfl rfl (Does.neq rfl rfl (show (!decide ((M : Int) = (M : Int))) = false by simp) ?_)
  refine GP.take rfl rfl (Does.pickF rfl rfl ?_)
  refine GP.take rfl rfl (Does.move rfl ?_)
  refine GP.takeG rfl rfl rfl rfl (Does.move rfl ?_)
  refine GP.takeG rfl rfl rfl rfl (Does.move rfl ?_)
  refine GP.takeG rfl rfl rfl rfl (Does.move rfl ?_)
  refine GP.takeG rfl rfl rfl rfl (Does.sliceToG M rfl rfl sl34 rfl (by omega) ?_)
  obtain ⟨pr, hct, hpr⟩ := same_take (X := cxF Try.prog 9 Try.f9.ntmps w0 (List.map Prod.fst ([] : Chunks)) fun v C' => v = .bool true ∧ C' = []) (C := C6 ++ (C5 ++ (C9 ++ (C10 ++ (C11 ++ (C12 ++ (C13))))))) _ D (.slice ad10 M cap10) ad6 cap6 (M) (C6 ++ (C5 ++ (C9))) C10 (C11 ++ (C12 ++ (C13))) [] C6 (C5 ++ (C9 ++ (C10 ++ (C11 ++ (C12 ++ (C13)))))) h10 h6 hMl rfl (by simp only [htM]; omega) (by simp) (by simp)
  refine GP.takeG rfl rfl rfl rfl (Does.callN (.cons rfl (.cons rfl .nil)) cb29 hct (fun w hs => hpr w hs) ?_)
  rintro _ _ ⟨rfl, rfl⟩
  clear hct hpr
  simp only [List.append_nil]
  refine GP.takeG rfl rfl rfl rfl (Does.not rfl rfl ?_)
  refine GP.take rfl rfl (Does.pickF rfl rfl ?_)
  refine GP.take rfl rfl (Does.move rfl ?_)
  refine GP.takeG rfl rfl rfl rfl (Does.move rfl ?_)
  refine GP.takeG rfl rfl rfl rfl (Does.move rfl ?_)
  obtain ⟨pr, hct, hpr⟩ := same_call (X := cxF Try.prog 9 Try.f9.ntmps w0 (List.map Prod.fst ([] : Chunks)) fun v C' => v = .bool true ∧ C' = []) (C := C6 ++ (C5 ++ (C9 ++ (C10 ++ (C11 ++ (C12 ++ (C13))))))) _ _ (.slice ad13 M cap13) (.slice ad10 M cap10) (C6 ++ (C5 ++ (C9 ++ (C10 ++ (C11 ++ (C12)))))) C13 ([]) (C6 ++ (C5 ++ (C9))) C10 (C11 ++ (C12 ++ (C13))) h13 h10 rfl (by (try simp only [htM]); omega) (by simp) (by simp)
  refine GP.takeG rfl rfl rfl rfl (Does.callN (.cons rfl (.cons rfl .nil)) cb29 hct (fun w hs => hpr w hs) ?_)
  rintro _ _ ⟨rfl, rfl⟩
  clear hct hpr
  simp only [List.append_nil]
  refine GP.takeG rfl rfl rfl rfl (Does.not rfl rfl ?_)
  refine GP.take rfl rfl (Does.pickF rfl rfl ?_)
  refine GP.keep [(1, _), (5, _), (6, _), (7, _), (8, _), (9, _), (10, _), (11, _), (12, _), (13, _), (86, _)] (.cons rfl (.cons rfl (.cons rfl (.cons rfl (.cons rfl (.cons rfl (.cons rfl (.cons rfl (.cons rfl (.cons rfl (.cons rfl .nil))))))))))) ?_
  repeat refine G.seq ?_
  refine G.condF rfl ?_
  refine G.skip ?_
  repeat refine G.seq ?_
  refine G.region [.loc, .gen] (.take 0 (.take 1 .done)) rfl ?_
  refine GP.take rfl rfl (Does.move rfl ?_)
  refine GP.take rfl rfl (Does.callP (C6 ++ (C5 ++ (C10 ++ (C11 ++ (C12 ++ (C13)))))) C9 (.cons rfl (.cons rfl .nil)) cb37 (by classical exact List.perm_iff_count.2 fun q => by simp only [List.count_append] <;> omega) (marked2_ct D.length _ ad9 cap9 C9 (-1000) (by omega) (by omega) rfl h9 (by omega)) (fun _ _ => trivial) ?_)
  rintro _ M9 ⟨rfl, l9, b9, hl9, hn9, hm9, hd9, hk9⟩
  refine ⟨C6 ++ (C5 ++ (M9 ++ (C10 ++ (C11 ++ (C12 ++ (C13)))))), (by classical exact List.perm_iff_count.2 fun q => by simp only [List.count_append] <;> omega), ?_⟩
  refine GP.keep [(1, _), (5, _), (6, _), (7, _), (8, _), (9, _), (10, _), (11, _), (12, _), (13, _)] (.cons rfl (.cons rfl (.cons rfl (.cons rfl (.cons rfl (.cons rfl (.cons rfl (.cons rfl (.cons rfl (.cons rfl .nil)))))))))) ?_
  repeat refine G.seq ?_
  refine G.region [.loc, .gen] (.take 0 (.take 1 .done)) rfl ?_
  refine GP.take rfl rfl (Does.move rfl ?_)
  refine GP.take rfl rfl (Does.callP (C6 ++ (C5 ++ (M9 ++ (C11 ++ (C12 ++ (C13)))))) C10 (.cons rfl (.cons rfl .nil)) cb37 (by classical exact List.perm_iff_count.2 fun q => by simp only [List.count_append] <;> omega) (marked2_ct M _ ad10 cap10 C10 (-2000) (by omega) (by omega) htM h10 (by omega)) (fun _ _ => trivial) ?_)
  rintro _ M10 ⟨rfl, l10, b10, hl10, hn10, hm10, hd10, hk10⟩
  refine ⟨C6 ++ (C5 ++ (M9 ++ (M10 ++ (C11 ++ (C12 ++ (C13)))))), (by classical exact List.perm_iff_count.2 fun q => by simp only [List.count_append] <;> omega), ?_⟩
  refine GP.keep [(1, _), (5, _), (6, _), (7, _), (8, _), (9, _), (10, _), (11, _), (12, _), (13, _)] (.cons rfl (.cons rfl (.cons rfl (.cons rfl (.cons rfl (.cons rfl (.cons rfl (.cons rfl (.cons rfl (.cons rfl .nil)))))))))) ?_
  repeat refine G.seq ?_
  refine G.region [.loc, .gen] (.take 0 (.take 1 .done)) rfl ?_
  refine GP.take rfl rfl (Does.move rfl ?_)
  refine GP.take rfl rfl (Does.callP (C6 ++ (C5 ++ (M9 ++ (M10 ++ (C12 ++ (C13)))))) C11 (.cons rfl (.cons rfl .nil)) cb37 (by classical exact List.perm_iff_count.2 fun q => by simp only [List.count_append] <;> omega) (marked2_ct (D.length / 2) _ ad11 cap11 C11 (-3000) (by omega) (by omega) htH h11 (by omega)) (fun _ _ => trivial) ?_)
  rintro _ M11 ⟨rfl, l11, b11, hl11, hn11, hm11, hd11, hk11⟩
  refine ⟨C6 ++ (C5 ++ (M9 ++ (M10 ++ (M11 ++ (C12 ++ (C13)))))), (by classical exact List.perm_iff_count.2 fun q => by simp only [List.count_append] <;> omega), ?_⟩
  refine GP.keep [(1, _), (5, _), (6, _), (7, _), (8, _), (9, _), (10, _), (11, _), (12, _), (13, _)] (.cons rfl (.cons rfl (.cons rfl (.cons rfl (.cons rfl (.cons rfl (.cons rfl (.cons rfl (.cons rfl (.cons rfl .nil)))))))))) ?_
  repeat refine G.seq ?_
  refine G.region [.loc, .gen] (.take 0 (.take 1 .done)) rfl ?_
  refine GP.take rfl rfl (Does.move rfl ?_)
  refine GP.take rfl rfl (Does.callP (C6 ++ (C5 ++ (M9 ++ (M10 ++ (M11 ++ (C13)))))) C12 (.cons rfl (.cons rfl .nil)) cb37 (by classical exact List.perm_iff_count.2 fun q => by simp only [List.count_append] <;> omega) (marked2_ct D.length _ ad12 cap12 C12 (-4000) (by omega) (by omega) rfl h12 (by omega)) (fun _ _ => trivial) ?_)
  rintro _ M12 ⟨rfl, l12, b12, hl12, hn12, hm12, hd12, hk12⟩
  refine ⟨C6 ++ (C5 ++ (M9 ++ (M10 ++ (M11 ++ (M12 ++ (C13)))))), (by classical exact List.perm_iff_count.2 fun q => by simp only [List.count_append] <;> omega), ?_⟩
  refine GP.keep [(1, _), (5, _), (6, _), (7, _), (8, _), (9, _), (10, _), (11, _), (12, _), (13, _)] (.cons rfl (.cons rfl (.cons rfl (.cons rfl (.cons rfl (.cons rfl (.cons rfl (.cons rfl (.cons rfl (.cons rfl .nil)))))))))) ?_
  repeat refine G.seq ?_
  refine G.region [.loc, .gen] (.take 0 (.take 1 .done)) rfl ?_
  refine GP.take rfl rfl (Does.move rfl ?_)
  refine GP.take rfl rfl (Does.callP (C6 ++ (C5 ++ (M9 ++ (M10 ++ (M11 ++ (M12)))))) C13 (.cons rfl (.cons rfl .nil)) cb37 (by classical exact List.perm_iff_count.2 fun q => by simp only [List.count_append] <;> omega) (marked2_ct M _ ad13 cap13 C13 (-5000) (by omega) (by omega) htM h13 (by omega)) (fun _ _ => trivial) ?_)
  rintro _ M13 ⟨rfl, l13, b13, hl13, hn13, hm13, hd13, hk13⟩
  refine ⟨C6 ++ (C5 ++ (M9 ++ (M10 ++ (M11 ++ (M12 ++ (M13)))))), (by classical exact List.perm_iff_count.2 fun q => by simp only [List.count_append] <;> omega), ?_⟩
  refine GP.keep [(1, _), (5, _), (6, _), (7, _), (8, _), (9, _), (10, _), (11, _), (12, _), (13, _)] (.cons rfl (.cons rfl (.cons rfl (.cons rfl (.cons rfl (.cons rfl (.cons rfl (.cons rfl (.cons rfl (.cons rfl .nil)))))))))) ?_
  repeat refine G.seq ?_
  refine G.region [.loc, .gen, .loc] (.take 0 (.take 1 (.take 2 .done))) rfl ?_
  refine GP.take rfl rfl (Does.move rfl ?_)
  refine GP.take rfl rfl (Does.callP (C6 ++ (C5 ++ (M10 ++ (M11 ++ (M12 ++ (M13)))))) M9 (.cons rfl (.cons rfl .nil)) cb38 (by classical exact List.perm_iff_count.2 fun q => by simp only [List.count_append] <;> omega) (by have hq := grown2_ct l9 ad9 cap9 M9 b9 (-10) (by rw [hn9]; exact hm9) hk9 (by omega); rw [hn9] at hq; exact hq) (fun _ _ => trivial) ?_)
  rintro _ N9 ⟨ae9, ce9, be9, rfl, he9, hka9, hkb9⟩
  refine ⟨C6 ++ (C5 ++ (N9 ++ (M10 ++ (M11 ++ (M12 ++ (M13)))))), (by classical exact List.perm_iff_count.2 fun q => by simp only [List.count_append] <;> omega), ?_⟩
  refine GP.take rfl rfl (Does.assign rfl ?_)
  refine GP.keep [(1, _), (5, _), (6, _), (7, _), (8, _), (9, _), (10, _), (11, _), (12, _), (13, _), (14, _)] (.cons rfl (.cons rfl (.cons rfl (.cons rfl (.cons rfl (.cons rfl (.cons rfl (.cons rfl (.cons rfl (.cons rfl (.cons rfl .nil))))))))))) ?_
  repeat refine G.seq ?_
  refine G.region [.loc, .gen, .loc] (.take 0 (.take 1 (.take 2 .done))) rfl ?_
  refine GP.take rfl rfl (Does.move rfl ?_)
  refine GP.take rfl rfl (Does.callP (C6 ++ (C5 ++ (N9 ++ (M11 ++ (M12 ++ (M13)))))) M10 (.cons rfl (.cons rfl .nil)) cb38 (by classical exact List.perm_iff_count.2 fun q => by simp only [List.count_append] <;> omega) (by have hq := grown2_ct l10 ad10 cap10 M10 b10 (-20) (by rw [hn10]; exact hm10) hk10 (by omega); rw [hn10] at hq; exact hq) (fun _ _ => trivial) ?_)
  rintro _ N10 ⟨ae10, ce10, be10, rfl, he10, hka10, hkb10⟩
  refine ⟨C6 ++ (C5 ++ (N9 ++ (N10 ++ (M11 ++ (M12 ++ (M13)))))), (by classical exact List.perm_iff_count.2 fun q => by simp only [List.count_append] <;> omega), ?_⟩
  refine GP.take rfl rfl (Does.assign rfl ?_)
  refine GP.keep [(1, _), (5, _), (6, _), (7, _), (8, _), (9, _), (10, _), (11, _), (12, _), (13, _), (14, _), (15, _)] (.cons rfl (.cons rfl (.cons rfl (.cons rfl (.cons rfl (.cons rfl (.cons rfl (.cons rfl (.cons rfl (.cons rfl (.cons rfl (.cons rfl .nil)))))))))))) ?_
  repeat refine G.seq ?_
  refine G.region [.loc, .gen, .loc] (.take 0 (.take 1 (.take 2 .done))) rfl ?_
  refine GP.take rfl rfl (Does.move rfl ?_)
  refine GP.take rfl rfl (Does.callP (C6 ++ (C5 ++ (N9 ++ (N10 ++ (M12 ++ (M13)))))) M11 (.cons rfl (.cons rfl .nil)) cb38 (by classical exact List.perm_iff_count.2 fun q => by simp only [List.count_append] <;> omega) (by have hq := grown2_ct l11 ad11 cap11 M11 b11 (-30) (by rw [hn11]; exact hm11) hk11 (by omega); rw [hn11] at hq; exact hq) (fun _ _ => trivial) ?_)
  rintro _ N11 ⟨ae11, ce11, be11, rfl, he11, hka11, hkb11⟩
  refine ⟨C6 ++ (C5 ++ (N9 ++ (N10 ++ (N11 ++ (M12 ++ (M13)))))), (by classical exact List.perm_iff_count.2 fun q => by simp only [List.count_append] <;> omega), ?_⟩
  refine GP.take rfl rfl (Does.assign rfl ?_)
  refine GP.keep [(1, _), (5, _), (6, _), (7, _), (8, _), (9, _), (10, _), (11, _), (12, _), (13, _), (14, _), (15, _), (16, _)] (.cons rfl (.cons rfl (.cons rfl (.cons rfl (.cons rfl (.cons rfl (.cons rfl (.cons rfl (.cons rfl (.cons rfl (.cons rfl (.cons rfl (.cons rfl .nil))))))))))))) ?_
  repeat refine G.seq ?_
  refine G.region [.loc, .gen, .loc] (.take 0 (.take 1 (.take 2 .done))) rfl ?_
  refine GP.take rfl rfl (Does.move rfl ?_)
  refine GP.take rfl rfl (Does.callP (C6 ++ (C5 ++ (N9 ++ (N10 ++ (N11 ++ (M13)))))) M12 (.cons rfl (.cons rfl .nil)) cb38 (by classical exact List.perm_iff_count.2 fun q => by simp only [List.count_append] <;> omega) (by have hq := grown2_ct l12 ad12 cap12 M12 b12 (-40) (by rw [hn12]; exact hm12) hk12 (by omega); rw [hn12] at hq; exact hq) (fun _ _ => trivial) ?_)
  rintro _ N12 ⟨ae12, ce12, be12, rfl, he12, hka12, hkb12⟩
  refine ⟨C6 ++ (C5 ++ (N9 ++ (N10 ++ (N11 ++ (N12 ++ (M13)))))), (by classical exact List.perm_iff_count.2 fun q => by simp only [List.count_append] <;> omega), ?_⟩
  refine GP.take rfl rfl (Does.assign rfl ?_)
  refine GP.keep [(1, _), (5, _), (6, _), (7, _), (8, _), (9, _), (10, _), (11, _), (12, _), (13, _), (14, _), (15, _), (16, _), (17, _)] (.cons rfl (.cons rfl (.cons rfl (.cons rfl (.cons rfl (.cons rfl (.cons rfl (.cons rfl (.cons rfl (.cons rfl (.cons rfl (.cons rfl (.cons rfl (.cons rfl .nil)))))))))))))) ?_
  repeat refine G.seq ?_
  refine G.region [.loc, .gen, .loc] (.take 0 (.take 1 (.take 2 .done))) rfl ?_
  refine GP.take rfl rfl (Does.move rfl ?_)
  refine GP.take rfl rfl (Does.callP (C6 ++ (C5 ++ (N9 ++ (N10 ++ (N11 ++ (N12)))))) M13 (.cons rfl (.cons rfl .nil)) cb38 (by classical exact List.perm_iff_count.2 fun q => by simp only [List.count_append] <;> omega) (by have hq := grown2_ct l13 ad13 cap13 M13 b13 (-50) (by rw [hn13]; exact hm13) hk13 (by omega); rw [hn13] at hq; exact hq) (fun _ _ => trivial) ?_)
  rintro _ N13 ⟨ae13, ce13, be13, rfl, he13, hka13, hkb13⟩
  refine ⟨C6 ++ (C5 ++ (N9 ++ (N10 ++ (N11 ++ (N12 ++ (N13)))))), (by classical exact List.perm_iff_count.2 fun q => by simp only [List.count_append] <;> omega), ?_⟩
  refine GP.take rfl rfl (Does.assign rfl ?_)
  refine GP.keep [(1, _), (5, _), (6, _), (7, _), (8, _), (9, _), (10, _), (11, _), (12, _), (13, _), (14, _), (15, _), (16, _), (17, _), (18, _)] (.cons rfl (.cons rfl (.cons rfl (.cons rfl (.cons rfl (.cons rfl (.cons rfl (.cons rfl (.cons rfl (.cons rfl (.cons rfl (.cons rfl (.cons rfl (.cons rfl (.cons rfl .nil))))))))))))))) ?_
  repeat refine G.seq ?_
  refine G.region [.loc, .loc, .gen, .loc, .loc, .loc, .loc, .gen, .loc, .loc, .loc, .loc, .loc, .gen, .loc, .loc, .loc, .loc, .loc, .gen, .loc, .loc, .loc, .loc, .loc, .gen, .loc, .loc, .loc, .loc, .loc, .gen, .loc, .loc] (.take 0 (.take 1 (.take 2 (.take 3 (.take 4 (.take 5 (.take 6 (.take 7 (.take 8 (.take 9 (.take 10 (.take 11 (.take 12 (.take 13 (.take 14 (.take 15 (.take 16 (.take 17 (.take 18 (.take 19 (.take 20 (.take 21 (.take 22 (.take 23 (.take 24 (.take 25 (.take 26 (.take 27 (.take 28 (.take 29 (.take 30 (.take 31 (.take 32 (.take 33 .done)))))))))))))))))))))))))))))))))) rfl ?_
  refine GP.take rfl rfl (Does.move rfl ?_)
  refine GP.take rfl rfl (Does.move rfl ?_)
  obtain ⟨pr, hct, hpr⟩ := same_call (X := cxF Try.prog 9 Try.f9.ntmps w0 (List.map Prod.fst ([] : Chunks)) fun v C' => v = .bool true ∧ C' = []) (C := C6 ++ (C5 ++ (N9 ++ (N10 ++ (N11 ++ (N12 ++ (N13))))))) _ _ (.slice ad5 D.length cap5) (.slice ad6 D.length cap6) C6 C5 (N9 ++ (N10 ++ (N11 ++ (N12 ++ (N13))))) [] C6 (C5 ++ (N9 ++ (N10 ++ (N11 ++ (N12 ++ (N13)))))) h5 h6 rfl (by omega) (by simp) (by simp)
  refine GP.take rfl rfl (Does.callN (.cons rfl (.cons rfl .nil)) cb29 hct (fun w hs => hpr w hs) ?_)
  rintro _ _ ⟨rfl, rfl⟩
  clear hct hpr
  simp only [List.append_nil]
  refine GP.take rfl rfl (Does.not rfl rfl ?_)
  refine GP.take rfl rfl (Does.move rfl ?_)
  refine GP.takeG rfl rfl rfl rfl (Does.move rfl ?_)
  refine GP.takeG rfl rfl rfl rfl (Does.move rfl ?_)
  refine GP.takeG rfl rfl rfl rfl (Does.callN (.cons rfl (.cons rfl (.cons rfl (.cons rfl .nil)))) cb39 (stands2_ct l9 D.length (-1000) (-10) hl9 (by omega) (by omega) ad9 ae9 cap9 ce9 b9 be9 hd9 he9 (by omega)) (fun w hs => ⟨fun j u hj => hka9.row (cxF Try.prog 9 Try.f9.ntmps w0 (List.map Prod.fst ([] : Chunks)) fun v C' => v = .bool true ∧ C' = []) (C6 ++ (C5)) (N10 ++ (N11 ++ (N12 ++ (N13)))) w (hs.perm (by classical exact List.perm_iff_count.2 fun q => by simp only [List.count_append] <;> omega)) j u hj, fun j u hj => hkb9.row (cxF Try.prog 9 Try.f9.ntmps w0 (List.map Prod.fst ([] : Chunks)) fun v C' => v = .bool true ∧ C' = []) (C6 ++ (C5)) (N10 ++ (N11 ++ (N12 ++ (N13)))) w (hs.perm (by classical exact List.perm_iff_count.2 fun q => by simp only [List.count_append] <;> omega)) j u hj⟩) ?_)
  rintro _ _ ⟨rfl, rfl⟩
  simp only [List.append_nil]
  refine GP.takeG rfl rfl rfl rfl (Does.not rfl rfl ?_)
  refine GP.take rfl rfl (Does.pickF rfl rfl ?_)
  refine GP.take rfl rfl (Does.move rfl ?_)
  refine GP.takeG rfl rfl rfl rfl (Does.move rfl ?_)
  refine GP.takeG rfl rfl rfl rfl (Does.move rfl ?_)
  refine GP.takeG rfl rfl rfl rfl (Does.callN (.cons rfl (.cons rfl (.cons rfl (.cons rfl .nil)))) cb39 (stands2_ct l10 M (-2000) (-20) hl10 (by omega) (by omega) ad10 ae10 cap10 ce10 b10 be10 hd10 he10 (by omega)) (fun w hs => ⟨fun j u hj => hka10.row (cxF Try.prog 9 Try.f9.ntmps w0 (List.map Prod.fst ([] : Chunks)) fun v C' => v = .bool true ∧ C' = []) (C6 ++ (C5 ++ (N9))) (N11 ++ (N12 ++ (N13))) w (hs.perm (by classical exact List.perm_iff_count.2 fun q => by simp only [List.count_append] <;> omega)) j u hj, fun j u hj => hkb10.row (cxF Try.prog 9 Try.f9.ntmps w0 (List.map Prod.fst ([] : Chunks)) fun v C' => v = .bool true ∧ C' = []) (C6 ++ (C5 ++ (N9))) (N11 ++ (N12 ++ (N13))) w (hs.perm (by classical exact List.perm_iff_count.2 fun q => by simp only [List.count_append] <;> omega)) j u hj⟩) ?_)
  rintro _ _ ⟨rfl, rfl⟩
  simp only [List.append_nil]
  refine GP.takeG rfl rfl rfl rfl (Does.not rfl rfl ?_)
  refine GP.take rfl rfl (Does.pickF rfl rfl ?_)
  refine GP.take rfl rfl (Does.move rfl ?_)
  refine GP.takeG rfl rfl rfl rfl (Does.move rfl ?_)
  refine GP.takeG rfl rfl rfl rfl (Does.move rfl ?_)
  refine GP.takeG rfl rfl rfl rfl (Does.callN (.cons rfl (.cons rfl (.cons rfl (.cons rfl .nil)))) cb39 (stands2_ct l11 (D.length / 2) (-3000) (-30) hl11 (by omega) (by omega) ad11 ae11 cap11 ce11 b11 be11 hd11 he11 (by omega)) (fun w hs => ⟨fun j u hj => hka11.row (cxF Try.prog 9 Try.f9.ntmps w0 (List.map Prod.fst ([] : Chunks)) fun v C' => v = .bool true ∧ C' = []) (C6 ++ (C5 ++ (N9 ++ (N10)))) (N12 ++ (N13)) w (hs.perm (by classical exact List.perm_iff_count.2 fun q => by simp only [List.count_append] <;> omega)) j u hj, fun j u hj => hkb11.row (cxF Try.prog 9 Try.f9.ntmps w0 (List.map Prod.fst ([] : Chunks)) fun v C' => v = .bool true ∧ C' = []) (C6 ++ (C5 ++ (N9 ++ (N10)))) (N12 ++ (N13)) w (hs.perm (by classical exact List.perm_iff_count.2 fun q => by simp only [List.count_append] <;> omega)) j u hj⟩) ?_)
  rintro _ _ ⟨rfl, rfl⟩
  simp only [List.append_nil]
  refine GP.takeG rfl rfl rfl rfl (Does.not rfl rfl ?_)
  refine GP.take rfl rfl (Does.pickF rfl rfl ?_)
  refine GP.take rfl rfl (Does.move rfl ?_)
  refine GP.takeG rfl rfl rfl rfl (Does.move rfl ?_)
  refine GP.takeG rfl rfl rfl rfl (Does.move rfl ?_)
  refine GP.takeG rfl rfl rfl rfl (Does.callN (.cons rfl (.cons rfl (.cons rfl (.cons rfl .nil)))) cb39 (stands2_ct l12 D.length (-4000) (-40) hl12 (by omega) (by omega) ad12 ae12 cap12 ce12 b12 be12 hd12 he12 (by omega)) (fun w hs => ⟨fun j u hj => hka12.row (cxF Try.prog 9 Try.f9.ntmps w0 (List.map Prod.fst ([] : Chunks)) fun v C' => v = .bool true ∧ C' = []) (C6 ++ (C5 ++ (N9 ++ (N10 ++ (N11))))) (N13) w (hs.perm (by classical exact List.perm_iff_count.2 fun q => by simp only [List.count_append] <;> omega)) j u hj, fun j u hj => hkb12.row (cxF Try.prog 9 Try.f9.ntmps w0 (List.map Prod.fst ([] : Chunks)) fun v C' => v = .bool true ∧ C' = []) (C6 ++ (C5 ++ (N9 ++ (N10 ++ (N11))))) (N13) w (hs.perm (by classical exact List.perm_iff_count.2 fun q => by simp only [List.count_append] <;> omega)) j u hj⟩) ?_)
  rintro _ _ ⟨rfl, rfl⟩
  simp only [List.append_nil]
  refine GP.takeG rfl rfl rfl rfl (Does.not rfl rfl ?_)
  refine GP.take rfl rfl (Does.pickF rfl rfl ?_)
  refine GP.take rfl rfl (Does.move rfl ?_)
  refine GP.takeG rfl rfl rfl rfl (Does.move rfl ?_)
  refine GP.takeG rfl rfl rfl rfl (Does.move rfl ?_)
  refine GP.takeG rfl rfl rfl rfl (Does.callN (.cons rfl (.cons rfl (.cons rfl (.cons rfl .nil)))) cb39 (stands2_ct l13 M (-5000) (-50) hl13 (by omega) (by omega) ad13 ae13 cap13 ce13 b13 be13 hd13 he13 (by omega)) (fun w hs => ⟨fun j u hj => hka13.row (cxF Try.prog 9 Try.f9.ntmps w0 (List.map Prod.fst ([] : Chunks)) fun v C' => v = .bool true ∧ C' = []) (C6 ++ (C5 ++ (N9 ++ (N10 ++ (N11 ++ (N12)))))) ([]) w (hs.perm (by classical exact List.perm_iff_count.2 fun q => by simp only [List.append_nil, List.count_append] <;> omega)) j u hj, fun j u hj => hkb13.row (cxF Try.prog 9 Try.f9.ntmps w0 (List.map Prod.fst ([] : Chunks)) fun v C' => v = .bool true ∧ C' = []) (C6 ++ (C5 ++ (N9 ++ (N10 ++ (N11 ++ (N12)))))) ([]) w (hs.perm (by classical exact List.perm_iff_count.2 fun q => by simp only [List.append_nil, List.count_append] <;> omega)) j u hj⟩) ?_)
  rintro _ _ ⟨rfl, rfl⟩
  simp only [List.append_nil]
  refine GP.takeG rfl rfl rfl rfl (Does.not rfl rfl ?_)
  refine GP.take rfl rfl (Does.pickF rfl rfl ?_)
  refine GP.keep [(1, _), (5, _), (6, _), (7, _), (8, _), (140, _)] (.cons rfl (.cons rfl (.cons rfl (.cons rfl (.cons rfl (.cons rfl .nil)))))) ?_
  repeat refine G.seq ?_
  refine G.condF rfl ?_
  refine G.skip ?_
  repeat refine G.seq ?_
  refine G.dropP (N9 ++ (N10 ++ (N11 ++ (N12 ++ (N13))))) (A := C6 ++ C5) (by classical exact List.perm_iff_count.2 fun q => by simp only [List.count_append] <;> omega) ?_
  refine G.draw [.loc, .gen, .loc, .gen, .loc, .loc, .loc, .gen, .loc, .loc, .loc, .gen, .loc, .loc] (.take 0 (.take 2 (.alt 1 (.alt 3 (.take 4 (.take 5 (.take 6 (.take 8 (.take 9 (.take 10 (.alt 7 (.alt 11 (.take 12 (.take 13 .done)) .stop) .stop))))))) .stop) .stop))) (by exact mixed) (by kernel_rfl) ?_
  intro N hN0 hN
  refine GP.take rfl rfl (Does.move rfl ?_)
  refine GP.take rfl rfl (Does.move rfl ?_)
  refine GP.one ?_
  refine GP.take rfl rfl (Does.callN (.cons rfl (.cons rfl .nil)) cb35 (sort_ct byK_ok (.func (.func 14) #[] #[]) (new_ct 14 #[] #[]) D ad5 cap5 lb5 0 0 had5 (by simp) (by omega)) (fun w hs j u hj => hrow5 (cxF Try.prog 9 Try.f9.ntmps w0 (List.map Prod.fst ([] : Chunks)) fun v C' => v = .bool true ∧ C' = []) (C6) ([]) w (hs.perm (by classical exact List.perm_iff_count.2 fun q => by simp only [List.append_nil, List.count_append] <;> omega)) j u hj) ?_)
  rintro s20 _ ⟨C20, h20, rfl⟩
  rw [hDD] at h20
  simp only [List.append_nil]
  refine GP.one ?_
  obtain ⟨pr, hct, hpr⟩ := same_call (X := cxF Try.prog 9 Try.f9.ntmps w0 (List.map Prod.fst ([] : Chunks)) fun v C' => v = .bool true ∧ C' = []) (C := C6 ++ C5 ++ C20) _ _ s20 (.slice ad6 D.length cap6) (C6 ++ C5) C20 [] [] C6 (C5 ++ C20) h20 h6 rfl (by omega) (by simp) (by simp)
  refine GP.take rfl rfl (Does.callN (.cons rfl (.cons rfl .nil)) cb29 hct (fun w hs => hpr w hs) ?_)
  rintro _ _ ⟨rfl, rfl⟩
  clear hct hpr
  simp only [List.append_nil]
  refine GP.take rfl rfl (Does.move rfl ?_)
  refine GP.takeG rfl rfl rfl rfl (Does.move rfl ?_)
  refine GP.takeG rfl rfl rfl rfl (Does.move rfl ?_)
  refine GP.takeG rfl rfl rfl rfl (Does.move rfl ?_)
  refine GP.takeG rfl rfl rfl rfl (Does.move rfl ?_)
  refine GP.takeG rfl rfl rfl rfl (Does.sliceToG M rfl rfl sl34 rfl (by omega) ?_)
  refine GP.one ?_
  refine GP.takeG rfl rfl rfl rfl (Does.callN (.cons rfl (.cons rfl (.cons rfl .nil))) cb33 (least_ct byK_ok (.func (.func 14) #[] #[]) (.inl rfl) D n ad5 cap5 lb5 0 0 had5 (by simp) (by omega)) (fun w hs j u hj => hrow5 (cxF Try.prog 9 Try.f9.ntmps w0 (List.map Prod.fst ([] : Chunks)) fun v C' => v = .bool true ∧ C' = []) C6 C20 w (hs.perm (by classical exact List.perm_iff_count.2 fun q => by simp only [List.count_append] <;> omega)) j u hj) ?_)
  rintro s21 _ ⟨C21, h21, rfl⟩
  rw [hM, hlM] at h21
  simp only [List.append_nil]
  refine GP.one ?_
  obtain ⟨pr, hct, hpr⟩ := same_take (X := cxF Try.prog 9 Try.f9.ntmps w0 (List.map Prod.fst ([] : Chunks)) fun v C' => v = .bool true ∧ C' = []) (C := C6 ++ C5 ++ C20 ++ C21) _ D s21 ad6 cap6 M (C6 ++ C5 ++ C20) C21 [] [] C6 (C5 ++ C20 ++ C21) h21 h6 hMl rfl (by rw [htM]; omega) (by simp) (by simp)
  refine GP.takeG rfl rfl rfl rfl (Does.callN (.cons rfl (.cons rfl .nil)) cb29 hct (fun w hs => hpr w hs) ?_)
  rintro _ _ ⟨rfl, rfl⟩
  clear hct hpr
  simp only [List.append_nil]
  refine GP.take rfl rfl (Does.pickT rfl rfl ?_)
  refine GP.take rfl rfl (Does.assign rfl ?_)
  refine GP.keep [(4, _)] (.cons rfl .nil) ?_
  exact fin_ret (fn := Try.f9) Try.func9 (res1 rfl rfl) .nil ⟨rfl, rfl⟩
set_option maxRecDepth 100000 in
theorem heapFresh_contract (H : Type) (enc : TypeId × Value → H) (W : World) (base : Nat) (args : Array Value) (ds gs : List (DataW H)) (before : List MemPlace)
    (hval : ∀ (j : Nat) t v, Try.f9.params[j]? = some t → args[j]? = some v → Value.okWide Try.prog W .any base t v)
    (hW : DataW.Whole enc Try.prog Try.f9.params.toList Rows.heapFreshSpec.vars false W args.toList ds gs before) (hk : Rows.uptoSmall H (ds ++ gs) = true) :
    Calls Try.prog 9 args W fun e W' => ∃ v, e = .returned v ∧ Rows.heapFreshSpec.post enc Try.prog Try.f9 false true false false W args v W' := by
  have hW0 := hW
  obtain ⟨p, q, hA, -, -, -, -⟩ := hW
  have hsm : Rows.uptoBulkAll (ds ++ gs) ≤ 1048576 := of_decide_eq_true hk
  obtain ⟨v, vs, d, ds', p1, q1, n1, hargs, rfl, rfl, h1, h2⟩ := trodAll_split (t := 34) (ts := [3]) hA
  obtain ⟨v2, vs2, d2, ds2, p2, q2, n2, rfl, rfl, rfl, h3, h4⟩ := trodAll_split (t := 3) (ts := []) h2
  obtain ⟨rfl, rfl, rfl⟩ := trodAll_end h4
  obtain rfl : args = #[v, v2] := by cases args; simpa using hargs
  obtain ⟨a0, len, cap, rfl⟩ := Go.WideShapes.okWide_slice Try.underlying34 (hval 0 34 _ rfl rfl)
  obtain ⟨n, rfl⟩ := Go.WideShapes.okWide_int Try.underlying3 (hval 1 3 _ rfl rfl)
  obtain ⟨l, ad, cap', b, o, e1, e2, e3, e4, e5⟩ := inv_things h1
  have e1' : [Value.slice a0 len cap] = [.slice ad l.length cap'] := e1
  simp only [List.cons.injEq, Value.slice.injEq, and_true] at e1'
  obtain ⟨rfl, rfl, rfl⟩ := e1'
  have hbd : Rows.uptoBulk d + (Rows.uptoBulk d2 + Rows.uptoBulkAll gs) ≤ 1048576 := hsm
  have e5' : l.length + 1 ≤ Rows.uptoBulk d := e5
  refine (fresh_walk l n a0 cap b o e3 e2 (by omega) W (by simp) (by simp) e4).mono ?_
  rintro e W' ⟨_, rfl, C', ⟨rfl, rfl⟩, hst⟩
  exact ⟨_, rfl, law_post laid maps full (by decide +kernel) rfl (fun ds hds => by match ds, hds with | [d, d2], _ => rfl) rfl Try.underlying4 hW0 hst.mods.below⟩
set_option maxRecDepth 100000 in
theorem heapFresh_lifted (os : Os) (started : os.Started) (H : Type) (enc : TypeId × Value → H) (F : Stop.Interp) :
    ReturnsInHanded {} Try.checked os 9 .any ((Rows.OpenSpec.upto Rows.heapFreshSpec).pre6 enc Try.prog Try.f9 Rows.heapFreshUptoRow.domain false) (((Rows.OpenSpec.upto Rows.heapFreshSpec).at F).post enc Try.prog Try.f9 false true false false) := by
  refine returnsInHanded_of_cond (C := Try.checked) (s := Rows.OpenSpec.upto Rows.heapFreshSpec) (k := Rows.uptoSmall) rfl own started (by kernel_rfl) Try.func9
    (OpenSpec.witness (enc := enc) (C := Try.checked) (s := Rows.OpenSpec.upto Rows.heapFreshSpec) (k := Rows.uptoSmall) rfl false ⟨#[], #[.slice none 0 0, .int .i64 0], []⟩ 8 (by kernel_rfl) (by kernel_rfl) (by kernel_rfl)
      (x := ([.nil, .lit (.int .i64 0)], [], [])) (by kernel_rfl) rfl (by kernel_rfl)) ?_
  intro W base args ds gs before hval hW _ hk _
  exact heapFresh_contract H enc W base args ds gs before hval hW hk

/-- THE STATEMENT. -/
theorem heapFresh_holds : Rows.HeapFreshUptoSaid :=
  OpenClaim.holds_of_cond 9 Try.f9 rfl rfl rfl rfl rfl rfl rfl ⟨rfl, rfl, rfl, rfl, rfl⟩ rfl rfl rfl rfl rfl (by kernel_rfl) Try.func9 (by kernel_rfl)
    (of_decide_eq_true (by kernel_rfl)) (by unfold Func.isWrapper; first | (rw [if_pos (by decide +kernel)]; kernel_rfl) | (rw [if_neg (by decide +kernel)]; exact ⟨rfl, rfl⟩))
    (fun os started H enc _ F => heapFresh_lifted os started H enc F)

end Go.Proofs.Ytcgenmfnlocbbaa.T
