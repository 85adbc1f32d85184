/- The document: lexers: Far, Right. The document: plans. bound: the iterator of rounds. -/
import Derived.Test.YtkdidefghbeabaaGreatM25
import Derived.Test.YtkdidefghbeabaaGreatM03
import Derived.Test.YtkdidefghbeabaaGreatM04
namespace Go.Proofs.YtkdidefghbeabaaGreat
open Go Go.RowKit
set_option maxRecDepth 10000
set_option linter.unusedSimpArgs false
set_option linter.unusedVariables false

theorem ActsAt.get {w : World} {v : Value} {l : List PAct} (h : ActsAt w v l) {i : Nat} (hi : i < l.length) : ∃ b k cap, v = .slice (some ⟨b, k, none⟩) l.length cap ∧ Cells w ⟨b, k + i * 2, none⟩ (l.getD i ⟨[], 0⟩).enc := by
  obtain ⟨a, cap, rfl, hS⟩ := h
  obtain ⟨b, k, rfl, h1, h2⟩ := hS.at (i := i) (r := (l.getD i ⟨[], 0⟩).enc) (by simp [List.getD_eq_getElem?_getD, hi])
  exact ⟨b, k, cap, rfl, h2⟩
set_option maxHeartbeats 2000000 in
theorem zFar_spec (w0 : World) (cs : List Value) (L : PLex) (hL : LexAt w0 cs L) : Calls Tryz.prog 16 #[.agg cs.toArray] w0 fun e w' => (∃ r, e = .returned (.bool r)) ∧ Goes w0 [] [] w' := by
  obtain ⟨vm, vd, va, rfl, hM, hD, hA⟩ := hL
  have hg := Goes.refl w0
  have hM0 := hM
  have hD0 := hD
  have hA0 := hA
  obtain ⟨am, cm, rfl, hlm⟩ := hM.slice
  obtain ⟨ad, cd, rfl, hld⟩ := hD.slice
  obtain ⟨aa, ca, rfl, hla⟩ := hA.slice
  refine enter Tryz.func16 rfl (by simp only [Tryz.ntmps16, List.length_cons, List.length_nil, Nat.reduceAdd, Nat.reduceSub, List.replicate_succ, List.replicate_zero, List.cons_append, List.nil_append]; exact rfl) ?_
  repeat' (first | refine zN ?_ | (refine WC.quietG hg ?_; clear hg) | ((with_reducible refine WQ.nilG ?_); intro w hg) | (refine zB ?_; clear hg; intro b w hg; refine WO.fr ?_) | (refine zW ?_; clear hg; intro w hg; refine WO.fr ?_) | (refine op_pureB hg ?_; clear hg; intro w hg c hc; cases c <;> refine WO.fr ?_))
  obtain ⟨bb, rfl⟩ : ∃ z, z = b := ⟨b, rfl⟩
  refine op_call (mFar_spec _ _ _ (hM0.goes hg)) ?_
  rintro _ w2 ⟨⟨r, rfl⟩, hg2⟩
  replace hg := hg.call00 hg2
  clear hg2
  refine ⟨_, rfl, ?_⟩
  refine WO.fr ?_
  cases r
  rotate_left
  · repeat' (first | refine zN ?_ | (refine WC.quietG hg ?_; clear hg) | ((with_reducible refine WQ.nilG ?_); intro w hg) | (refine zB ?_; clear hg; intro b w hg; refine WO.fr ?_) | (refine zW ?_; clear hg; intro w hg; refine WO.fr ?_) | (refine op_pureB hg ?_; clear hg; intro w hg c hc; cases c <;> refine WO.fr ?_))
    exact ret1 rfl ⟨⟨_, rfl⟩, hg.drop⟩
  by_cases h1 : 40 < L.acts.length
  · repeat' (first | refine zN ?_ | (refine WC.quietG hg ?_; clear hg) | ((with_reducible refine WQ.nilG ?_); intro w hg) | (refine zB ?_; clear hg; intro b w hg; refine WO.fr ?_) | (refine zW ?_; clear hg; intro w hg; refine WO.fr ?_) | (refine op_pureB hg ?_; clear hg; intro w hg c hc; cases c <;> refine WO.fr ?_))
    exact ret1 rfl ⟨⟨_, rfl⟩, hg.drop⟩
  by_cases h2 : 8 < L.dfas.length
  · repeat' (first | refine zN ?_ | (refine WC.quietG hg ?_; clear hg) | ((with_reducible refine WQ.nilG ?_); intro w hg) | (refine zB ?_; clear hg; intro b w hg; refine WO.fr ?_) | (refine zW ?_; clear hg; intro w hg; refine WO.fr ?_) | (refine op_pureB hg ?_; clear hg; intro w hg c hc; cases c <;> refine WO.fr ?_))
    exact ret1 rfl ⟨⟨_, rfl⟩, hg.drop⟩
  repeat' (first | refine zN ?_ | (refine WC.quietG hg ?_; clear hg) | ((with_reducible refine WQ.nilG ?_); intro w hg) | (refine zB ?_; clear hg; intro b w hg; refine WO.fr ?_) | (refine zW ?_; clear hg; intro w hg; refine WO.fr ?_) | (refine op_pureB hg ?_; clear hg; intro w hg c hc; cases c <;> refine WO.fr ?_))
  refine WC.loopS [2, 3, 20, 21, 22, 23, 24, 25, 26, 27, 28, 29, 30, 31, 32, 33, 34] (fun xs dd w => ∃ i : Nat, dd = [] ∧ (gt xs 1) = .int .i64 i ∧ i ≤ L.acts.length ∧ Goes w0 [] [[(bb, .cells [.slice am L.modes.length cm, .slice ad L.dfas.length cd, .slice aa L.acts.length ca].toArray 26 (0, 0))]] w) (fun xs _ _ => L.acts.length - (intOf (gt xs 1)).toNat) ?_ ?_
  · exact ⟨0, rfl, rfl, Nat.zero_le _, hg⟩
  clear hg
  intro xs d w hlen hI K hK
  replace hlen := len_cons hlen
  obtain ⟨x2, xs, rfl, hlen⟩ := hlen
  replace hlen := len_cons hlen
  obtain ⟨x3, xs, rfl, hlen⟩ := hlen
  replace hlen := len_cons hlen
  obtain ⟨x20, xs, rfl, hlen⟩ := hlen
  replace hlen := len_cons hlen
  obtain ⟨x21, xs, rfl, hlen⟩ := hlen
  replace hlen := len_cons hlen
  obtain ⟨x22, xs, rfl, hlen⟩ := hlen
  replace hlen := len_cons hlen
  obtain ⟨x23, xs, rfl, hlen⟩ := hlen
  replace hlen := len_cons hlen
  obtain ⟨x24, xs, rfl, hlen⟩ := hlen
  replace hlen := len_cons hlen
  obtain ⟨x25, xs, rfl, hlen⟩ := hlen
  replace hlen := len_cons hlen
  obtain ⟨x26, xs, rfl, hlen⟩ := hlen
  replace hlen := len_cons hlen
  obtain ⟨x27, xs, rfl, hlen⟩ := hlen
  replace hlen := len_cons hlen
  obtain ⟨x28, xs, rfl, hlen⟩ := hlen
  replace hlen := len_cons hlen
  obtain ⟨x29, xs, rfl, hlen⟩ := hlen
  replace hlen := len_cons hlen
  obtain ⟨x30, xs, rfl, hlen⟩ := hlen
  replace hlen := len_cons hlen
  obtain ⟨x31, xs, rfl, hlen⟩ := hlen
  replace hlen := len_cons hlen
  obtain ⟨x32, xs, rfl, hlen⟩ := hlen
  replace hlen := len_cons hlen
  obtain ⟨x33, xs, rfl, hlen⟩ := hlen
  replace hlen := len_cons hlen
  obtain ⟨x34, xs, rfl, hlen⟩ := hlen
  replace hlen := len_nil hlen
  subst hlen
  refine WC.frame (by simp only [setAll, List.set_cons_succ, List.set_cons_zero]; exact rfl) ?_
  try simp only [gt] at hI
  obtain ⟨i, rfl, rfl, hi, hg⟩ := hI
  by_cases hlti : i < L.acts.length
  · obtain ⟨b2, k2, cap', e, hc⟩ := hA0.get (i := i) hlti
    simp only [Value.slice.injEq] at e
    obtain ⟨rfl, _, rfl⟩ := e
    generalize L.acts.getD i ⟨[], 0⟩ = x at hc
    have c1 : ∀ {w Fs}, Goes w0 [] Fs w → w.cell? ⟨b2, k2 + i * 2, none⟩ = some (.string (str x.emit)) := fun g => g.cellOld0 (hc 0 _ rfl)
    clear hc
    by_cases he : 60 < (str x.emit).size
    · repeat' (first | refine zN ?_ | (refine WC.quietG hg ?_; clear hg) | ((with_reducible refine WQ.nilG ?_); intro w hg) | (refine zB ?_; clear hg; intro b w hg; refine WO.fr ?_) | (refine zW ?_; clear hg; intro w hg; refine WO.fr ?_) | (refine op_pureB hg ?_; clear hg; intro w hg c hc; cases c <;> refine WO.fr ?_))
      exact ret1 rfl ⟨⟨_, rfl⟩, hg.drop⟩
    · repeat' (first | refine zN ?_ | (refine WC.quietG hg ?_; clear hg) | ((with_reducible refine WQ.nilG ?_); intro w hg) | (refine zB ?_; clear hg; intro b w hg; refine WO.fr ?_) | (refine zW ?_; clear hg; intro w hg; refine WO.fr ?_) | (refine op_pureB hg ?_; clear hg; intro w hg c hc; cases c <;> refine WO.fr ?_))
      with_reducible refine QX.norm ?_
      refine hK _ _ _ ?_ ?_ ?_
      · simp only [setAll, List.map_cons, List.map_nil, gt, List.set_cons_succ, List.set_cons_zero]
      all_goals try simp only [List.map_cons, List.map_nil, gt, intOf]
      · exact ⟨i + 1, trivial, rfl, by omega, hg⟩
      · omega
  repeat' (first | refine zN ?_ | (refine WC.quietG hg ?_; clear hg) | ((with_reducible refine WQ.nilG ?_); intro w hg) | (refine zB ?_; clear hg; intro b w hg; refine WO.fr ?_) | (refine zW ?_; clear hg; intro w hg; refine WO.fr ?_) | (refine op_pureB hg ?_; clear hg; intro w hg c hc; cases c <;> refine WO.fr ?_))
  clear hK
  refine WC.loopS [2, 4, 35, 36, 37, 38, 39, 40, 41, 42, 43, 44, 45, 46, 47] (fun xs dd w => ∃ i : Nat, dd = [] ∧ (gt xs 1) = .int .i64 i ∧ i ≤ L.dfas.length ∧ Goes w0 [] [[(bb, .cells [.slice am L.modes.length cm, .slice ad L.dfas.length cd, .slice aa L.acts.length ca].toArray 26 (0, 0))]] w) (fun xs _ _ => L.dfas.length - (intOf (gt xs 1)).toNat) ?_ ?_
  · exact ⟨0, rfl, rfl, Nat.zero_le _, hg⟩
  clear hg
  intro xs d w hlen hI K hK
  replace hlen := len_cons hlen
  obtain ⟨x2, xs, rfl, hlen⟩ := hlen
  replace hlen := len_cons hlen
  obtain ⟨x4, xs, rfl, hlen⟩ := hlen
  replace hlen := len_cons hlen
  obtain ⟨x35, xs, rfl, hlen⟩ := hlen
  replace hlen := len_cons hlen
  obtain ⟨x36, xs, rfl, hlen⟩ := hlen
  replace hlen := len_cons hlen
  obtain ⟨x37, xs, rfl, hlen⟩ := hlen
  replace hlen := len_cons hlen
  obtain ⟨x38, xs, rfl, hlen⟩ := hlen
  replace hlen := len_cons hlen
  obtain ⟨x39, xs, rfl, hlen⟩ := hlen
  replace hlen := len_cons hlen
  obtain ⟨x40, xs, rfl, hlen⟩ := hlen
  replace hlen := len_cons hlen
  obtain ⟨x41, xs, rfl, hlen⟩ := hlen
  replace hlen := len_cons hlen
  obtain ⟨x42, xs, rfl, hlen⟩ := hlen
  replace hlen := len_cons hlen
  obtain ⟨x43, xs, rfl, hlen⟩ := hlen
  replace hlen := len_cons hlen
  obtain ⟨x44, xs, rfl, hlen⟩ := hlen
  replace hlen := len_cons hlen
  obtain ⟨x45, xs, rfl, hlen⟩ := hlen
  replace hlen := len_cons hlen
  obtain ⟨x46, xs, rfl, hlen⟩ := hlen
  replace hlen := len_cons hlen
  obtain ⟨x47, xs, rfl, hlen⟩ := hlen
  replace hlen := len_nil hlen
  subst hlen
  refine WC.frame (by simp only [setAll, List.set_cons_succ, List.set_cons_zero]; exact rfl) ?_
  try simp only [gt] at hI
  obtain ⟨k, rfl, rfl, hk, hg⟩ := hI
  by_cases hltk : k < L.dfas.length
  rotate_left
  · repeat' (first | refine zN ?_ | (refine WC.quietG hg ?_; clear hg) | ((with_reducible refine WQ.nilG ?_); intro w hg) | (refine zB ?_; clear hg; intro b w hg; refine WO.fr ?_) | (refine zW ?_; clear hg; intro w hg; refine WO.fr ?_) | (refine op_pureB hg ?_; clear hg; intro w hg c hc; cases c <;> refine WO.fr ?_))
    exact ret1 rfl ⟨⟨_, rfl⟩, hg.drop⟩
  obtain ⟨bn, kn, cap1, row, e1, hrl, hrow, hDf⟩ := hD0.get hltk
  simp only [Value.slice.injEq, true_and] at e1
  obtain ⟨rfl, rfl⟩ := e1
  have hDf0 := hDf
  obtain ⟨vc, vn, vt, rfl, _, _, _⟩ := hDf
  have r1 : ∀ {w Fs}, Goes w0 [] Fs w → Cells w ⟨bn, kn + k * 5, none⟩ [vc, .int .i64 L.dfas[k].width, vn, vt, .int .i64 L.dfas[k].start] := fun g => g.cells0 hrow
  clear hrow
  repeat' (first | refine zN ?_ | (refine WC.quietG hg ?_; clear hg) | ((with_reducible refine WQ.nilG ?_); intro w hg) | (refine zB ?_; clear hg; intro b w hg; refine WO.fr ?_) | (refine zW ?_; clear hg; intro w hg; refine WO.fr ?_) | (refine op_pureB hg ?_; clear hg; intro w hg c hc; cases c <;> refine WO.fr ?_))
  refine op_call (dFar_spec _ _ _ (hDf0.goes hg)) ?_
  rintro _ w2 ⟨⟨r, rfl⟩, hg2⟩
  replace hg := hg.call00 hg2
  clear hg2
  refine ⟨_, rfl, ?_⟩
  refine WO.fr ?_
  cases r
  rotate_left
  · repeat' (first | refine zN ?_ | (refine WC.quietG hg ?_; clear hg) | ((with_reducible refine WQ.nilG ?_); intro w hg) | (refine zB ?_; clear hg; intro b w hg; refine WO.fr ?_) | (refine zW ?_; clear hg; intro w hg; refine WO.fr ?_) | (refine op_pureB hg ?_; clear hg; intro w hg c hc; cases c <;> refine WO.fr ?_))
    exact ret1 rfl ⟨⟨_, rfl⟩, hg.drop⟩
  repeat' (first | refine zN ?_ | (refine WC.quietG hg ?_; clear hg) | ((with_reducible refine WQ.nilG ?_); intro w hg) | (refine zB ?_; clear hg; intro b w hg; refine WO.fr ?_) | (refine zW ?_; clear hg; intro w hg; refine WO.fr ?_) | (refine op_pureB hg ?_; clear hg; intro w hg c hc; cases c <;> refine WO.fr ?_))
  with_reducible refine QX.norm ?_
  refine hK _ _ _ ?_ ?_ ?_
  · simp only [setAll, List.map_cons, List.map_nil, gt, List.set_cons_succ, List.set_cons_zero]
  all_goals try simp only [List.map_cons, List.map_nil, gt, intOf]
  · exact ⟨k + 1, trivial, rfl, by omega, hg⟩
  · omega
set_option maxHeartbeats 8000000 in
theorem zRight_spec (w0 : World) (cs : List Value) (L : PLex) (hL : LexAt w0 cs L) : Calls Tryz.prog 37 #[.agg cs.toArray] w0 fun e w' => (e = .returned (.bool false) ∨ (e = .returned (.bool true) ∧ LexOK L)) ∧ Goes w0 [] [] w' := by
  obtain ⟨vm, vd, va, rfl, hM, hD, hA⟩ := hL
  have hg := Goes.refl w0
  have hM0 := hM
  have hD0 := hD
  have hA0 := hA
  obtain ⟨am, cm, rfl, hlm⟩ := hM.slice
  obtain ⟨ad, cd, rfl, hld⟩ := hD.slice
  obtain ⟨aa, ca, rfl, hla⟩ := hA.slice
  clear hM hD hA
  refine enter Tryz.func37 rfl (by simp only [Tryz.ntmps37, List.length_cons, List.length_nil, Nat.reduceAdd, Nat.reduceSub, List.replicate_succ, List.replicate_zero, List.cons_append, List.nil_append]; exact rfl) ?_
  by_cases h1 : L.modes.length < 1
  · repeat' (first | refine zN ?_ | (refine WC.quietG hg ?_; clear hg) | ((with_reducible refine WQ.nilG ?_); intro w hg) | (refine zB ?_; clear hg; intro b w hg; refine WO.fr ?_) | (refine zW ?_; clear hg; intro w hg; refine WO.fr ?_) | (refine op_pureB hg ?_; clear hg; intro w hg c hc; cases c <;> refine WO.fr ?_))
    exact ret1 rfl ⟨.inl rfl, hg.drop⟩
  by_cases h2 : 16 < L.modes.length
  · repeat' (first | refine zN ?_ | (refine WC.quietG hg ?_; clear hg) | ((with_reducible refine WQ.nilG ?_); intro w hg) | (refine zB ?_; clear hg; intro b w hg; refine WO.fr ?_) | (refine zW ?_; clear hg; intro w hg; refine WO.fr ?_) | (refine op_pureB hg ?_; clear hg; intro w hg c hc; cases c <;> refine WO.fr ?_))
    exact ret1 rfl ⟨.inl rfl, hg.drop⟩
  repeat' (first | refine zN ?_ | (refine WC.quietG hg ?_; clear hg) | ((with_reducible refine WQ.nilG ?_); intro w hg) | (refine zB ?_; clear hg; intro b w hg; refine WO.fr ?_) | (refine zW ?_; clear hg; intro w hg; refine WO.fr ?_) | (refine op_pureB hg ?_; clear hg; intro w hg c hc; cases c <;> refine WO.fr ?_))
  obtain ⟨bb, rfl⟩ : ∃ z, z = b := ⟨b, rfl⟩
  refine op_call (dModes_spec _ _ _ (hM0.goes hg)) ?_
  rintro _ w2 ⟨rfl | ⟨rfl, hm2, hm3⟩, hg2⟩
  · replace hg := hg.call00 hg2
    clear hg2
    refine ⟨_, rfl, ?_⟩
    refine WO.fr ?_
    repeat' (first | refine zN ?_ | (refine WC.quietG hg ?_; clear hg) | ((with_reducible refine WQ.nilG ?_); intro w hg) | (refine zB ?_; clear hg; intro b w hg; refine WO.fr ?_) | (refine zW ?_; clear hg; intro w hg; refine WO.fr ?_) | (refine op_pureB hg ?_; clear hg; intro w hg c hc; cases c <;> refine WO.fr ?_))
    exact ret1 rfl ⟨.inl rfl, hg.drop⟩
  replace hg := hg.call00 hg2
  clear hg2
  refine ⟨_, rfl, ?_⟩
  refine WO.fr ?_
  by_cases h3 : 128 < L.acts.length
  · repeat' (first | refine zN ?_ | (refine WC.quietG hg ?_; clear hg) | ((with_reducible refine WQ.nilG ?_); intro w hg) | (refine zB ?_; clear hg; intro b w hg; refine WO.fr ?_) | (refine zW ?_; clear hg; intro w hg; refine WO.fr ?_) | (refine op_pureB hg ?_; clear hg; intro w hg c hc; cases c <;> refine WO.fr ?_))
    exact ret1 rfl ⟨.inl rfl, hg.drop⟩
  by_cases h4 : L.dfas.length = L.modes.length
  rotate_left
  · repeat' (first | refine zN ?_ | (refine WC.quietG hg ?_; clear hg) | ((with_reducible refine WQ.nilG ?_); intro w hg) | (refine zB ?_; clear hg; intro b w hg; refine WO.fr ?_) | (refine zW ?_; clear hg; intro w hg; refine WO.fr ?_) | (refine op_pureB hg ?_; clear hg; intro w hg c hc; cases c <;> refine WO.fr ?_))
    exact ret1 rfl ⟨.inl rfl, hg.drop⟩
  repeat' (first | refine zN ?_ | (refine WC.quietG hg ?_; clear hg) | ((with_reducible refine WQ.nilG ?_); intro w hg) | (refine zB ?_; clear hg; intro b w hg; refine WO.fr ?_) | (refine zW ?_; clear hg; intro w hg; refine WO.fr ?_) | (refine op_pureB hg ?_; clear hg; intro w hg c hc; cases c <;> refine WO.fr ?_))
  refine WC.loopS [2, 3, 38, 39, 40, 41, 42, 43, 44, 45, 46, 47, 48, 49, 50, 51, 52, 53] (fun xs dd w => ∃ i : Nat, dd = [] ∧ (gt xs 1) = .int .i64 i ∧ i ≤ L.acts.length ∧ (∀ j, j < i → ((L.acts.getD j ⟨[], 0⟩).emit = [] ∨ NameR (L.acts.getD j ⟨[], 0⟩).emit) ∧ -1 ≤ (L.acts.getD j ⟨[], 0⟩).goto ∧ (L.acts.getD j ⟨[], 0⟩).goto < L.modes.length) ∧ Goes w0 [] [[(bb, .cells [.slice am L.modes.length cm, .slice ad L.dfas.length cd, .slice aa L.acts.length ca].toArray 26 (0, 0))]] w) (fun xs _ _ => L.acts.length - (intOf (gt xs 1)).toNat) ?_ ?_
  · exact ⟨0, rfl, rfl, Nat.zero_le _, fun j hj => by omega, hg⟩
  clear hg
  intro xs d w hlen hI K hK
  replace hlen := len_cons hlen
  obtain ⟨x2, xs, rfl, hlen⟩ := hlen
  replace hlen := len_cons hlen
  obtain ⟨x3, xs, rfl, hlen⟩ := hlen
  replace hlen := len_cons hlen
  obtain ⟨x38, xs, rfl, hlen⟩ := hlen
  replace hlen := len_cons hlen
  obtain ⟨x39, xs, rfl, hlen⟩ := hlen
  replace hlen := len_cons hlen
  obtain ⟨x40, xs, rfl, hlen⟩ := hlen
  replace hlen := len_cons hlen
  obtain ⟨x41, xs, rfl, hlen⟩ := hlen
  replace hlen := len_cons hlen
  obtain ⟨x42, xs, rfl, hlen⟩ := hlen
  replace hlen := len_cons hlen
  obtain ⟨x43, xs, rfl, hlen⟩ := hlen
  replace hlen := len_cons hlen
  obtain ⟨x44, xs, rfl, hlen⟩ := hlen
  replace hlen := len_cons hlen
  obtain ⟨x45, xs, rfl, hlen⟩ := hlen
  replace hlen := len_cons hlen
  obtain ⟨x46, xs, rfl, hlen⟩ := hlen
  replace hlen := len_cons hlen
  obtain ⟨x47, xs, rfl, hlen⟩ := hlen
  replace hlen := len_cons hlen
  obtain ⟨x48, xs, rfl, hlen⟩ := hlen
  replace hlen := len_cons hlen
  obtain ⟨x49, xs, rfl, hlen⟩ := hlen
  replace hlen := len_cons hlen
  obtain ⟨x50, xs, rfl, hlen⟩ := hlen
  replace hlen := len_cons hlen
  obtain ⟨x51, xs, rfl, hlen⟩ := hlen
  replace hlen := len_cons hlen
  obtain ⟨x52, xs, rfl, hlen⟩ := hlen
  replace hlen := len_cons hlen
  obtain ⟨x53, xs, rfl, hlen⟩ := hlen
  replace hlen := len_nil hlen
  subst hlen
  refine WC.frame (by simp only [setAll, List.set_cons_succ, List.set_cons_zero]; exact rfl) ?_
  try simp only [gt] at hI
  obtain ⟨i, rfl, rfl, hi, hac, hg⟩ := hI
  by_cases hlti : i < L.acts.length
  · obtain ⟨b2, k2, cap', e, hc⟩ := hA0.get (i := i) hlti
    simp only [Value.slice.injEq] at e
    obtain ⟨rfl, _, rfl⟩ := e
    generalize hx : L.acts.getD i ⟨[], 0⟩ = x at hc
    have t1 : ∀ {w : World}, (Goes w0 [] [] w ∧ w.heap[bb]? = some (.cells [.slice am L.modes.length cm, .slice ad L.dfas.length cd, (.slice (some ⟨b2, k2, none⟩) L.acts.length ca)].toArray 26 (0, 0))) → Cells w ⟨b2, k2 + i * 2, none⟩ [.string (str x.emit), .int .i64 x.goto] := fun h => h.1.cells0 hc
    have s1 : ∀ {w : World}, (Goes w0 [] [] w ∧ w.heap[bb]? = some (.cells [.slice am L.modes.length cm, .slice ad L.dfas.length cd, (.slice (some ⟨b2, k2, none⟩) L.acts.length ca)].toArray 26 (0, 0))) → w.cell? ⟨bb, 0, none⟩ = some (.slice am L.modes.length cm) := fun h => heap_cell h.2 rfl
    have s2 : ∀ {w : World}, (Goes w0 [] [] w ∧ w.heap[bb]? = some (.cells [.slice am L.modes.length cm, .slice ad L.dfas.length cd, (.slice (some ⟨b2, k2, none⟩) L.acts.length ca)].toArray 26 (0, 0))) → w.cell? ⟨bb, 2, none⟩ = some (.slice (some ⟨b2, k2, none⟩) L.acts.length ca) := fun h => heap_cell h.2 rfl
    repeat' (first | refine zN ?_ | ((with_reducible refine WQ.nilG ?_); intro w hg) | (refine zB ?_; clear hg; intro b w hg; refine WO.fr ?_) | (refine zW ?_; clear hg; intro w hg; refine WO.fr ?_) | (refine op_pureB hg ?_; clear hg; intro w hg c hc; cases c <;> refine WO.fr ?_))
    refine WC.drawn (fun w => (Goes w0 [] [] w ∧ w.heap[bb]? = some (.cells [.slice am L.modes.length cm, .slice ad L.dfas.length cd, (.slice (some ⟨b2, k2, none⟩) L.acts.length ca)].toArray 26 (0, 0)))) [] hg ?_
    clear hg
    intro w hg
    have hS : (fun w => (Goes w0 [] [] w ∧ w.heap[bb]? = some (.cells [.slice am L.modes.length cm, .slice ad L.dfas.length cd, (.slice (some ⟨b2, k2, none⟩) L.acts.length ca)].toArray 26 (0, 0)))) w := ⟨hg.drop, hg.own (bb, .cells [.slice am L.modes.length cm, .slice ad L.dfas.length cd, (.slice (some ⟨b2, k2, none⟩) L.acts.length ca)].toArray 26 (0, 0)) (by simp)⟩
    refine WA.passM 0 hS ?_
    refine WA.passM 2 hS ?_
    refine WA.passM 5 hS ?_
    refine WA.passM 1 hS ?_
    refine WA.passM 3 hS ?_
    refine WA.passM 4 hS ?_
    refine WA.passM 6 hS ?_
    refine WA.only 7 ?_
    have hact := dAct_spec w x _ _ (hM0.goes hg)
    simp only [PAct.enc] at hact
    refine op_call hact ?_
    clear hact
    rintro _ w ⟨rfl | ⟨rfl, ha⟩, hg2⟩
    · replace hg := hg.call00 hg2
      clear hg2 hS
      refine ⟨_, rfl, ?_⟩
      refine WO.fr ?_
      have hS : (fun w => (Goes w0 [] [] w ∧ w.heap[bb]? = some (.cells [.slice am L.modes.length cm, .slice ad L.dfas.length cd, (.slice (some ⟨b2, k2, none⟩) L.acts.length ca)].toArray 26 (0, 0)))) w := ⟨hg.drop, hg.own (bb, .cells [.slice am L.modes.length cm, .slice ad L.dfas.length cd, (.slice (some ⟨b2, k2, none⟩) L.acts.length ca)].toArray 26 (0, 0)) (by simp)⟩
      refine WO.nilA hS ?_
      refine WA.passM 8 hS ?_
      refine WA.nil ?_
      clear hS t1 s1 s2
      repeat' (first | refine zN ?_ | (refine WC.quietG hg ?_; clear hg) | ((with_reducible refine WQ.nilG ?_); intro w hg) | (refine zB ?_; clear hg; intro b w hg; refine WO.fr ?_) | (refine zW ?_; clear hg; intro w hg; refine WO.fr ?_) | (refine op_pureB hg ?_; clear hg; intro w hg c hc; cases c <;> refine WO.fr ?_))
      exact ret1 rfl ⟨.inl rfl, hg.drop⟩
    · replace hg := hg.call00 hg2
      clear hg2 hS
      refine ⟨_, rfl, ?_⟩
      refine WO.fr ?_
      have hS : (fun w => (Goes w0 [] [] w ∧ w.heap[bb]? = some (.cells [.slice am L.modes.length cm, .slice ad L.dfas.length cd, (.slice (some ⟨b2, k2, none⟩) L.acts.length ca)].toArray 26 (0, 0)))) w := ⟨hg.drop, hg.own (bb, .cells [.slice am L.modes.length cm, .slice ad L.dfas.length cd, (.slice (some ⟨b2, k2, none⟩) L.acts.length ca)].toArray 26 (0, 0)) (by simp)⟩
      refine WO.nilA hS ?_
      refine WA.passM 8 hS ?_
      refine WA.nil ?_
      clear hS t1 s1 s2
      repeat' (first | refine zN ?_ | (refine WC.quietG hg ?_; clear hg) | ((with_reducible refine WQ.nilG ?_); intro w hg) | (refine zB ?_; clear hg; intro b w hg; refine WO.fr ?_) | (refine zW ?_; clear hg; intro w hg; refine WO.fr ?_) | (refine op_pureB hg ?_; clear hg; intro w hg c hc; cases c <;> refine WO.fr ?_))
      with_reducible refine QX.norm ?_
      refine hK _ _ _ ?_ ?_ ?_
      · simp only [setAll, List.map_cons, List.map_nil, gt, List.set_cons_succ, List.set_cons_zero]
      all_goals try simp only [List.map_cons, List.map_nil, gt, intOf]
      · refine ⟨i + 1, trivial, rfl, by omega, fun j hj => ?_, hg⟩
        by_cases e : j = i
        · rw [e, hx]; exact ha
        · exact hac j (by omega)
      · omega
  obtain rfl : i = L.acts.length := by omega
  repeat' (first | refine zN ?_ | (refine WC.quietG hg ?_; clear hg) | ((with_reducible refine WQ.nilG ?_); intro w hg) | (refine zB ?_; clear hg; intro b w hg; refine WO.fr ?_) | (refine zW ?_; clear hg; intro w hg; refine WO.fr ?_) | (refine op_pureB hg ?_; clear hg; intro w hg c hc; cases c <;> refine WO.fr ?_))
  clear hK
  refine WC.loopS [2, 4, 5, 6, 54, 55, 56, 57, 58, 59, 60, 61, 62, 63, 64, 65, 66, 67, 68, 69, 70, 71, 72, 73, 74, 75, 76, 77, 78, 79, 80, 81, 82, 83, 84, 85, 86, 87, 88, 89, 90, 91] (fun xs dd w => ∃ i : Nat, dd = [] ∧ (gt xs 1) = .int .i64 i ∧ i ≤ L.dfas.length ∧ (∀ j (hj : j < L.dfas.length), j < i → DfaOK L.acts.length L.dfas[j]) ∧ Goes w0 [] [[(bb, .cells [.slice am L.modes.length cm, .slice ad L.dfas.length cd, .slice aa L.acts.length ca].toArray 26 (0, 0))]] w) (fun xs _ _ => L.dfas.length - (intOf (gt xs 1)).toNat) ?_ ?_
  · exact ⟨0, rfl, rfl, Nat.zero_le _, fun j _ hj => by omega, hg⟩
  clear hg
  have hok : (∀ j (hj : j < L.dfas.length), DfaOK L.acts.length L.dfas[j]) → LexOK L := fun h => ⟨by omega, hm2, hm3, by omega, fun j hj => hac j hj, h4, h⟩
  clear hm2 hm3 hac hM0
  intro xs d w hlen hI K hK
  replace hlen := len_cons hlen
  obtain ⟨x2, xs, rfl, hlen⟩ := hlen
  replace hlen := len_cons hlen
  obtain ⟨x4, xs, rfl, hlen⟩ := hlen
  replace hlen := len_cons hlen
  obtain ⟨x5, xs, rfl, hlen⟩ := hlen
  replace hlen := len_cons hlen
  obtain ⟨x6, xs, rfl, hlen⟩ := hlen
  replace hlen := len_cons hlen
  obtain ⟨x54, xs, rfl, hlen⟩ := hlen
  replace hlen := len_cons hlen
  obtain ⟨x55, xs, rfl, hlen⟩ := hlen
  replace hlen := len_cons hlen
  obtain ⟨x56, xs, rfl, hlen⟩ := hlen
  replace hlen := len_cons hlen
  obtain ⟨x57, xs, rfl, hlen⟩ := hlen
  replace hlen := len_cons hlen
  obtain ⟨x58, xs, rfl, hlen⟩ := hlen
  replace hlen := len_cons hlen
  obtain ⟨x59, xs, rfl, hlen⟩ := hlen
  replace hlen := len_cons hlen
  obtain ⟨x60, xs, rfl, hlen⟩ := hlen
  replace hlen := len_cons hlen
  obtain ⟨x61, xs, rfl, hlen⟩ := hlen
  replace hlen := len_cons hlen
  obtain ⟨x62, xs, rfl, hlen⟩ := hlen
  replace hlen := len_cons hlen
  obtain ⟨x63, xs, rfl, hlen⟩ := hlen
  replace hlen := len_cons hlen
  obtain ⟨x64, xs, rfl, hlen⟩ := hlen
  replace hlen := len_cons hlen
  obtain ⟨x65, xs, rfl, hlen⟩ := hlen
  replace hlen := len_cons hlen
  obtain ⟨x66, xs, rfl, hlen⟩ := hlen
  replace hlen := len_cons hlen
  obtain ⟨x67, xs, rfl, hlen⟩ := hlen
  replace hlen := len_cons hlen
  obtain ⟨x68, xs, rfl, hlen⟩ := hlen
  replace hlen := len_cons hlen
  obtain ⟨x69, xs, rfl, hlen⟩ := hlen
  replace hlen := len_cons hlen
  obtain ⟨x70, xs, rfl, hlen⟩ := hlen
  replace hlen := len_cons hlen
  obtain ⟨x71, xs, rfl, hlen⟩ := hlen
  replace hlen := len_cons hlen
  obtain ⟨x72, xs, rfl, hlen⟩ := hlen
  replace hlen := len_cons hlen
  obtain ⟨x73, xs, rfl, hlen⟩ := hlen
  replace hlen := len_cons hlen
  obtain ⟨x74, xs, rfl, hlen⟩ := hlen
  replace hlen := len_cons hlen
  obtain ⟨x75, xs, rfl, hlen⟩ := hlen
  replace hlen := len_cons hlen
  obtain ⟨x76, xs, rfl, hlen⟩ := hlen
  replace hlen := len_cons hlen
  obtain ⟨x77, xs, rfl, hlen⟩ := hlen
  replace hlen := len_cons hlen
  obtain ⟨x78, xs, rfl, hlen⟩ := hlen
  replace hlen := len_cons hlen
  obtain ⟨x79, xs, rfl, hlen⟩ := hlen
  replace hlen := len_cons hlen
  obtain ⟨x80, xs, rfl, hlen⟩ := hlen
  replace hlen := len_cons hlen
  obtain ⟨x81, xs, rfl, hlen⟩ := hlen
  replace hlen := len_cons hlen
  obtain ⟨x82, xs, rfl, hlen⟩ := hlen
  replace hlen := len_cons hlen
  obtain ⟨x83, xs, rfl, hlen⟩ := hlen
  replace hlen := len_cons hlen
  obtain ⟨x84, xs, rfl, hlen⟩ := hlen
  replace hlen := len_cons hlen
  obtain ⟨x85, xs, rfl, hlen⟩ := hlen
  replace hlen := len_cons hlen
  obtain ⟨x86, xs, rfl, hlen⟩ := hlen
  replace hlen := len_cons hlen
  obtain ⟨x87, xs, rfl, hlen⟩ := hlen
  replace hlen := len_cons hlen
  obtain ⟨x88, xs, rfl, hlen⟩ := hlen
  replace hlen := len_cons hlen
  obtain ⟨x89, xs, rfl, hlen⟩ := hlen
  replace hlen := len_cons hlen
  obtain ⟨x90, xs, rfl, hlen⟩ := hlen
  replace hlen := len_cons hlen
  obtain ⟨x91, xs, rfl, hlen⟩ := hlen
  replace hlen := len_nil hlen
  subst hlen
  refine WC.frame (by simp only [setAll, List.set_cons_succ, List.set_cons_zero]; exact rfl) ?_
  try simp only [gt] at hI
  obtain ⟨k, rfl, rfl, hk, hdk, hg⟩ := hI
  by_cases hltk : k < L.dfas.length
  rotate_left
  · repeat' (first | refine zN ?_ | (refine WC.quietG hg ?_; clear hg) | ((with_reducible refine WQ.nilG ?_); intro w hg) | (refine zB ?_; clear hg; intro b w hg; refine WO.fr ?_) | (refine zW ?_; clear hg; intro w hg; refine WO.fr ?_) | (refine op_pureB hg ?_; clear hg; intro w hg c hc; cases c <;> refine WO.fr ?_))
    exact ret1 rfl ⟨.inr ⟨rfl, hok (fun j hj => hdk j hj (by omega))⟩, hg.drop⟩
  obtain ⟨bn, kn, cap1, row, e1, hrl, hrow, hDf⟩ := hD0.get hltk
  simp only [Value.slice.injEq, true_and] at e1
  obtain ⟨rfl, rfl⟩ := e1
  generalize hd : L.dfas[k] = d at hDf
  have hDf0 := hDf
  obtain ⟨vc, vn, vt, rfl, hC, hN, hT⟩ := hDf
  have hT0 := hT
  obtain ⟨ac, cc, rfl, hlc⟩ := hC.slice
  obtain ⟨an, cn, rfl, hln⟩ := hN.slice
  obtain ⟨at', ct, rfl, hlt⟩ := hT.slice
  have r1 : ∀ {w Fs}, Goes w0 [] Fs w → Cells w ⟨bn, kn + k * 5, none⟩ [.slice ac d.cls.length cc, .int .i64 d.width, .slice an d.next.length cn, .slice at' d.tag.length ct, .int .i64 d.start] := fun g => g.cells0 hrow
  clear hrow hT hC hN
  repeat' (first | refine zN ?_ | (refine WC.quietG hg ?_; clear hg) | ((with_reducible refine WQ.nilG ?_); intro w hg) | (refine zB ?_; clear hg; intro b w hg; refine WO.fr ?_) | (refine zW ?_; clear hg; intro w hg; refine WO.fr ?_) | (refine op_pureB hg ?_; clear hg; intro w hg c hc; cases c <;> refine WO.fr ?_))
  obtain ⟨b5, rfl⟩ : ∃ z, z = b := ⟨b, rfl⟩
  refine op_call (dRight_spec _ _ d (hDf0.goes hg)) ?_
  rintro _ w2 ⟨⟨r, rfl, hdr⟩, hg2⟩
  replace hg := hg.call00 hg2
  clear hg2
  refine ⟨_, rfl, ?_⟩
  refine WO.fr ?_
  cases r
  · repeat' (first | refine zN ?_ | (refine WC.quietG hg ?_; clear hg) | ((with_reducible refine WQ.nilG ?_); intro w hg) | (refine zB ?_; clear hg; intro b w hg; refine WO.fr ?_) | (refine zW ?_; clear hg; intro w hg; refine WO.fr ?_) | (refine op_pureB hg ?_; clear hg; intro w hg c hc; cases c <;> refine WO.fr ?_))
    exact ret1 rfl ⟨.inl rfl, hg.drop⟩
  have hdr := hdr rfl
  repeat' (first | refine zN ?_ | (refine WC.quietG hg ?_; clear hg) | ((with_reducible refine WQ.nilG ?_); intro w hg) | (refine zB ?_; clear hg; intro b w hg; refine WO.fr ?_) | (refine zW ?_; clear hg; intro w hg; refine WO.fr ?_) | (refine op_pureB hg ?_; clear hg; intro w hg c hc; cases c <;> refine WO.fr ?_))
  refine op_call (dTag_spec _ _ d (hDf0.goes hg)) ?_
  rintro _ w2 ⟨⟨t, rfl, htg⟩, hg2⟩
  replace hg := hg.call00 hg2
  clear hg2
  refine ⟨_, rfl, ?_⟩
  refine WO.fr ?_
  by_cases ht : 0 ≤ t
  · repeat' (first | refine zN ?_ | (refine WC.quietG hg ?_; clear hg) | ((with_reducible refine WQ.nilG ?_); intro w hg) | (refine zB ?_; clear hg; intro b w hg; refine WO.fr ?_) | (refine zW ?_; clear hg; intro w hg; refine WO.fr ?_) | (refine op_pureB hg ?_; clear hg; intro w hg c hc; cases c <;> refine WO.fr ?_))
    exact ret1 rfl ⟨.inl rfl, hg.drop⟩
  repeat' (first | refine zN ?_ | (refine WC.quietG hg ?_; clear hg) | ((with_reducible refine WQ.nilG ?_); intro w hg) | (refine zB ?_; clear hg; intro b w hg; refine WO.fr ?_) | (refine zW ?_; clear hg; intro w hg; refine WO.fr ?_) | (refine op_pureB hg ?_; clear hg; intro w hg c hc; cases c <;> refine WO.fr ?_))
  refine WC.loopS [2, 6, 76, 77, 78, 79, 80, 81, 82, 83, 84, 85, 86, 87, 88, 89, 90, 91] (fun xs dd w => ∃ i : Nat, dd = [] ∧ (gt xs 1) = .int .i64 i ∧ i ≤ d.tag.length ∧ (∀ j, j < i → d.tag.getD j 0 < L.acts.length) ∧ Goes w0 [] [[(b5, .cells [.slice ac d.cls.length cc, .int .i64 d.width, .slice an d.next.length cn, .slice at' d.tag.length ct, .int .i64 d.start].toArray 101 (0, 0))], [(bb, .cells [.slice am L.modes.length cm, (.slice (some ⟨bn, kn, none⟩) L.dfas.length cd), .slice aa L.acts.length ca].toArray 26 (0, 0))]] w) (fun xs _ _ => d.tag.length - (intOf (gt xs 1)).toNat) ?_ ?_
  · exact ⟨0, rfl, rfl, Nat.zero_le _, fun j hj => by omega, hg⟩
  clear hg
  have hK1 := hK
  clear hK
  intro xs d w hlen hI K hK
  replace hlen := len_cons hlen
  obtain ⟨x2, xs, rfl, hlen⟩ := hlen
  replace hlen := len_cons hlen
  obtain ⟨x6, xs, rfl, hlen⟩ := hlen
  replace hlen := len_cons hlen
  obtain ⟨x76, xs, rfl, hlen⟩ := hlen
  replace hlen := len_cons hlen
  obtain ⟨x77, xs, rfl, hlen⟩ := hlen
  replace hlen := len_cons hlen
  obtain ⟨x78, xs, rfl, hlen⟩ := hlen
  replace hlen := len_cons hlen
  obtain ⟨x79, xs, rfl, hlen⟩ := hlen
  replace hlen := len_cons hlen
  obtain ⟨x80, xs, rfl, hlen⟩ := hlen
  replace hlen := len_cons hlen
  obtain ⟨x81, xs, rfl, hlen⟩ := hlen
  replace hlen := len_cons hlen
  obtain ⟨x82, xs, rfl, hlen⟩ := hlen
  replace hlen := len_cons hlen
  obtain ⟨x83, xs, rfl, hlen⟩ := hlen
  replace hlen := len_cons hlen
  obtain ⟨x84, xs, rfl, hlen⟩ := hlen
  replace hlen := len_cons hlen
  obtain ⟨x85, xs, rfl, hlen⟩ := hlen
  replace hlen := len_cons hlen
  obtain ⟨x86, xs, rfl, hlen⟩ := hlen
  replace hlen := len_cons hlen
  obtain ⟨x87, xs, rfl, hlen⟩ := hlen
  replace hlen := len_cons hlen
  obtain ⟨x88, xs, rfl, hlen⟩ := hlen
  replace hlen := len_cons hlen
  obtain ⟨x89, xs, rfl, hlen⟩ := hlen
  replace hlen := len_cons hlen
  obtain ⟨x90, xs, rfl, hlen⟩ := hlen
  replace hlen := len_cons hlen
  obtain ⟨x91, xs, rfl, hlen⟩ := hlen
  replace hlen := len_nil hlen
  subst hlen
  refine WC.frame (by simp only [setAll, List.set_cons_succ, List.set_cons_zero]; exact rfl) ?_
  try simp only [gt] at hI
  obtain ⟨m, rfl, rfl, hm, htm, hg⟩ := hI
  by_cases hltm : m < d.tag.length
  rotate_left
  · repeat' (first | refine zN ?_ | (refine WC.quietG hg ?_; clear hg) | ((with_reducible refine WQ.nilG ?_); intro w hg) | (refine zB ?_; clear hg; intro b w hg; refine WO.fr ?_) | (refine zW ?_; clear hg; intro w hg; refine WO.fr ?_) | (refine op_pureB hg ?_; clear hg; intro w hg c hc; cases c <;> refine WO.fr ?_))
    clear hK
    have hK := hK1
    with_reducible refine QX.norm ?_
    refine hK _ _ _ ?_ ?_ ?_
    · simp only [setAll, List.map_cons, List.map_nil, gt, List.set_cons_succ, List.set_cons_zero]
    all_goals try simp only [List.map_cons, List.map_nil, gt, intOf]
    · refine ⟨k + 1, trivial, rfl, by omega, fun j hj hjk => ?_, hg.drop0⟩
      by_cases e : j = k
      · subst e
        rw [hd]
        have ht1 := hdr.t1
        have hs1 := hdr.s1
        exact ⟨hdr.c1, hdr.c2, hdr.n1, ht1, hs1, fun i hi => ⟨hdr.t2 i hi, htm i (by omega)⟩, hdr.r1, hdr.r2, fun h0 => by rw [← htg h0 (by omega)]; omega⟩
      · exact hdk j hj (by omega)
    · omega
  obtain ⟨bt, kt, cap2, e2, htc⟩ := hT0.get hltm
  simp only [Value.slice.injEq, true_and] at e2
  obtain ⟨rfl, rfl⟩ := e2
  have c2 : ∀ {w Fs}, Goes w0 [] Fs w → w.cell? ⟨bt, kt + m, none⟩ = some (.int .i64 (d.tag.getD m 0)) := fun g => g.cellOld0 htc
  by_cases hta : d.tag.getD m 0 < L.acts.length
  rotate_left
  · repeat' (first | refine zN ?_ | (refine WC.quietG hg ?_; clear hg) | ((with_reducible refine WQ.nilG ?_); intro w hg) | (refine zB ?_; clear hg; intro b w hg; refine WO.fr ?_) | (refine zW ?_; clear hg; intro w hg; refine WO.fr ?_) | (refine op_pureB hg ?_; clear hg; intro w hg c hc; cases c <;> refine WO.fr ?_))
    exact ret1 rfl ⟨.inl rfl, hg.drop⟩
  · repeat' (first | refine zN ?_ | (refine WC.quietG hg ?_; clear hg) | ((with_reducible refine WQ.nilG ?_); intro w hg) | (refine zB ?_; clear hg; intro b w hg; refine WO.fr ?_) | (refine zW ?_; clear hg; intro w hg; refine WO.fr ?_) | (refine op_pureB hg ?_; clear hg; intro w hg c hc; cases c <;> refine WO.fr ?_))
    with_reducible refine QX.norm ?_
    refine hK _ _ _ ?_ ?_ ?_
    · simp only [setAll, List.map_cons, List.map_nil, gt, List.set_cons_succ, List.set_cons_zero]
    all_goals try simp only [List.map_cons, List.map_nil, gt, intOf]
    · refine ⟨m + 1, trivial, rfl, by omega, fun j hj => ?_, hg⟩
      by_cases e : j = m
      · rw [e]; exact hta
      · exact htm j (by omega)
    · omega
end Go.Proofs.YtkdidefghbeabaaGreat
namespace Go.Proofs.YtkdidefghbeabaaGreat
open Go Go.RowKit
set_option maxRecDepth 10000
set_option linter.unusedSimpArgs false
set_option linter.unusedVariables false

structure PPlan where
  L : PLex
  md : Int
  p : Prm
def PPlan.enc (q : PPlan) (vm vd va : Value) : List Value := vm :: vd :: va :: .int .i64 q.md :: q.p.enc
set_option maxHeartbeats 2000000 in
theorem rRight_spec (w0 : World) (vm vd va : Value) (L : PLex) (md : Int) (p : Prm) (hL : LexAt w0 [vm, vd, va] L) : Calls Tryz.prog 17 #[.agg #[vm, vd, va], .int .i64 md, .agg p.enc.toArray] w0 fun e w' => (∃ n : Int, e = .returned (.int .i64 n) ∧ (n = 0 → LexOK L ∧ (0 ≤ md ∧ md < L.modes.length) ∧ p.right = true)) ∧ Goes w0 [] [] w' := by
  obtain ⟨am, cm, hvm⟩ : ∃ am cm, vm = .slice am L.modes.length cm := by
    obtain ⟨_, _, _, he, ⟨am, cm, rfl, _⟩, _, _⟩ := hL
    simp only [List.cons.injEq] at he
    exact ⟨am, cm, he.1⟩
  subst hvm
  have hg := Goes.refl w0
  have p1 : ∀ {w Fs}, Goes w0 [] Fs w → Calls Tryz.prog 28 #[.agg p.enc.toArray] w _ := fun _ => dPrm_spec _ p
  simp only [Prm.enc] at p1 ⊢
  refine enter Tryz.func17 rfl (by simp only [Tryz.ntmps17, List.length_cons, List.length_nil, Nat.reduceAdd, Nat.reduceSub, List.replicate_succ, List.replicate_zero, List.cons_append, List.nil_append]; exact rfl) ?_
  repeat' (first | refine zN ?_ | (refine WC.quietG hg ?_; clear hg) | ((with_reducible refine WQ.nilG ?_); intro w hg) | (refine zB ?_; clear hg; intro b w hg; refine WO.fr ?_) | (refine zW ?_; clear hg; intro w hg; refine WO.fr ?_) | (refine op_pureB hg ?_; clear hg; intro w hg c hc; cases c <;> refine WO.fr ?_))
  refine op_call (zRight_spec _ _ L (hL.goes hg)) ?_
  rintro _ w2 ⟨rfl | ⟨rfl, hok⟩, hg2⟩
  · replace hg := hg.call00 hg2
    clear hg2
    refine ⟨_, rfl, ?_⟩
    refine WO.fr ?_
    repeat' (first | refine zN ?_ | (refine WC.quietG hg ?_; clear hg) | ((with_reducible refine WQ.nilG ?_); intro w hg) | (refine zB ?_; clear hg; intro b w hg; refine WO.fr ?_) | (refine zW ?_; clear hg; intro w hg; refine WO.fr ?_) | (refine op_pureB hg ?_; clear hg; intro w hg c hc; cases c <;> refine WO.fr ?_))
    exact ret1 rfl ⟨⟨3, rfl, fun h => by omega⟩, hg.drop⟩
  replace hg := hg.call00 hg2
  clear hg2
  refine ⟨_, rfl, ?_⟩
  refine WO.fr ?_
  by_cases h1 : md < 0
  · repeat' (first | refine zN ?_ | (refine WC.quietG hg ?_; clear hg) | ((with_reducible refine WQ.nilG ?_); intro w hg) | (refine zB ?_; clear hg; intro b w hg; refine WO.fr ?_) | (refine zW ?_; clear hg; intro w hg; refine WO.fr ?_) | (refine op_pureB hg ?_; clear hg; intro w hg c hc; cases c <;> refine WO.fr ?_))
    exact ret1 rfl ⟨⟨11, rfl, fun h => by omega⟩, hg.drop⟩
  by_cases h2 : (L.modes.length : Int) ≤ md
  · repeat' (first | refine zN ?_ | (refine WC.quietG hg ?_; clear hg) | ((with_reducible refine WQ.nilG ?_); intro w hg) | (refine zB ?_; clear hg; intro b w hg; refine WO.fr ?_) | (refine zW ?_; clear hg; intro w hg; refine WO.fr ?_) | (refine op_pureB hg ?_; clear hg; intro w hg c hc; cases c <;> refine WO.fr ?_))
    exact ret1 rfl ⟨⟨11, rfl, fun h => by omega⟩, hg.drop⟩
  cases hpr : p.right <;> rw [hpr] at p1
  · repeat' (first | refine zN ?_ | (refine WC.quietG hg ?_; clear hg) | ((with_reducible refine WQ.nilG ?_); intro w hg) | (refine zB ?_; clear hg; intro b w hg; refine WO.fr ?_) | (refine zW ?_; clear hg; intro w hg; refine WO.fr ?_) | (refine op_pureB hg ?_; clear hg; intro w hg c hc; cases c <;> refine WO.fr ?_))
    exact ret1 rfl ⟨⟨1, rfl, fun h => by omega⟩, hg.drop⟩
  · repeat' (first | refine zN ?_ | (refine WC.quietG hg ?_; clear hg) | ((with_reducible refine WQ.nilG ?_); intro w hg) | (refine zB ?_; clear hg; intro b w hg; refine WO.fr ?_) | (refine zW ?_; clear hg; intro w hg; refine WO.fr ?_) | (refine op_pureB hg ?_; clear hg; intro w hg c hc; cases c <;> refine WO.fr ?_))
    exact ret1 rfl ⟨⟨0, rfl, fun h => ⟨hok, ⟨by omega, by omega⟩, rfl⟩⟩, hg.drop⟩
set_option maxHeartbeats 2000000 in
theorem light_spec (w0 : World) (vm vd va : Value) (q : PPlan) (hL : LexAt w0 [vm, vd, va] q.L) : Calls Tryz.prog 4 #[.agg (q.enc vm vd va).toArray] w0 fun e w' => (∃ r, e = .returned (.bool r)) ∧ Goes w0 [] [] w' := by
  obtain ⟨am, cm, ad, cd, aa, ca, rfl, rfl, rfl⟩ : ∃ am cm ad cd aa ca, vm = .slice am q.L.modes.length cm ∧ vd = .slice ad q.L.dfas.length cd ∧ va = .slice aa q.L.acts.length ca := by
    obtain ⟨_, _, _, he, hM, hD, hA⟩ := hL
    obtain ⟨am, cm, e1, hlm⟩ := hM.slice
    obtain ⟨ad, cd, e2, hld⟩ := hD.slice
    obtain ⟨aa, ca, e3, hla⟩ := hA.slice
    simp only [List.cons.injEq] at he
    exact ⟨am, cm, ad, cd, aa, ca, he.1.trans e1, he.2.1.trans e2, he.2.2.1.trans e3⟩
  have hg := Goes.refl w0
  simp only [PPlan.enc, Prm.enc]
  refine enter Tryz.func4 rfl (by simp only [Tryz.ntmps4, List.length_cons, List.length_nil, Nat.reduceAdd, Nat.reduceSub, List.replicate_succ, List.replicate_zero, List.cons_append, List.nil_append]; exact rfl) ?_
  repeat' (first | refine zN ?_ | (refine WC.quietG hg ?_; clear hg) | ((with_reducible refine WQ.nilG ?_); intro w hg) | (refine zB ?_; clear hg; intro b w hg; refine WO.fr ?_) | (refine zW ?_; clear hg; intro w hg; refine WO.fr ?_) | (refine op_pureB hg ?_; clear hg; intro w hg c hc; cases c <;> refine WO.fr ?_))
  refine op_call (zFar_spec _ _ q.L (hL.goes hg)) ?_
  rintro _ w2 ⟨⟨r, rfl⟩, hg2⟩
  replace hg := hg.call00 hg2
  clear hg2
  refine ⟨_, rfl, ?_⟩
  refine WO.fr ?_
  cases r
  · by_cases hb : q.p.bytes ≤ 200
    · repeat' (first | refine zN ?_ | (refine WC.quietG hg ?_; clear hg) | ((with_reducible refine WQ.nilG ?_); intro w hg) | (refine zB ?_; clear hg; intro b w hg; refine WO.fr ?_) | (refine zW ?_; clear hg; intro w hg; refine WO.fr ?_) | (refine op_pureB hg ?_; clear hg; intro w hg c hc; cases c <;> refine WO.fr ?_))
      exact ret1 rfl ⟨⟨_, rfl⟩, hg.drop⟩
    · repeat' (first | refine zN ?_ | (refine WC.quietG hg ?_; clear hg) | ((with_reducible refine WQ.nilG ?_); intro w hg) | (refine zB ?_; clear hg; intro b w hg; refine WO.fr ?_) | (refine zW ?_; clear hg; intro w hg; refine WO.fr ?_) | (refine op_pureB hg ?_; clear hg; intro w hg c hc; cases c <;> refine WO.fr ?_))
      exact ret1 rfl ⟨⟨_, rfl⟩, hg.drop⟩
  · repeat' (first | refine zN ?_ | (refine WC.quietG hg ?_; clear hg) | ((with_reducible refine WQ.nilG ?_); intro w hg) | (refine zB ?_; clear hg; intro b w hg; refine WO.fr ?_) | (refine zW ?_; clear hg; intro w hg; refine WO.fr ?_) | (refine op_pureB hg ?_; clear hg; intro w hg c hc; cases c <;> refine WO.fr ?_))
    exact ret1 rfl ⟨⟨_, rfl⟩, hg.drop⟩
set_option maxHeartbeats 2000000 in
theorem pRight_spec (w0 : World) (vm vd va : Value) (q : PPlan) (hL : LexAt w0 [vm, vd, va] q.L) : Calls Tryz.prog 6 #[.agg (q.enc vm vd va).toArray] w0 fun e w' => (∃ n : Int, e = .returned (.int .i64 n) ∧ (n = 0 → LexOK q.L ∧ (0 ≤ q.md ∧ q.md < q.L.modes.length) ∧ q.p.right = true)) ∧ Goes w0 [] [] w' := by
  obtain ⟨am, cm, ad, cd, aa, ca, rfl, rfl, rfl⟩ : ∃ am cm ad cd aa ca, vm = .slice am q.L.modes.length cm ∧ vd = .slice ad q.L.dfas.length cd ∧ va = .slice aa q.L.acts.length ca := by
    obtain ⟨_, _, _, he, hM, hD, hA⟩ := hL
    obtain ⟨am, cm, e1, hlm⟩ := hM.slice
    obtain ⟨ad, cd, e2, hld⟩ := hD.slice
    obtain ⟨aa, ca, e3, hla⟩ := hA.slice
    simp only [List.cons.injEq] at he
    exact ⟨am, cm, ad, cd, aa, ca, he.1.trans e1, he.2.1.trans e2, he.2.2.1.trans e3⟩
  have hg := Goes.refl w0
  simp only [PPlan.enc, Prm.enc]
  refine enter Tryz.func6 rfl (by simp only [Tryz.ntmps6, List.length_cons, List.length_nil, Nat.reduceAdd, Nat.reduceSub, List.replicate_succ, List.replicate_zero, List.cons_append, List.nil_append]; exact rfl) ?_
  repeat' (first | refine zN ?_ | (refine WC.quietG hg ?_; clear hg) | ((with_reducible refine WQ.nilG ?_); intro w hg) | (refine zB ?_; clear hg; intro b w hg; refine WO.fr ?_) | (refine zW ?_; clear hg; intro w hg; refine WO.fr ?_) | (refine op_pureB hg ?_; clear hg; intro w hg c hc; cases c <;> refine WO.fr ?_))
  have hr := rRight_spec _ _ _ _ q.L q.md q.p (hL.goes hg)
  simp only [Prm.enc] at hr
  refine op_call hr ?_
  rintro _ w2 ⟨⟨n, rfl, hn⟩, hg2⟩
  replace hg := hg.call00 hg2
  clear hg2 hr
  refine ⟨_, rfl, ?_⟩
  refine WO.fr ?_
  repeat' (first | refine zN ?_ | (refine WC.quietG hg ?_; clear hg) | ((with_reducible refine WQ.nilG ?_); intro w hg) | (refine zB ?_; clear hg; intro b w hg; refine WO.fr ?_) | (refine zW ?_; clear hg; intro w hg; refine WO.fr ?_) | (refine op_pureB hg ?_; clear hg; intro w hg c hc; cases c <;> refine WO.fr ?_))
  exact ret1 rfl ⟨⟨n, rfl, hn⟩, hg.drop⟩

theorem mul_bd {a b A B : Int} (ha : 0 ≤ a ∧ a ≤ A) (hb : 0 ≤ b ∧ b ≤ B) : 0 ≤ a * b ∧ a * b ≤ A * B :=
  ⟨Int.mul_nonneg ha.1 hb.1, Int.mul_le_mul ha.2 hb.2 hb.1 (Int.le_trans ha.1 ha.2)⟩
def sqV (p : Prm) : Int := (p.bytes + 1) * (p.bytes + 1)
def stepsV (p : Prm) (k : Int) : Int := if k = 1 then p.bytes + 2 else if k = 3 then p.ahead * sqV p + p.ahead + 1 else if k = 4 then sqV p + 2 else 1
section
variable {p : Prm}
theorem square_spec (w0 : World) (hb : 1 ≤ p.bytes ∧ p.bytes ≤ 4096) : Calls Tryz.prog 30 #[.agg p.enc.toArray] w0 fun e w' => e = .returned (.int .i64 (sqV p)) ∧ Goes w0 [] [] w' := by
  have hg := Goes.refl w0
  have h1 := mul_bd (a := p.bytes + 1) (b := p.bytes + 1) (A := 4097) (B := 4097) (by omega) (by omega)
  simp only [Prm.enc]
  refine enter Tryz.func30 rfl (by simp only [Tryz.ntmps30, List.length_cons, List.length_nil, Nat.reduceAdd, Nat.reduceSub, List.replicate_succ, List.replicate_zero, List.cons_append, List.nil_append]; exact rfl) ?_
  repeat' (first | refine zN ?_ | (refine WC.quietG hg ?_; clear hg) | ((with_reducible refine WQ.nilG ?_); intro w hg) | (refine zB ?_; clear hg; intro b w hg; refine WO.fr ?_) | (refine zW ?_; clear hg; intro w hg; refine WO.fr ?_) | (refine op_pureB hg ?_; clear hg; intro w hg c hc; cases c <;> refine WO.fr ?_))
  exact ret1 rfl ⟨rfl, hg.drop⟩
set_option maxHeartbeats 4000000 in
theorem bSteps_spec (w0 : World) (k n : Int) (dat : ByteArray) (hp : p.right = true) : Calls Tryz.prog 11 #[.agg p.enc.toArray, .agg #[.int .i64 k, .int .i64 n, .string dat]] w0 fun e w' => e = .returned (.int .i64 (stepsV p k)) ∧ Goes w0 [] [] w' := by
  have hg := Goes.refl w0
  have hbd := right_iff.1 hp
  have p1 : ∀ {w Fs}, Goes w0 [] Fs w → Calls Tryz.prog 29 #[.agg p.enc.toArray] w _ := fun _ => wRight_spec _ p
  rw [hp] at p1
  have p2 : ∀ {w Fs}, Goes w0 [] Fs w → Calls Tryz.prog 30 #[.agg p.enc.toArray] w _ := fun _ => square_spec _ hbd.1
  have h1 : 0 ≤ sqV p ∧ sqV p ≤ 4097 * 4097 := mul_bd (a := p.bytes + 1) (b := p.bytes + 1) (A := 4097) (B := 4097) (by omega) (by omega)
  have h2 := mul_bd (a := p.ahead) (b := sqV p) (A := 16) (by omega) h1
  unfold stepsV
  generalize sqV p = sq at h1 h2 p2 ⊢
  simp only [Prm.enc] at p1 p2 ⊢
  refine enter Tryz.func11 rfl (by simp only [Tryz.ntmps11, List.length_cons, List.length_nil, Nat.reduceAdd, Nat.reduceSub, List.replicate_succ, List.replicate_zero, List.cons_append, List.nil_append]; exact rfl) ?_
  by_cases e1 : k = 1
  · subst e1
    repeat' (first | refine zN ?_ | (refine WC.quietG hg ?_; clear hg) | ((with_reducible refine WQ.nilG ?_); intro w hg) | (refine zB ?_; clear hg; intro b w hg; refine WO.fr ?_) | (refine zW ?_; clear hg; intro w hg; refine WO.fr ?_) | (refine op_pureB hg ?_; clear hg; intro w hg c hc; cases c <;> refine WO.fr ?_))
    exact ret1 rfl ⟨rfl, hg.drop⟩
  rw [if_neg e1]
  by_cases e3 : k = 3
  · subst e3
    repeat' (first | refine zN ?_ | (refine WC.quietG hg ?_; clear hg) | ((with_reducible refine WQ.nilG ?_); intro w hg) | (refine zB ?_; clear hg; intro b w hg; refine WO.fr ?_) | (refine zW ?_; clear hg; intro w hg; refine WO.fr ?_) | (refine op_pureB hg ?_; clear hg; intro w hg c hc; cases c <;> refine WO.fr ?_))
    exact ret1 rfl ⟨rfl, hg.drop⟩
  rw [if_neg e3]
  by_cases e4 : k = 4
  · subst e4
    repeat' (first | refine zN ?_ | (refine WC.quietG hg ?_; clear hg) | ((with_reducible refine WQ.nilG ?_); intro w hg) | (refine zB ?_; clear hg; intro b w hg; refine WO.fr ?_) | (refine zW ?_; clear hg; intro w hg; refine WO.fr ?_) | (refine op_pureB hg ?_; clear hg; intro w hg c hc; cases c <;> refine WO.fr ?_))
    exact ret1 rfl ⟨rfl, hg.drop⟩
  rw [if_neg e4]
  repeat' (first | refine zN ?_ | (refine WC.quietG hg ?_; clear hg) | ((with_reducible refine WQ.nilG ?_); intro w hg) | (refine zB ?_; clear hg; intro b w hg; refine WO.fr ?_) | (refine zW ?_; clear hg; intro w hg; refine WO.fr ?_) | (refine op_pureB hg ?_; clear hg; intro w hg c hc; cases c <;> refine WO.fr ?_))
  exact ret1 rfl ⟨rfl, hg.drop⟩
set_option maxHeartbeats 4000000 in
theorem rSteps_spec (w0 : World) (k : Int) (hp : p.right = true) : Calls Tryz.prog 10 #[.agg p.enc.toArray, .int .i64 k] w0 fun e w' => e = .returned (.int .i64 (stepsV p k)) ∧ Goes w0 [] [] w' := by
  have hg := Goes.refl w0
  have hbd := right_iff.1 hp
  have p1 : ∀ {w Fs}, Goes w0 [] Fs w → Calls Tryz.prog 28 #[.agg p.enc.toArray] w _ := fun _ => dPrm_spec _ p
  rw [hp] at p1
  have h1 := mul_bd (a := p.bytes + 1) (b := p.bytes + 1) (A := 4097) (B := 4097) (by omega) (by omega)
  have h5 := mul_bd (a := p.ahead) (b := p.bytes + 1) (A := 16) (B := 4097) (by omega) (by omega)
  have h6 := mul_bd (a := p.ahead * (p.bytes + 1)) (b := p.bytes + 1) h5 (B := 4097) (by omega)
  unfold stepsV sqV
  simp only [Prm.enc] at p1 ⊢
  refine enter Tryz.func10 rfl (by simp only [Tryz.ntmps10, List.length_cons, List.length_nil, Nat.reduceAdd, Nat.reduceSub, List.replicate_succ, List.replicate_zero, List.cons_append, List.nil_append]; exact rfl) ?_
  by_cases e1 : k = 1
  · subst e1
    repeat' (first | refine zN ?_ | (refine WC.quietG hg ?_; clear hg) | ((with_reducible refine WQ.nilG ?_); intro w hg) | (refine zB ?_; clear hg; intro b w hg; refine WO.fr ?_) | (refine zW ?_; clear hg; intro w hg; refine WO.fr ?_) | (refine op_pureB hg ?_; clear hg; intro w hg c hc; cases c <;> refine WO.fr ?_))
    exact ret1 rfl ⟨by show Go.Ending.returned (.int .i64 (p.bytes + 1 + 1)) = .returned (.int .i64 (p.bytes + 2)); rw [Int.add_assoc]; rfl, hg.drop⟩
  rw [if_neg e1]
  by_cases e3 : k = 3
  · subst e3
    repeat' (first | refine zN ?_ | (refine WC.quietG hg ?_; clear hg) | ((with_reducible refine WQ.nilG ?_); intro w hg) | (refine zB ?_; clear hg; intro b w hg; refine WO.fr ?_) | (refine zW ?_; clear hg; intro w hg; refine WO.fr ?_) | (refine op_pureB hg ?_; clear hg; intro w hg c hc; cases c <;> refine WO.fr ?_))
    exact ret1 rfl ⟨by rw [if_pos rfl, ← Int.mul_assoc]; rfl, hg.drop⟩
  rw [if_neg e3]
  by_cases e4 : k = 4
  · subst e4
    repeat' (first | refine zN ?_ | (refine WC.quietG hg ?_; clear hg) | ((with_reducible refine WQ.nilG ?_); intro w hg) | (refine zB ?_; clear hg; intro b w hg; refine WO.fr ?_) | (refine zW ?_; clear hg; intro w hg; refine WO.fr ?_) | (refine op_pureB hg ?_; clear hg; intro w hg c hc; cases c <;> refine WO.fr ?_))
    exact ret1 rfl ⟨rfl, hg.drop⟩
  rw [if_neg e4]
  repeat' (first | refine zN ?_ | (refine WC.quietG hg ?_; clear hg) | ((with_reducible refine WQ.nilG ?_); intro w hg) | (refine zB ?_; clear hg; intro b w hg; refine WO.fr ?_) | (refine zW ?_; clear hg; intro w hg; refine WO.fr ?_) | (refine op_pureB hg ?_; clear hg; intro w hg c hc; cases c <;> refine WO.fr ?_))
  exact ret1 rfl ⟨rfl, hg.drop⟩
end
end Go.Proofs.YtkdidefghbeabaaGreat
namespace Go.Proofs.YtkdidefghbeabaaGreat
open Go Go.RowKit
set_option maxRecDepth 10000
set_option linter.unusedSimpArgs false

/-- api.Item -/
structure Item where
  kind : Int
  client : Int
  opKind : Int
  opN : Int
  data : ByteArray
def Item.enc (x : Item) : List Value := [.int .i64 x.kind, .int .i64 x.client, .int .i64 x.opKind, .int .i64 x.opN, .string x.data]

def who (x : Item) (c : Int) : Int := if x.kind = 3 then 0 else if x.kind = 2 ∧ x.client = c then 1 else -1

theorem who_spec (x : Item) (c : Int) (w : World) : Calls Tryz.prog 75 #[.agg x.enc.toArray, .int .i64 c] w fun e w' => e = .returned (.int .i64 (who x c)) ∧ Goes w [] [] w' := by
  have hg := Goes.refl w
  by_cases h3 : x.kind = 3
  · refine enter Tryz.func75 rfl (by simp only [Tryz.ntmps75, List.length_cons, List.length_nil, Nat.reduceAdd, Nat.reduceSub, List.replicate_succ, List.replicate_zero, List.cons_append, List.nil_append]; exact rfl) ?_
    repeat' (first | refine zN ?_ | (refine WC.quietG hg ?_; clear hg) | ((with_reducible refine WQ.nilG ?_); intro w hg) | (refine zB ?_; clear hg; intro b w hg; refine WO.fr ?_) | (refine zW ?_; clear hg; intro w hg; refine WO.fr ?_) | (refine op_pureB hg ?_; clear hg; intro w hg c hc; cases c <;> refine WO.fr ?_))

    refine ret1 rfl ⟨?_, hg.drop⟩
    simp [gt, who, h3]
  by_cases h2 : x.kind = 2
  · by_cases hc : x.client = c
    all_goals
      refine enter Tryz.func75 rfl (by simp only [Tryz.ntmps75, List.length_cons, List.length_nil, Nat.reduceAdd, Nat.reduceSub, List.replicate_succ, List.replicate_zero, List.cons_append, List.nil_append]; exact rfl) ?_
      repeat' (first | refine zN ?_ | (refine WC.quietG hg ?_; clear hg) | ((with_reducible refine WQ.nilG ?_); intro w hg) | (refine zB ?_; clear hg; intro b w hg; refine WO.fr ?_) | (refine zW ?_; clear hg; intro w hg; refine WO.fr ?_) | (refine op_pureB hg ?_; clear hg; intro w hg c hc; cases c <;> refine WO.fr ?_))
      refine ret1 rfl ⟨?_, hg.drop⟩
      simp [gt, who, h2, hc]
  · refine enter Tryz.func75 rfl (by simp only [Tryz.ntmps75, List.length_cons, List.length_nil, Nat.reduceAdd, Nat.reduceSub, List.replicate_succ, List.replicate_zero, List.cons_append, List.nil_append]; exact rfl) ?_
    repeat' (first | refine zN ?_ | (refine WC.quietG hg ?_; clear hg) | ((with_reducible refine WQ.nilG ?_); intro w hg) | (refine zB ?_; clear hg; intro b w hg; refine WO.fr ?_) | (refine zW ?_; clear hg; intro w hg; refine WO.fr ?_) | (refine op_pureB hg ?_; clear hg; intro w hg c hc; cases c <;> refine WO.fr ?_))
    refine ret1 rfl ⟨?_, hg.drop⟩
    simp [gt, who, h3, h2]

theorem ends_spec (w : World) (v : Value) (fr c : Int) (hv : v.cells = #[v]) : Calls Tryz.prog 38 #[v, .int .i64 fr, .int .i64 c] w fun e w' => ∃ bl bf bc,
    e = .returned (.func (.func 74) #[] #[.pointer (some ⟨bf, 0, none⟩), .pointer (some ⟨bl, 0, none⟩), .pointer (some ⟨bc, 0, none⟩)]) ∧
    Goes w [] [[(bc, .cells #[.int .i64 c] 3 (0, 0))], [(bf, .cells #[.int .i64 fr] 3 (0, 0))], [(bl, .cells #[v] 59 (0, 0))]] w' := by
  have hg := Goes.refl w
  refine enter Tryz.func38 rfl (by simp only [Tryz.ntmps38, List.length_cons, List.length_nil, Nat.reduceAdd, Nat.reduceSub, List.replicate_succ, List.replicate_zero, List.cons_append, List.nil_append]; exact rfl) ?_
  repeat' (first | refine zN ?_ | (refine WC.quietG hg ?_; clear hg) | ((with_reducible refine WQ.nilG ?_); intro w hg) | (refine zB ?_; clear hg; intro b w hg; refine WO.fr ?_) | (refine zW ?_; clear hg; intro w hg; refine WO.fr ?_) | (refine op_pureB hg ?_; clear hg; intro w hg c hc; cases c <;> refine WO.fr ?_))
  exact ret1 rfl ⟨_, _, _, rfl, hg⟩
end Go.Proofs.YtkdidefghbeabaaGreat
