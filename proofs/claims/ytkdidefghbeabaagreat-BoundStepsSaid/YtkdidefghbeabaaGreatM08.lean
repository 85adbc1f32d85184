/- Automata and lexers: ContainsFunc, subset.Right, table.dfa, action.Right, table.modes, table.Right, of those that may be. Lexers: subset.Right, table.dfa, action.Right, table.modes, table.Right, of those that may be. Lexers: table.Right, of those that may be. -/
import Derived.Test.YtkdidefghbeabaaGreatM07
namespace Go.Proofs.YtkdidefghbeabaaGreat
open Go Go.RowKit
set_option maxRecDepth 10000
set_option linter.unusedSimpArgs false
set_option linter.unusedVariables false

theorem ActsAt.slice {w : World} {v : Value} {l : List PAct} (h : ActsAt w v l) : ∃ a cap, v = .slice a l.length cap ∧ l.length ≤ 140737488351232 := by
  obtain ⟨a, cap, rfl, hS⟩ := h
  have := hS.lim
  exact ⟨a, cap, rfl, by simpa using this⟩
theorem StrsAt.slice {w : World} {v : Value} {l : List (List UInt8)} (h : StrsAt w v l) : ∃ a cap, v = .slice a l.length cap ∧ l.length ≤ 140737488351232 := by
  obtain ⟨a, cap, rfl, hS⟩ := h
  have := hS.lim
  exact ⟨a, cap, rfl, by simpa using this⟩
theorem StrsAt.get {w : World} {v : Value} {l : List (List UInt8)} (h : StrsAt w v l) {i : Nat} (hi : i < l.length) : ∃ b k cap, v = .slice (some ⟨b, k, none⟩) l.length cap ∧ w.cell? ⟨b, k + i, none⟩ = some (.string (str (l.getD i []))) := by
  obtain ⟨a, cap, rfl, hS⟩ := h
  obtain ⟨b, k, rfl, _, hc⟩ := hS.at (i := i) (r := encS l[i]) (by simp [hi])
  refine ⟨b, k, cap, rfl, ?_⟩
  have := hc 0 _ rfl
  rw [add_lit] at this
  rw [List.getD_eq_getElem?_getD, List.getElem?_eq_getElem hi]
  simpa using this
section
variable {w0 : World} {f : FuncId} {fd : Func} {cs : List Value}
theorem IxInt_spec [Fun Tryz.prog f fd] {v : Value} {l : List Int} (hS : IntsAt w0 v l) (hf : ∀ i, i < l.length → ∀ w Fs, Goes w0 [] Fs w → Calls Tryz.prog f (.int .i64 (l.getD i 0) :: cs).toArray w fun e w' => e = .returned (.bool false) ∧ Goes w [] [] w') :
    Calls Tryz.prog 114 #[v, .func (.func f) #[] cs.toArray] w0 fun e w' => e = .returned (.int .i64 (-1)) ∧ Goes w0 [] [] w' := by
  have hS0 := hS
  obtain ⟨a, cap, rfl, hlim⟩ := hS.slice
  have hg := Goes.refl w0
  refine enter Tryz.func114 rfl (by simp only [Tryz.ntmps114, List.length_cons, List.length_nil, Nat.reduceAdd, Nat.reduceSub, List.replicate_succ, List.replicate_zero, List.cons_append, List.nil_append]; exact rfl) ?_
  repeat' (first | refine zN ?_ | (refine WC.quietG hg ?_; clear hg) | ((with_reducible refine WQ.nilG ?_); intro w hg) | (refine zB ?_; clear hg; intro b w hg; refine WO.fr ?_) | (refine zW ?_; clear hg; intro w hg; refine WO.fr ?_) | (refine op_pureB hg ?_; clear hg; intro w hg c hc; cases c <;> refine WO.fr ?_))
  refine WC.loopS [4, 5, 8, 9, 10, 11, 12, 13, 14, 15, 16, 17, 18] (fun xs d w => ∃ i : Nat, d = [] ∧ (gt xs 2) = .int .i64 i ∧ i ≤ l.length ∧ Goes w0 [] [] w) (fun xs _ _ => l.length - (intOf (gt xs 2)).toNat) ?_ ?_
  · exact ⟨0, rfl, rfl, Nat.zero_le _, hg⟩
  clear hg
  intro xs d w hlen hI K hK
  replace hlen := len_cons hlen
  obtain ⟨x4, xs, rfl, hlen⟩ := hlen
  replace hlen := len_cons hlen
  obtain ⟨x5, xs, rfl, hlen⟩ := hlen
  replace hlen := len_cons hlen
  obtain ⟨x8, xs, rfl, hlen⟩ := hlen
  replace hlen := len_cons hlen
  obtain ⟨x9, xs, rfl, hlen⟩ := hlen
  replace hlen := len_cons hlen
  obtain ⟨x10, xs, rfl, hlen⟩ := hlen
  replace hlen := len_cons hlen
  obtain ⟨x11, xs, rfl, hlen⟩ := hlen
  replace hlen := len_cons hlen
  obtain ⟨x12, xs, rfl, hlen⟩ := hlen
  replace hlen := len_cons hlen
  obtain ⟨x13, xs, rfl, hlen⟩ := hlen
  replace hlen := len_cons hlen
  obtain ⟨x14, xs, rfl, hlen⟩ := hlen
  replace hlen := len_cons hlen
  obtain ⟨x15, xs, rfl, hlen⟩ := hlen
  replace hlen := len_cons hlen
  obtain ⟨x16, xs, rfl, hlen⟩ := hlen
  replace hlen := len_cons hlen
  obtain ⟨x17, xs, rfl, hlen⟩ := hlen
  replace hlen := len_cons hlen
  obtain ⟨x18, xs, rfl, hlen⟩ := hlen
  replace hlen := len_nil hlen
  subst hlen
  refine WC.frame (by simp only [setAll, List.set_cons_succ, List.set_cons_zero]; exact rfl) ?_
  try simp only [gt] at hI
  obtain ⟨i, rfl, rfl, hi, hg⟩ := hI
  by_cases hlt : i < l.length
  rotate_left
  · repeat' (first | refine zN ?_ | (refine WC.quietG hg ?_; clear hg) | ((with_reducible refine WQ.nilG ?_); intro w hg) | (refine zB ?_; clear hg; intro b w hg; refine WO.fr ?_) | (refine zW ?_; clear hg; intro w hg; refine WO.fr ?_) | (refine op_pureB hg ?_; clear hg; intro w hg c hc; cases c <;> refine WO.fr ?_))
    exact ret1 rfl ⟨rfl, hg.drop⟩
  obtain ⟨b, k, cap', e, hc⟩ := hS0.get hlt
  simp only [Value.slice.injEq] at e
  obtain ⟨rfl, _, rfl⟩ := e
  have c1 : ∀ {w Fs}, Goes w0 [] Fs w → w.cell? ⟨b, k + i, none⟩ = some (.int .i64 (l.getD i 0)) := fun g => g.cellOld0 hc
  repeat' (first | refine zN ?_ | (refine WC.quietG hg ?_; clear hg) | ((with_reducible refine WQ.nilG ?_); intro w hg) | (refine zB ?_; clear hg; intro b w hg; refine WO.fr ?_) | (refine zW ?_; clear hg; intro w hg; refine WO.fr ?_) | (refine op_pureB hg ?_; clear hg; intro w hg c hc; cases c <;> refine WO.fr ?_))
  refine op_callV (fs := []) (cs := cs) (f := f) (hf i hlt _ _ hg) ?_
  rintro _ w2 ⟨rfl, hg2⟩
  replace hg := hg.call00 hg2
  clear hg2
  refine ⟨_, rfl, ?_⟩
  refine WO.fr ?_
  repeat' (first | refine zN ?_ | (refine WC.quietG hg ?_; clear hg) | ((with_reducible refine WQ.nilG ?_); intro w hg) | (refine zB ?_; clear hg; intro b w hg; refine WO.fr ?_) | (refine zW ?_; clear hg; intro w hg; refine WO.fr ?_) | (refine op_pureB hg ?_; clear hg; intro w hg c hc; cases c <;> refine WO.fr ?_))
  with_reducible refine QX.norm ?_
  refine hK _ _ _ ?_ ?_ ?_
  · simp only [setAll, List.map_cons, List.map_nil, gt, List.set_cons_succ, List.set_cons_zero]
  all_goals try simp only [List.map_cons, List.map_nil, gt, intOf]
  · exact ⟨i + 1, trivial, rfl, by omega, hg⟩
  · omega
theorem HasInt_spec [Fun Tryz.prog f fd] {v : Value} {l : List Int} (hS : IntsAt w0 v l) (hf : ∀ i, i < l.length → ∀ w Fs, Goes w0 [] Fs w → Calls Tryz.prog f (.int .i64 (l.getD i 0) :: cs).toArray w fun e w' => e = .returned (.bool false) ∧ Goes w [] [] w') :
    Calls Tryz.prog 79 #[v, .func (.func f) #[] cs.toArray] w0 fun e w' => e = .returned (.bool false) ∧ Goes w0 [] [] w' := by
  have hg := Goes.refl w0
  have p1 : ∀ {w Fs}, Goes w0 [] Fs w → Calls Tryz.prog 114 #[v, .func (.func f) #[] cs.toArray] w _ := fun h => IxInt_spec (hS.goes h) (fun i hi w Fs h2 => hf i hi w [] (h.call00 h2.drop).drop)
  refine enter Tryz.func79 rfl (by simp only [Tryz.ntmps79, List.length_cons, List.length_nil, Nat.reduceAdd, Nat.reduceSub, List.replicate_succ, List.replicate_zero, List.cons_append, List.nil_append]; exact rfl) ?_
  repeat' (first | refine zN ?_ | (refine WC.quietG hg ?_; clear hg) | ((with_reducible refine WQ.nilG ?_); intro w hg) | (refine zB ?_; clear hg; intro b w hg; refine WO.fr ?_) | (refine zW ?_; clear hg; intro w hg; refine WO.fr ?_) | (refine op_pureB hg ?_; clear hg; intro w hg c hc; cases c <;> refine WO.fr ?_))
  exact ret1 rfl ⟨rfl, hg.drop⟩
theorem IxAct_spec [Fun Tryz.prog f fd] {v : Value} {l : List PAct} (hS : ActsAt w0 v l) (hf : ∀ i, i < l.length → ∀ w Fs, Goes w0 [] Fs w → Calls Tryz.prog f (.agg (l.getD i ⟨[], 0⟩).enc.toArray :: cs).toArray w fun e w' => e = .returned (.bool false) ∧ Goes w [] [] w') :
    Calls Tryz.prog 81 #[v, .func (.func f) #[] cs.toArray] w0 fun e w' => e = .returned (.int .i64 (-1)) ∧ Goes w0 [] [] w' := by
  have hS0 := hS
  obtain ⟨a, cap, rfl, hlim⟩ := hS.slice
  have hg := Goes.refl w0
  refine enter Tryz.func81 rfl (by simp only [Tryz.ntmps81, List.length_cons, List.length_nil, Nat.reduceAdd, Nat.reduceSub, List.replicate_succ, List.replicate_zero, List.cons_append, List.nil_append]; exact rfl) ?_
  repeat' (first | refine zN ?_ | (refine WC.quietG hg ?_; clear hg) | ((with_reducible refine WQ.nilG ?_); intro w hg) | (refine zB ?_; clear hg; intro b w hg; refine WO.fr ?_) | (refine zW ?_; clear hg; intro w hg; refine WO.fr ?_) | (refine op_pureB hg ?_; clear hg; intro w hg c hc; cases c <;> refine WO.fr ?_))
  refine WC.loopS [4, 5, 8, 9, 10, 11, 12, 13, 14, 15, 16, 17, 18] (fun xs d w => ∃ i : Nat, d = [] ∧ (gt xs 2) = .int .i64 i ∧ i ≤ l.length ∧ Goes w0 [] [] w) (fun xs _ _ => l.length - (intOf (gt xs 2)).toNat) ?_ ?_
  · exact ⟨0, rfl, rfl, Nat.zero_le _, hg⟩
  clear hg
  intro xs d w hlen hI K hK
  replace hlen := len_cons hlen
  obtain ⟨x4, xs, rfl, hlen⟩ := hlen
  replace hlen := len_cons hlen
  obtain ⟨x5, xs, rfl, hlen⟩ := hlen
  replace hlen := len_cons hlen
  obtain ⟨x8, xs, rfl, hlen⟩ := hlen
  replace hlen := len_cons hlen
  obtain ⟨x9, xs, rfl, hlen⟩ := hlen
  replace hlen := len_cons hlen
  obtain ⟨x10, xs, rfl, hlen⟩ := hlen
  replace hlen := len_cons hlen
  obtain ⟨x11, xs, rfl, hlen⟩ := hlen
  replace hlen := len_cons hlen
  obtain ⟨x12, xs, rfl, hlen⟩ := hlen
  replace hlen := len_cons hlen
  obtain ⟨x13, xs, rfl, hlen⟩ := hlen
  replace hlen := len_cons hlen
  obtain ⟨x14, xs, rfl, hlen⟩ := hlen
  replace hlen := len_cons hlen
  obtain ⟨x15, xs, rfl, hlen⟩ := hlen
  replace hlen := len_cons hlen
  obtain ⟨x16, xs, rfl, hlen⟩ := hlen
  replace hlen := len_cons hlen
  obtain ⟨x17, xs, rfl, hlen⟩ := hlen
  replace hlen := len_cons hlen
  obtain ⟨x18, xs, rfl, hlen⟩ := hlen
  replace hlen := len_nil hlen
  subst hlen
  refine WC.frame (by simp only [setAll, List.set_cons_succ, List.set_cons_zero]; exact rfl) ?_
  try simp only [gt] at hI
  obtain ⟨i, rfl, rfl, hi, hg⟩ := hI
  by_cases hlt : i < l.length
  rotate_left
  · repeat' (first | refine zN ?_ | (refine WC.quietG hg ?_; clear hg) | ((with_reducible refine WQ.nilG ?_); intro w hg) | (refine zB ?_; clear hg; intro b w hg; refine WO.fr ?_) | (refine zW ?_; clear hg; intro w hg; refine WO.fr ?_) | (refine op_pureB hg ?_; clear hg; intro w hg c hc; cases c <;> refine WO.fr ?_))
    exact ret1 rfl ⟨rfl, hg.drop⟩
  obtain ⟨a', cap', e, hSl⟩ := hS0
  simp only [Value.slice.injEq, true_and] at e
  obtain ⟨rfl, rfl⟩ := e
  obtain ⟨b, k, rfl, _, hrow⟩ := hSl.at (i := i) (r := l[i].enc) (by simp [hlt])
  rw [show l[i] = l.getD i ⟨[], 0⟩ from by simp [List.getD, hlt]] at hrow
  generalize hx : l.getD i ⟨[], 0⟩ = x at hrow
  have hfi := hf i hlt
  rw [hx] at hfi
  have r1 : ∀ {w Fs}, Goes w0 [] Fs w → Cells w ⟨b, k + i * 2, none⟩ [.string (str x.emit), .int .i64 x.goto] := fun h => h.cellsOld hrow (by simp)
  clear hrow
  repeat' (first | refine zN ?_ | (refine WC.quietG hg ?_; clear hg) | ((with_reducible refine WQ.nilG ?_); intro w hg) | (refine zB ?_; clear hg; intro b w hg; refine WO.fr ?_) | (refine zW ?_; clear hg; intro w hg; refine WO.fr ?_) | (refine op_pureB hg ?_; clear hg; intro w hg c hc; cases c <;> refine WO.fr ?_))
  refine op_callV (fs := []) (cs := cs) (f := f) (hfi _ _ hg) ?_
  rintro _ w2 ⟨rfl, hg2⟩
  replace hg := hg.call00 hg2
  clear hg2
  refine ⟨_, rfl, ?_⟩
  refine WO.fr ?_
  repeat' (first | refine zN ?_ | (refine WC.quietG hg ?_; clear hg) | ((with_reducible refine WQ.nilG ?_); intro w hg) | (refine zB ?_; clear hg; intro b w hg; refine WO.fr ?_) | (refine zW ?_; clear hg; intro w hg; refine WO.fr ?_) | (refine op_pureB hg ?_; clear hg; intro w hg c hc; cases c <;> refine WO.fr ?_))
  with_reducible refine QX.norm ?_
  refine hK _ _ _ ?_ ?_ ?_
  · simp only [setAll, List.map_cons, List.map_nil, gt, List.set_cons_succ, List.set_cons_zero]
  all_goals try simp only [List.map_cons, List.map_nil, gt, intOf]
  · exact ⟨i + 1, trivial, rfl, by omega, hg⟩
  · omega
theorem HasAct_spec [Fun Tryz.prog f fd] {v : Value} {l : List PAct} (hS : ActsAt w0 v l) (hf : ∀ i, i < l.length → ∀ w Fs, Goes w0 [] Fs w → Calls Tryz.prog f (.agg (l.getD i ⟨[], 0⟩).enc.toArray :: cs).toArray w fun e w' => e = .returned (.bool false) ∧ Goes w [] [] w') :
    Calls Tryz.prog 44 #[v, .func (.func f) #[] cs.toArray] w0 fun e w' => e = .returned (.bool false) ∧ Goes w0 [] [] w' := by
  have hg := Goes.refl w0
  have p1 : ∀ {w Fs}, Goes w0 [] Fs w → Calls Tryz.prog 81 #[v, .func (.func f) #[] cs.toArray] w _ := fun h => IxAct_spec (hS.goes h) (fun i hi w Fs h2 => hf i hi w [] (h.call00 h2.drop).drop)
  refine enter Tryz.func44 rfl (by simp only [Tryz.ntmps44, List.length_cons, List.length_nil, Nat.reduceAdd, Nat.reduceSub, List.replicate_succ, List.replicate_zero, List.cons_append, List.nil_append]; exact rfl) ?_
  repeat' (first | refine zN ?_ | (refine WC.quietG hg ?_; clear hg) | ((with_reducible refine WQ.nilG ?_); intro w hg) | (refine zB ?_; clear hg; intro b w hg; refine WO.fr ?_) | (refine zW ?_; clear hg; intro w hg; refine WO.fr ?_) | (refine op_pureB hg ?_; clear hg; intro w hg c hc; cases c <;> refine WO.fr ?_))
  exact ret1 rfl ⟨rfl, hg.drop⟩
theorem IxDfa_spec [Fun Tryz.prog f fd] {v : Value} {l : List PDfa} (hS : NestAt DfaAt w0 5 v l) (hf : ∀ i (hi : i < l.length) row w Fs, Goes w0 [] Fs w → DfaAt w row l[i] → Calls Tryz.prog f (.agg row.toArray :: cs).toArray w fun e w' => e = .returned (.bool false) ∧ Goes w [] [] w') :
    Calls Tryz.prog 82 #[v, .func (.func f) #[] cs.toArray] w0 fun e w' => e = .returned (.int .i64 (-1)) ∧ Goes w0 [] [] w' := by
  have hS0 := hS
  obtain ⟨a, cap, rfl, hlim⟩ := hS.slice
  have hg := Goes.refl w0
  refine enter Tryz.func82 rfl (by simp only [Tryz.ntmps82, List.length_cons, List.length_nil, Nat.reduceAdd, Nat.reduceSub, List.replicate_succ, List.replicate_zero, List.cons_append, List.nil_append]; exact rfl) ?_
  repeat' (first | refine zN ?_ | (refine WC.quietG hg ?_; clear hg) | ((with_reducible refine WQ.nilG ?_); intro w hg) | (refine zB ?_; clear hg; intro b w hg; refine WO.fr ?_) | (refine zW ?_; clear hg; intro w hg; refine WO.fr ?_) | (refine op_pureB hg ?_; clear hg; intro w hg c hc; cases c <;> refine WO.fr ?_))
  refine WC.loopS [4, 5, 8, 9, 10, 11, 12, 13, 14, 15, 16, 17, 18] (fun xs d w => ∃ i : Nat, d = [] ∧ (gt xs 2) = .int .i64 i ∧ i ≤ l.length ∧ Goes w0 [] [] w) (fun xs _ _ => l.length - (intOf (gt xs 2)).toNat) ?_ ?_
  · exact ⟨0, rfl, rfl, Nat.zero_le _, hg⟩
  clear hg
  intro xs d w hlen hI K hK
  replace hlen := len_cons hlen
  obtain ⟨x4, xs, rfl, hlen⟩ := hlen
  replace hlen := len_cons hlen
  obtain ⟨x5, xs, rfl, hlen⟩ := hlen
  replace hlen := len_cons hlen
  obtain ⟨x8, xs, rfl, hlen⟩ := hlen
  replace hlen := len_cons hlen
  obtain ⟨x9, xs, rfl, hlen⟩ := hlen
  replace hlen := len_cons hlen
  obtain ⟨x10, xs, rfl, hlen⟩ := hlen
  replace hlen := len_cons hlen
  obtain ⟨x11, xs, rfl, hlen⟩ := hlen
  replace hlen := len_cons hlen
  obtain ⟨x12, xs, rfl, hlen⟩ := hlen
  replace hlen := len_cons hlen
  obtain ⟨x13, xs, rfl, hlen⟩ := hlen
  replace hlen := len_cons hlen
  obtain ⟨x14, xs, rfl, hlen⟩ := hlen
  replace hlen := len_cons hlen
  obtain ⟨x15, xs, rfl, hlen⟩ := hlen
  replace hlen := len_cons hlen
  obtain ⟨x16, xs, rfl, hlen⟩ := hlen
  replace hlen := len_cons hlen
  obtain ⟨x17, xs, rfl, hlen⟩ := hlen
  replace hlen := len_cons hlen
  obtain ⟨x18, xs, rfl, hlen⟩ := hlen
  replace hlen := len_nil hlen
  subst hlen
  refine WC.frame (by simp only [setAll, List.set_cons_succ, List.set_cons_zero]; exact rfl) ?_
  try simp only [gt] at hI
  obtain ⟨i, rfl, rfl, hi, hg⟩ := hI
  by_cases hlt : i < l.length
  rotate_left
  · repeat' (first | refine zN ?_ | (refine WC.quietG hg ?_; clear hg) | ((with_reducible refine WQ.nilG ?_); intro w hg) | (refine zB ?_; clear hg; intro b w hg; refine WO.fr ?_) | (refine zW ?_; clear hg; intro w hg; refine WO.fr ?_) | (refine op_pureB hg ?_; clear hg; intro w hg c hc; cases c <;> refine WO.fr ?_))
    exact ret1 rfl ⟨rfl, hg.drop⟩
  obtain ⟨b, k, cap', row, e, hrl, hrow, hD⟩ := hS0.get hlt
  simp only [Value.slice.injEq] at e
  obtain ⟨rfl, _, rfl⟩ := e
  have hfi := fun {w Fs} (h : Goes w0 [] Fs w) => hf i hlt row w Fs h (hD.goes h)
  obtain ⟨vc, vn, vt, rfl, _⟩ := hD
  have r1 : ∀ {w Fs}, Goes w0 [] Fs w → Cells w ⟨b, k + i * 5, none⟩ [vc, .int .i64 l[i].width, vn, vt, .int .i64 l[i].start] := fun h => h.cellsOld hrow (by simp)
  repeat' (first | refine zN ?_ | (refine WC.quietG hg ?_; clear hg) | ((with_reducible refine WQ.nilG ?_); intro w hg) | (refine zB ?_; clear hg; intro b w hg; refine WO.fr ?_) | (refine zW ?_; clear hg; intro w hg; refine WO.fr ?_) | (refine op_pureB hg ?_; clear hg; intro w hg c hc; cases c <;> refine WO.fr ?_))
  refine op_callV (fs := []) (cs := cs) (f := f) (hfi hg) ?_
  rintro _ w2 ⟨rfl, hg2⟩
  replace hg := hg.call00 hg2
  clear hg2
  refine ⟨_, rfl, ?_⟩
  refine WO.fr ?_
  repeat' (first | refine zN ?_ | (refine WC.quietG hg ?_; clear hg) | ((with_reducible refine WQ.nilG ?_); intro w hg) | (refine zB ?_; clear hg; intro b w hg; refine WO.fr ?_) | (refine zW ?_; clear hg; intro w hg; refine WO.fr ?_) | (refine op_pureB hg ?_; clear hg; intro w hg c hc; cases c <;> refine WO.fr ?_))
  with_reducible refine QX.norm ?_
  refine hK _ _ _ ?_ ?_ ?_
  · simp only [setAll, List.map_cons, List.map_nil, gt, List.set_cons_succ, List.set_cons_zero]
  all_goals try simp only [List.map_cons, List.map_nil, gt, intOf]
  · exact ⟨i + 1, trivial, rfl, by omega, hg⟩
  · omega
theorem HasDfa_spec [Fun Tryz.prog f fd] {v : Value} {l : List PDfa} (hS : NestAt DfaAt w0 5 v l) (hf : ∀ i (hi : i < l.length) row w Fs, Goes w0 [] Fs w → DfaAt w row l[i] → Calls Tryz.prog f (.agg row.toArray :: cs).toArray w fun e w' => e = .returned (.bool false) ∧ Goes w [] [] w') :
    Calls Tryz.prog 45 #[v, .func (.func f) #[] cs.toArray] w0 fun e w' => e = .returned (.bool false) ∧ Goes w0 [] [] w' := by
  have hg := Goes.refl w0
  have p1 : ∀ {w Fs}, Goes w0 [] Fs w → Calls Tryz.prog 82 #[v, .func (.func f) #[] cs.toArray] w _ := fun h => IxDfa_spec (hS.goes h (fun _ _ hx => hx.goes h)) (fun i hi row w Fs h2 hrow => hf i hi row w [] (h.call00 h2.drop).drop hrow)
  refine enter Tryz.func45 rfl (by simp only [Tryz.ntmps45, List.length_cons, List.length_nil, Nat.reduceAdd, Nat.reduceSub, List.replicate_succ, List.replicate_zero, List.cons_append, List.nil_append]; exact rfl) ?_
  repeat' (first | refine zN ?_ | (refine WC.quietG hg ?_; clear hg) | ((with_reducible refine WQ.nilG ?_); intro w hg) | (refine zB ?_; clear hg; intro b w hg; refine WO.fr ?_) | (refine zW ?_; clear hg; intro w hg; refine WO.fr ?_) | (refine op_pureB hg ?_; clear hg; intro w hg c hc; cases c <;> refine WO.fr ?_))
  exact ret1 rfl ⟨rfl, hg.drop⟩
end
end Go.Proofs.YtkdidefghbeabaaGreat
namespace Go.Proofs.YtkdidefghbeabaaGreat
open Go Go.RowKit
set_option maxRecDepth 10000
set_option linter.unusedSimpArgs false
set_option linter.unusedVariables false

structure LexOK (L : PLex) : Prop where
  m1 : 1 ≤ L.modes.length ∧ L.modes.length ≤ 16
  m2 : ∀ i, i < L.modes.length → NameR (L.modes.getD i [])
  m3 : ∀ i j, i < j → j < L.modes.length → L.modes.getD i [] ≠ L.modes.getD j []
  a1 : L.acts.length ≤ 128
  a2 : ∀ i, i < L.acts.length → ((L.acts.getD i ⟨[], 0⟩).emit = [] ∨ NameR (L.acts.getD i ⟨[], 0⟩).emit) ∧ -1 ≤ (L.acts.getD i ⟨[], 0⟩).goto ∧ (L.acts.getD i ⟨[], 0⟩).goto < L.modes.length
  d1 : L.dfas.length = L.modes.length
  d2 : ∀ i (hi : i < L.dfas.length), DfaOK L.acts.length L.dfas[i]

theorem getRow {d : PDfa} {i : Nat} (hi : i < d.next.length) : d.next[i] = d.next.getD i [] := by
  rw [List.getD_eq_getElem?_getD, List.getElem?_eq_getElem hi]
  rfl
set_option maxHeartbeats 4000000 in
theorem subRight_spec (w0 : World) (cs : List Value) (d : PDfa) (n : Nat) (hD : DfaAt w0 cs d) (hok : DfaOK n d) : Calls Tryz.prog 78 #[.agg cs.toArray] w0 fun e w' => e = .returned (.bool true) ∧ Goes w0 [] [] w' := by
  obtain ⟨vc, vn, vt, rfl, hC, hN, hT⟩ := hD
  have hg := Goes.refl w0
  obtain ⟨m, hm, hw⟩ := hok.c2
  have hcl := hok.c1
  have hwd := hok.width
  have hs1 := hok.s1
  have hn1 := hok.n1
  have ht1 := hok.t1
  have p1 : ∀ {w Fs}, Goes w0 [] Fs w → Calls Tryz.prog 112 #[vc] w _ := fun h => alphaRight_spec _ _ _ (hC.goes h) hcl hm
  have p2 : ∀ {w Fs}, Goes w0 [] Fs w → Calls Tryz.prog 113 #[vc] w fun e w' => e = .returned (.int .i64 (d.width - 1)) ∧ Goes w [] [] w' := fun h => (Max_spec _ _ _ (hC.goes h) (by omega) (by omega)).mono fun e w' ⟨⟨M, he, h1, h2⟩, h3⟩ => ⟨by
    obtain ⟨i1, i2, i3, i4⟩ := alphaN_le hm
    have h4 := i3 M h1
    have h5 := h2 _ (i4 (by omega))
    rw [he, show M = d.width - 1 from by omega], h3⟩
  obtain ⟨an, cn, rfl, hln⟩ := hN.slice
  obtain ⟨at', ct, rfl, hlt⟩ := hT.slice
  obtain ⟨ac, cc, rfl, hlc⟩ := hC.slice
  refine enter Tryz.func78 rfl (by simp only [Tryz.ntmps78, List.length_cons, List.length_nil, Nat.reduceAdd, Nat.reduceSub, List.replicate_succ, List.replicate_zero, List.cons_append, List.nil_append]; exact rfl) ?_
  repeat' (first | refine zN ?_ | (refine WC.quietG hg ?_; clear hg) | ((with_reducible refine WQ.nilG ?_); intro w hg) | (refine zB ?_; clear hg; intro b w hg; refine WO.fr ?_) | (refine zW ?_; clear hg; intro w hg; refine WO.fr ?_) | (refine op_pureB hg ?_; clear hg; intro w hg c hc; cases c <;> refine WO.fr ?_))
  clear p1 p2
  refine WC.loopS [2, 4, 5, 7, 47, 48, 49, 50, 51, 52, 53, 54, 55, 56, 57, 58, 59, 60, 61, 62, 63, 64, 65, 66, 67, 68, 69, 70, 71, 72, 73, 74, 75, 76, 77, 78, 79] (fun xs dd w => ∃ i : Nat, dd = [] ∧ (gt xs 4) = .int .i64 i ∧ i ≤ d.next.length ∧ Goes w0 [] [[(b, .cells [.slice ac d.cls.length cc, .int .i64 d.width, .slice an d.next.length cn, .slice at' d.tag.length ct, .int .i64 d.start].toArray 101 (0, 0))]] w) (fun xs _ _ => d.next.length - (intOf (gt xs 4)).toNat) ?_ ?_
  · exact ⟨0, rfl, rfl, Nat.zero_le _, hg⟩
  clear hg
  intro xs d w hlen hI K hK
  replace hlen := len_cons hlen
  obtain ⟨x2, xs, rfl, hlen⟩ := hlen
  replace hlen := len_cons hlen
  obtain ⟨x4, xs, rfl, hlen⟩ := hlen
  replace hlen := len_cons hlen
  obtain ⟨x5, xs, rfl, hlen⟩ := hlen
  replace hlen := len_cons hlen
  obtain ⟨x7, xs, rfl, hlen⟩ := hlen
  replace hlen := len_cons hlen
  obtain ⟨x47, xs, rfl, hlen⟩ := hlen
  replace hlen := len_cons hlen
  obtain ⟨x48, xs, rfl, hlen⟩ := hlen
  replace hlen := len_cons hlen
  obtain ⟨x49, xs, rfl, hlen⟩ := hlen
  replace hlen := len_cons hlen
  obtain ⟨x50, xs, rfl, hlen⟩ := hlen
  replace hlen := len_cons hlen
  obtain ⟨x51, xs, rfl, hlen⟩ := hlen
  replace hlen := len_cons hlen
  obtain ⟨x52, xs, rfl, hlen⟩ := hlen
  replace hlen := len_cons hlen
  obtain ⟨x53, xs, rfl, hlen⟩ := hlen
  replace hlen := len_cons hlen
  obtain ⟨x54, xs, rfl, hlen⟩ := hlen
  replace hlen := len_cons hlen
  obtain ⟨x55, xs, rfl, hlen⟩ := hlen
  replace hlen := len_cons hlen
  obtain ⟨x56, xs, rfl, hlen⟩ := hlen
  replace hlen := len_cons hlen
  obtain ⟨x57, xs, rfl, hlen⟩ := hlen
  replace hlen := len_cons hlen
  obtain ⟨x58, xs, rfl, hlen⟩ := hlen
  replace hlen := len_cons hlen
  obtain ⟨x59, xs, rfl, hlen⟩ := hlen
  replace hlen := len_cons hlen
  obtain ⟨x60, xs, rfl, hlen⟩ := hlen
  replace hlen := len_cons hlen
  obtain ⟨x61, xs, rfl, hlen⟩ := hlen
  replace hlen := len_cons hlen
  obtain ⟨x62, xs, rfl, hlen⟩ := hlen
  replace hlen := len_cons hlen
  obtain ⟨x63, xs, rfl, hlen⟩ := hlen
  replace hlen := len_cons hlen
  obtain ⟨x64, xs, rfl, hlen⟩ := hlen
  replace hlen := len_cons hlen
  obtain ⟨x65, xs, rfl, hlen⟩ := hlen
  replace hlen := len_cons hlen
  obtain ⟨x66, xs, rfl, hlen⟩ := hlen
  replace hlen := len_cons hlen
  obtain ⟨x67, xs, rfl, hlen⟩ := hlen
  replace hlen := len_cons hlen
  obtain ⟨x68, xs, rfl, hlen⟩ := hlen
  replace hlen := len_cons hlen
  obtain ⟨x69, xs, rfl, hlen⟩ := hlen
  replace hlen := len_cons hlen
  obtain ⟨x70, xs, rfl, hlen⟩ := hlen
  replace hlen := len_cons hlen
  obtain ⟨x71, xs, rfl, hlen⟩ := hlen
  replace hlen := len_cons hlen
  obtain ⟨x72, xs, rfl, hlen⟩ := hlen
  replace hlen := len_cons hlen
  obtain ⟨x73, xs, rfl, hlen⟩ := hlen
  replace hlen := len_cons hlen
  obtain ⟨x74, xs, rfl, hlen⟩ := hlen
  replace hlen := len_cons hlen
  obtain ⟨x75, xs, rfl, hlen⟩ := hlen
  replace hlen := len_cons hlen
  obtain ⟨x76, xs, rfl, hlen⟩ := hlen
  replace hlen := len_cons hlen
  obtain ⟨x77, xs, rfl, hlen⟩ := hlen
  replace hlen := len_cons hlen
  obtain ⟨x78, xs, rfl, hlen⟩ := hlen
  replace hlen := len_cons hlen
  obtain ⟨x79, xs, rfl, hlen⟩ := hlen
  replace hlen := len_nil hlen
  subst hlen
  refine WC.frame (by simp only [setAll, List.set_cons_succ, List.set_cons_zero]; exact rfl) ?_
  try simp only [gt] at hI
  obtain ⟨i, rfl, rfl, hi, hg⟩ := hI
  by_cases hlti : i < d.next.length
  rotate_left
  · repeat' (first | refine zN ?_ | (refine WC.quietG hg ?_; clear hg) | ((with_reducible refine WQ.nilG ?_); intro w hg) | (refine zB ?_; clear hg; intro b w hg; refine WO.fr ?_) | (refine zW ?_; clear hg; intro w hg; refine WO.fr ?_) | (refine op_pureB hg ?_; clear hg; intro w hg c hc; cases c <;> refine WO.fr ?_))
    exact ret1 rfl ⟨rfl, hg.drop⟩
  obtain ⟨bn, kn, cap1, row, e1, hrl, hrow, u, rfl, hU⟩ := hN.get hlti
  simp only [Value.slice.injEq, true_and] at e1
  obtain ⟨rfl, rfl⟩ := e1
  rw [Nat.mul_one] at hrow
  obtain ⟨bt, kt, cap2, e2, htc⟩ := hT.get (i := i) (by omega)
  simp only [Value.slice.injEq, true_and] at e2
  obtain ⟨rfl, rfl⟩ := e2
  have hr1 := hok.r1 i hlti
  have hr2 := hok.r2 i
  have ht2 := hok.t2 i hlti
  rw [getRow hlti] at hU
  generalize d.next.getD i [] = row at hU hr1 hr2
  obtain ⟨au, cu, rfl, hlu⟩ := hU.slice
  have c1 : ∀ {w Fs}, Goes w0 [] Fs w → w.cell? ⟨bn, kn + i, none⟩ = some (.slice au row.length cu) := fun g => g.cellOld0 (hrow 0 _ rfl)
  have c2 : ∀ {w Fs}, Goes w0 [] Fs w → w.cell? ⟨bt, kt + i, none⟩ = some (.int .i64 (d.tag.getD i 0)) := fun g => g.cellOld0 htc
  repeat' (first | refine zN ?_ | (refine WC.quietG hg ?_; clear hg) | ((with_reducible refine WQ.nilG ?_); intro w hg) | (refine zB ?_; clear hg; intro b w hg; refine WO.fr ?_) | (refine zW ?_; clear hg; intro w hg; refine WO.fr ?_) | (refine op_pureB hg ?_; clear hg; intro w hg c hc; cases c <;> refine WO.fr ?_))
  refine WC.loopS [2, 7, 67, 68, 69, 70, 71, 72, 73, 74, 75, 76, 77, 78] (fun xs dd w => ∃ k : Nat, dd = [] ∧ (gt xs 2) = .int .i64 k ∧ k ≤ row.length ∧ Goes w0 [] [[(b, .cells [.slice ac d.cls.length cc, .int .i64 d.width, .slice (some ⟨bn, kn, none⟩) d.next.length cn, .slice (some ⟨bt, kt, none⟩) d.tag.length ct, .int .i64 d.start].toArray 101 (0, 0))]] w) (fun xs _ _ => row.length - (intOf (gt xs 2)).toNat) ?_ ?_
  · exact ⟨0, rfl, rfl, Nat.zero_le _, hg⟩
  clear hg
  have hK1 := hK
  clear hK
  intro xs d w hlen hI K hK
  replace hlen := len_cons hlen
  obtain ⟨x2, xs, rfl, hlen⟩ := hlen
  replace hlen := len_cons hlen
  obtain ⟨x7, xs, rfl, hlen⟩ := hlen
  replace hlen := len_cons hlen
  obtain ⟨x67, xs, rfl, hlen⟩ := hlen
  replace hlen := len_cons hlen
  obtain ⟨x68, xs, rfl, hlen⟩ := hlen
  replace hlen := len_cons hlen
  obtain ⟨x69, xs, rfl, hlen⟩ := hlen
  replace hlen := len_cons hlen
  obtain ⟨x70, xs, rfl, hlen⟩ := hlen
  replace hlen := len_cons hlen
  obtain ⟨x71, xs, rfl, hlen⟩ := hlen
  replace hlen := len_cons hlen
  obtain ⟨x72, xs, rfl, hlen⟩ := hlen
  replace hlen := len_cons hlen
  obtain ⟨x73, xs, rfl, hlen⟩ := hlen
  replace hlen := len_cons hlen
  obtain ⟨x74, xs, rfl, hlen⟩ := hlen
  replace hlen := len_cons hlen
  obtain ⟨x75, xs, rfl, hlen⟩ := hlen
  replace hlen := len_cons hlen
  obtain ⟨x76, xs, rfl, hlen⟩ := hlen
  replace hlen := len_cons hlen
  obtain ⟨x77, xs, rfl, hlen⟩ := hlen
  replace hlen := len_cons hlen
  obtain ⟨x78, xs, rfl, hlen⟩ := hlen
  replace hlen := len_nil hlen
  subst hlen
  refine WC.frame (by simp only [setAll, List.set_cons_succ, List.set_cons_zero]; exact rfl) ?_
  try simp only [gt] at hI
  obtain ⟨k, rfl, rfl, hk, hg⟩ := hI
  by_cases hltk : k < row.length
  rotate_left
  · repeat' (first | refine zN ?_ | (refine WC.quietG hg ?_; clear hg) | ((with_reducible refine WQ.nilG ?_); intro w hg) | (refine zB ?_; clear hg; intro b w hg; refine WO.fr ?_) | (refine zW ?_; clear hg; intro w hg; refine WO.fr ?_) | (refine op_pureB hg ?_; clear hg; intro w hg c hc; cases c <;> refine WO.fr ?_))
    clear hK
    have hK := hK1
    with_reducible refine QX.norm ?_
    refine hK _ _ _ ?_ ?_ ?_
    · simp only [setAll, List.map_cons, List.map_nil, gt, List.set_cons_succ, List.set_cons_zero]
    all_goals try simp only [List.map_cons, List.map_nil, gt, intOf]
    · exact ⟨i + 1, trivial, rfl, by omega, hg⟩
    · omega
  obtain ⟨bu, ku, cap3, e3, huc⟩ := hU.get hltk
  simp only [Value.slice.injEq, true_and] at e3
  obtain ⟨rfl, rfl⟩ := e3
  have hr3 := hr2 k hlti hltk
  have c3 : ∀ {w Fs}, Goes w0 [] Fs w → w.cell? ⟨bu, ku + k, none⟩ = some (.int .i64 (row.getD k 0)) := fun g => g.cellOld0 huc
  repeat' (first | refine zN ?_ | (refine WC.quietG hg ?_; clear hg) | ((with_reducible refine WQ.nilG ?_); intro w hg) | (refine zB ?_; clear hg; intro b w hg; refine WO.fr ?_) | (refine zW ?_; clear hg; intro w hg; refine WO.fr ?_) | (refine op_pureB hg ?_; clear hg; intro w hg c hc; cases c <;> refine WO.fr ?_))
  with_reducible refine QX.norm ?_
  refine hK _ _ _ ?_ ?_ ?_
  · simp only [setAll, List.map_cons, List.map_nil, gt, List.set_cons_succ, List.set_cons_zero]
  all_goals try simp only [List.map_cons, List.map_nil, gt, intOf]
  · exact ⟨k + 1, trivial, rfl, by omega, hg⟩
  · omega
theorem dfaB_spec (w0 : World) (b : Nat) (t : Int) (n : Nat) (hc : w0.cell? ⟨b, 0, none⟩ = some (.int .i64 n)) (ht : t < n) : Calls Tryz.prog 80 #[.int .i64 t, .pointer (some ⟨b, 0, none⟩)] w0 fun e w' => e = .returned (.bool false) ∧ Goes w0 [] [] w' := by
  have hg := Goes.refl w0
  have c1 : ∀ {w Fs}, Goes w0 [] Fs w → w.cell? ⟨b, 0, none⟩ = some (.int .i64 n) := fun g => g.cellOld0 hc
  refine enter Tryz.func80 rfl (by simp only [Tryz.ntmps80, List.length_cons, List.length_nil, Nat.reduceAdd, Nat.reduceSub, List.replicate_succ, List.replicate_zero, List.cons_append, List.nil_append]; exact rfl) ?_
  repeat' (first | refine zN ?_ | (refine WC.quietG hg ?_; clear hg) | ((with_reducible refine WQ.nilG ?_); intro w hg) | (refine zB ?_; clear hg; intro b w hg; refine WO.fr ?_) | (refine zW ?_; clear hg; intro w hg; refine WO.fr ?_) | (refine op_pureB hg ?_; clear hg; intro w hg c hc; cases c <;> refine WO.fr ?_))
  exact ret1 rfl ⟨rfl, hg.drop⟩
set_option maxHeartbeats 1000000 in
theorem tdfa_spec (w0 : World) (cs : List Value) (d : PDfa) (n : Nat) (hD : DfaAt w0 cs d) (hok : DfaOK n d) : Calls Tryz.prog 43 #[.agg cs.toArray, .int .i64 n] w0 fun e w' => e = .returned (.bool true) ∧ Goes w0 [] [] w' := by
  have hg := Goes.refl w0
  have p1 : ∀ {w Fs}, Goes w0 [] Fs w → Calls Tryz.prog 78 #[.agg cs.toArray] w _ := fun h => subRight_spec _ _ d n (hD.goes h) hok
  obtain ⟨vc, vn, vt, rfl, hC, hN, hT⟩ := hD
  have hs1 := hok.s1
  have ht1 := hok.t1
  have hs2 := hok.s2
  obtain ⟨at', ct, rfl, hlt⟩ := hT.slice
  by_cases h0 : 0 ≤ d.start
  · obtain ⟨bt, kt, cap2, e2, htc⟩ := hT.get (i := d.start.toNat) (by omega)
    simp only [Value.slice.injEq, true_and] at e2
    obtain ⟨rfl, rfl⟩ := e2
    have hs3 := hs2 h0
    have c1 : ∀ {w Fs}, Goes w0 [] Fs w → w.cell? ⟨bt, kt + d.start.toNat, none⟩ = some (.int .i64 (d.tag.getD d.start.toNat 0)) := fun g => g.cellOld0 htc
    refine enter Tryz.func43 rfl (by simp only [Tryz.ntmps43, List.length_cons, List.length_nil, Nat.reduceAdd, Nat.reduceSub, List.replicate_succ, List.replicate_zero, List.cons_append, List.nil_append]; exact rfl) ?_
    repeat' (first | refine zN ?_ | (refine WC.quietG hg ?_; clear hg) | ((with_reducible refine WQ.nilG ?_); intro w hg) | (refine zB ?_; clear hg; intro b w hg; refine WO.fr ?_) | (refine zW ?_; clear hg; intro w hg; refine WO.fr ?_) | (refine op_pureB hg ?_; clear hg; intro w hg c hc; cases c <;> refine WO.fr ?_))
    refine op_pure hg ?_ (hc := HasInt_spec (f := 80) (hT.goes hg) (fun i hi w Fs h => dfaB_spec _ _ _ n (h.cellOld0 (by first | with_reducible assumption | ((with_reducible apply CellAt.cell (hg := hg)); (repeat (first | ((with_reducible apply CellAt.here); (first | exact rfl | with_reducible assumption)) | with_reducible apply CellAt.more | with_reducible apply CellAt.next)); done) | ((with_reducible apply hg.cellOld0); with_reducible assumption) | with_reducible exact c1 hg | with_reducible exact c2 hg | with_reducible exact c3 hg | with_reducible exact c4 hg | with_reducible exact c5 hg | with_reducible exact c6 hg | with_reducible exact c7 hg | with_reducible exact c8 hg | with_reducible exact c9 hg | with_reducible exact s1 hs | with_reducible exact s2 hs | with_reducible exact s3 hs | with_reducible exact s4 hs | with_reducible exact s5 hs | with_reducible exact s6 hs | with_reducible exact s7 hs | with_reducible exact s8 hs | with_reducible exact s9 hs)) (hok.t2 i (by omega)).2))
    clear hg
    intro w hg
    refine WO.fr ?_
    repeat' (first | refine zN ?_ | (refine WC.quietG hg ?_; clear hg) | ((with_reducible refine WQ.nilG ?_); intro w hg) | (refine zB ?_; clear hg; intro b w hg; refine WO.fr ?_) | (refine zW ?_; clear hg; intro w hg; refine WO.fr ?_) | (refine op_pureB hg ?_; clear hg; intro w hg c hc; cases c <;> refine WO.fr ?_))
    exact ret1 rfl ⟨rfl, hg.drop⟩
  · refine enter Tryz.func43 rfl (by simp only [Tryz.ntmps43, List.length_cons, List.length_nil, Nat.reduceAdd, Nat.reduceSub, List.replicate_succ, List.replicate_zero, List.cons_append, List.nil_append]; exact rfl) ?_
    repeat' (first | refine zN ?_ | (refine WC.quietG hg ?_; clear hg) | ((with_reducible refine WQ.nilG ?_); intro w hg) | (refine zB ?_; clear hg; intro b w hg; refine WO.fr ?_) | (refine zW ?_; clear hg; intro w hg; refine WO.fr ?_) | (refine op_pureB hg ?_; clear hg; intro w hg c hc; cases c <;> refine WO.fr ?_))
    refine op_pure hg ?_ (hc := HasInt_spec (f := 80) (hT.goes hg) (fun i hi w Fs h => dfaB_spec _ _ _ n (h.cellOld0 (by first | with_reducible assumption | ((with_reducible apply CellAt.cell (hg := hg)); (repeat (first | ((with_reducible apply CellAt.here); (first | exact rfl | with_reducible assumption)) | with_reducible apply CellAt.more | with_reducible apply CellAt.next)); done) | ((with_reducible apply hg.cellOld0); with_reducible assumption) | with_reducible exact c1 hg | with_reducible exact c2 hg | with_reducible exact c3 hg | with_reducible exact c4 hg | with_reducible exact c5 hg | with_reducible exact c6 hg | with_reducible exact c7 hg | with_reducible exact c8 hg | with_reducible exact c9 hg | with_reducible exact s1 hs | with_reducible exact s2 hs | with_reducible exact s3 hs | with_reducible exact s4 hs | with_reducible exact s5 hs | with_reducible exact s6 hs | with_reducible exact s7 hs | with_reducible exact s8 hs | with_reducible exact s9 hs)) (hok.t2 i (by omega)).2))
    clear hg
    intro w hg
    refine WO.fr ?_
    repeat' (first | refine zN ?_ | (refine WC.quietG hg ?_; clear hg) | ((with_reducible refine WQ.nilG ?_); intro w hg) | (refine zB ?_; clear hg; intro b w hg; refine WO.fr ?_) | (refine zW ?_; clear hg; intro w hg; refine WO.fr ?_) | (refine op_pureB hg ?_; clear hg; intro w hg c hc; cases c <;> refine WO.fr ?_))
    exact ret1 rfl ⟨rfl, hg.drop⟩
theorem actR_spec (w0 : World) (x : PAct) (vm : Value) (ms : List (List UInt8)) (hM : StrsAt w0 vm ms) (h1 : x.emit = [] ∨ NameR x.emit) (h2 : -1 ≤ x.goto ∧ x.goto < ms.length) : Calls Tryz.prog 41 #[.agg x.enc.toArray, vm] w0 fun e w' => e = .returned (.bool true) ∧ Goes w0 [] [] w' := by
  have hg := Goes.refl w0
  obtain ⟨am, cm, rfl, hlm⟩ := hM.slice
  simp only [PAct.enc]
  by_cases h0 : x.emit = []
  · rw [h0]
    have hne : (str [] == ⟨#[]⟩) = true := by rw [show (⟨#[]⟩ : ByteArray) = str [] from rfl, str_beq]; rfl
    refine enter Tryz.func41 rfl (by simp only [Tryz.ntmps41, List.length_cons, List.length_nil, Nat.reduceAdd, Nat.reduceSub, List.replicate_succ, List.replicate_zero, List.cons_append, List.nil_append]; exact rfl) ?_
    repeat' (first | refine zN ?_ | (refine WC.quietG hg ?_; clear hg) | ((with_reducible refine WQ.nilG ?_); intro w hg) | (refine zB ?_; clear hg; intro b w hg; refine WO.fr ?_) | (refine zW ?_; clear hg; intro w hg; refine WO.fr ?_) | (refine op_pureB hg ?_; clear hg; intro w hg c hc; cases c <;> refine WO.fr ?_))
    rw [hne]
    repeat' (first | refine zN ?_ | (refine WC.quietG hg ?_; clear hg) | ((with_reducible refine WQ.nilG ?_); intro w hg) | (refine zB ?_; clear hg; intro b w hg; refine WO.fr ?_) | (refine zW ?_; clear hg; intro w hg; refine WO.fr ?_) | (refine op_pureB hg ?_; clear hg; intro w hg c hc; cases c <;> refine WO.fr ?_))
    exact ret1 rfl ⟨rfl, hg.drop⟩
  · have hn : NameR x.emit := h1.resolve_left h0
    have p1 : ∀ {w Fs}, Goes w0 [] Fs w → Calls Tryz.prog 76 #[.string (str x.emit)] w _ := fun _ => Name_spec _ _ hn
    have hne : (str x.emit == ⟨#[]⟩) = false := by
      rw [show (⟨#[]⟩ : ByteArray) = str [] from rfl, str_beq]
      exact decide_eq_false h0
    refine enter Tryz.func41 rfl (by simp only [Tryz.ntmps41, List.length_cons, List.length_nil, Nat.reduceAdd, Nat.reduceSub, List.replicate_succ, List.replicate_zero, List.cons_append, List.nil_append]; exact rfl) ?_
    repeat' (first | refine zN ?_ | (refine WC.quietG hg ?_; clear hg) | ((with_reducible refine WQ.nilG ?_); intro w hg) | (refine zB ?_; clear hg; intro b w hg; refine WO.fr ?_) | (refine zW ?_; clear hg; intro w hg; refine WO.fr ?_) | (refine op_pureB hg ?_; clear hg; intro w hg c hc; cases c <;> refine WO.fr ?_))
    rw [hne]
    repeat' (first | refine zN ?_ | (refine WC.quietG hg ?_; clear hg) | ((with_reducible refine WQ.nilG ?_); intro w hg) | (refine zB ?_; clear hg; intro b w hg; refine WO.fr ?_) | (refine zW ?_; clear hg; intro w hg; refine WO.fr ?_) | (refine op_pureB hg ?_; clear hg; intro w hg c hc; cases c <;> refine WO.fr ?_))
    exact ret1 rfl ⟨rfl, hg.drop⟩
theorem Index_spec (w0 : World) (v : Value) (l : List (List UInt8)) (hS : StrsAt w0 v l) (n : Nat) (hn : n < l.length) (hl : l.length ≤ 1000) (hd : ∀ j, j < n → l.getD j [] ≠ l.getD n []) : Calls Tryz.prog 77 #[v, .string (str (l.getD n []))] w0 fun e w' => e = .returned (.int .i64 n) ∧ Goes w0 [] [] w' := by
  have hS0 := hS
  obtain ⟨a, cap, rfl, hlim⟩ := hS.slice
  have hg := Goes.refl w0
  refine enter Tryz.func77 rfl (by simp only [Tryz.ntmps77, List.length_cons, List.length_nil, Nat.reduceAdd, Nat.reduceSub, List.replicate_succ, List.replicate_zero, List.cons_append, List.nil_append]; exact rfl) ?_
  repeat' (first | refine zN ?_ | (refine WC.quietG hg ?_; clear hg) | ((with_reducible refine WQ.nilG ?_); intro w hg) | (refine zB ?_; clear hg; intro b w hg; refine WO.fr ?_) | (refine zW ?_; clear hg; intro w hg; refine WO.fr ?_) | (refine op_pureB hg ?_; clear hg; intro w hg c hc; cases c <;> refine WO.fr ?_))
  refine WC.loopS [4, 5, 8, 9, 10, 11, 12, 13, 14, 15, 16, 17, 18] (fun xs d w => ∃ i : Nat, d = [] ∧ (gt xs 2) = .int .i64 i ∧ i ≤ n ∧ Goes w0 [] [] w) (fun xs _ _ => l.length - (intOf (gt xs 2)).toNat) ?_ ?_
  · exact ⟨0, rfl, rfl, Nat.zero_le _, hg⟩
  clear hg
  intro xs d w hlen hI K hK
  replace hlen := len_cons hlen
  obtain ⟨x4, xs, rfl, hlen⟩ := hlen
  replace hlen := len_cons hlen
  obtain ⟨x5, xs, rfl, hlen⟩ := hlen
  replace hlen := len_cons hlen
  obtain ⟨x8, xs, rfl, hlen⟩ := hlen
  replace hlen := len_cons hlen
  obtain ⟨x9, xs, rfl, hlen⟩ := hlen
  replace hlen := len_cons hlen
  obtain ⟨x10, xs, rfl, hlen⟩ := hlen
  replace hlen := len_cons hlen
  obtain ⟨x11, xs, rfl, hlen⟩ := hlen
  replace hlen := len_cons hlen
  obtain ⟨x12, xs, rfl, hlen⟩ := hlen
  replace hlen := len_cons hlen
  obtain ⟨x13, xs, rfl, hlen⟩ := hlen
  replace hlen := len_cons hlen
  obtain ⟨x14, xs, rfl, hlen⟩ := hlen
  replace hlen := len_cons hlen
  obtain ⟨x15, xs, rfl, hlen⟩ := hlen
  replace hlen := len_cons hlen
  obtain ⟨x16, xs, rfl, hlen⟩ := hlen
  replace hlen := len_cons hlen
  obtain ⟨x17, xs, rfl, hlen⟩ := hlen
  replace hlen := len_cons hlen
  obtain ⟨x18, xs, rfl, hlen⟩ := hlen
  replace hlen := len_nil hlen
  subst hlen
  refine WC.frame (by simp only [setAll, List.set_cons_succ, List.set_cons_zero]; exact rfl) ?_
  try simp only [gt] at hI
  obtain ⟨i, rfl, rfl, hi, hg⟩ := hI
  obtain ⟨b, k, cap', e, hc⟩ := hS0.get (i := i) (by omega)
  simp only [Value.slice.injEq] at e
  obtain ⟨rfl, _, rfl⟩ := e
  have c1 : ∀ {w Fs}, Goes w0 [] Fs w → w.cell? ⟨b, k + i, none⟩ = some (.string (str (l.getD i []))) := fun g => g.cellOld0 hc
  by_cases he : i = n
  · subst he
    have hb : (str (l.getD i []) == str (l.getD i [])) = true := by rw [str_beq]; exact decide_eq_true rfl
    repeat' (first | refine zN ?_ | (refine WC.quietG hg ?_; clear hg) | ((with_reducible refine WQ.nilG ?_); intro w hg) | (refine zB ?_; clear hg; intro b w hg; refine WO.fr ?_) | (refine zW ?_; clear hg; intro w hg; refine WO.fr ?_) | (refine op_pureB hg ?_; clear hg; intro w hg c hc; cases c <;> refine WO.fr ?_))
    rw [hb]
    repeat' (first | refine zN ?_ | (refine WC.quietG hg ?_; clear hg) | ((with_reducible refine WQ.nilG ?_); intro w hg) | (refine zB ?_; clear hg; intro b w hg; refine WO.fr ?_) | (refine zW ?_; clear hg; intro w hg; refine WO.fr ?_) | (refine op_pureB hg ?_; clear hg; intro w hg c hc; cases c <;> refine WO.fr ?_))
    exact ret1 rfl ⟨rfl, hg.drop⟩
  · have hb : (str (l.getD n []) == str (l.getD i [])) = false := by
      rw [str_beq]
      exact decide_eq_false (fun h => hd i (by omega) h.symm)
    repeat' (first | refine zN ?_ | (refine WC.quietG hg ?_; clear hg) | ((with_reducible refine WQ.nilG ?_); intro w hg) | (refine zB ?_; clear hg; intro b w hg; refine WO.fr ?_) | (refine zW ?_; clear hg; intro w hg; refine WO.fr ?_) | (refine op_pureB hg ?_; clear hg; intro w hg c hc; cases c <;> refine WO.fr ?_))
    rw [hb]
    repeat' (first | refine zN ?_ | (refine WC.quietG hg ?_; clear hg) | ((with_reducible refine WQ.nilG ?_); intro w hg) | (refine zB ?_; clear hg; intro b w hg; refine WO.fr ?_) | (refine zW ?_; clear hg; intro w hg; refine WO.fr ?_) | (refine op_pureB hg ?_; clear hg; intro w hg c hc; cases c <;> refine WO.fr ?_))
    with_reducible refine QX.norm ?_
    refine hK _ _ _ ?_ ?_ ?_
    · simp only [setAll, List.map_cons, List.map_nil, gt, List.set_cons_succ, List.set_cons_zero]
    all_goals try simp only [List.map_cons, List.map_nil, gt, intOf]
    · exact ⟨i + 1, trivial, rfl, by omega, hg⟩
    · omega
set_option maxHeartbeats 1000000 in
theorem tmodes_spec (w0 : World) (v : Value) (L : PLex) (hS : StrsAt w0 v L.modes) (hok : LexOK L) : Calls Tryz.prog 39 #[v] w0 fun e w' => e = .returned (.bool true) ∧ Goes w0 [] [] w' := by
  have hS0 := hS
  obtain ⟨a, cap, rfl, hlim⟩ := hS.slice
  have hg := Goes.refl w0
  have hm1 := hok.m1
  refine enter Tryz.func39 rfl (by simp only [Tryz.ntmps39, List.length_cons, List.length_nil, Nat.reduceAdd, Nat.reduceSub, List.replicate_succ, List.replicate_zero, List.cons_append, List.nil_append]; exact rfl) ?_
  repeat' (first | refine zN ?_ | (refine WC.quietG hg ?_; clear hg) | ((with_reducible refine WQ.nilG ?_); intro w hg) | (refine zB ?_; clear hg; intro b w hg; refine WO.fr ?_) | (refine zW ?_; clear hg; intro w hg; refine WO.fr ?_) | (refine op_pureB hg ?_; clear hg; intro w hg c hc; cases c <;> refine WO.fr ?_))
  refine WC.loopS [2, 3, 4, 15, 16, 17, 18, 19, 20, 21, 22, 23, 24, 25, 26, 27, 28, 29, 30] (fun xs d w => ∃ i : Nat, d = [] ∧ (gt xs 3) = .int .i64 i ∧ i ≤ L.modes.length ∧ Goes w0 [] [] w) (fun xs _ _ => L.modes.length - (intOf (gt xs 3)).toNat) ?_ ?_
  · exact ⟨0, rfl, rfl, Nat.zero_le _, hg⟩
  clear hg
  intro xs d w hlen hI K hK
  replace hlen := len_cons hlen
  obtain ⟨x2, xs, rfl, hlen⟩ := hlen
  replace hlen := len_cons hlen
  obtain ⟨x3, xs, rfl, hlen⟩ := hlen
  replace hlen := len_cons hlen
  obtain ⟨x4, xs, rfl, hlen⟩ := hlen
  replace hlen := len_cons hlen
  obtain ⟨x15, xs, rfl, hlen⟩ := hlen
  replace hlen := len_cons hlen
  obtain ⟨x16, xs, rfl, hlen⟩ := hlen
  replace hlen := len_cons hlen
  obtain ⟨x17, xs, rfl, hlen⟩ := hlen
  replace hlen := len_cons hlen
  obtain ⟨x18, xs, rfl, hlen⟩ := hlen
  replace hlen := len_cons hlen
  obtain ⟨x19, xs, rfl, hlen⟩ := hlen
  replace hlen := len_cons hlen
  obtain ⟨x20, xs, rfl, hlen⟩ := hlen
  replace hlen := len_cons hlen
  obtain ⟨x21, xs, rfl, hlen⟩ := hlen
  replace hlen := len_cons hlen
  obtain ⟨x22, xs, rfl, hlen⟩ := hlen
  replace hlen := len_cons hlen
  obtain ⟨x23, xs, rfl, hlen⟩ := hlen
  replace hlen := len_cons hlen
  obtain ⟨x24, xs, rfl, hlen⟩ := hlen
  replace hlen := len_cons hlen
  obtain ⟨x25, xs, rfl, hlen⟩ := hlen
  replace hlen := len_cons hlen
  obtain ⟨x26, xs, rfl, hlen⟩ := hlen
  replace hlen := len_cons hlen
  obtain ⟨x27, xs, rfl, hlen⟩ := hlen
  replace hlen := len_cons hlen
  obtain ⟨x28, xs, rfl, hlen⟩ := hlen
  replace hlen := len_cons hlen
  obtain ⟨x29, xs, rfl, hlen⟩ := hlen
  replace hlen := len_cons hlen
  obtain ⟨x30, xs, rfl, hlen⟩ := hlen
  replace hlen := len_nil hlen
  subst hlen
  refine WC.frame (by simp only [setAll, List.set_cons_succ, List.set_cons_zero]; exact rfl) ?_
  try simp only [gt] at hI
  obtain ⟨i, rfl, rfl, hi, hg⟩ := hI
  by_cases hlt : i < L.modes.length
  rotate_left
  · repeat' (first | refine zN ?_ | (refine WC.quietG hg ?_; clear hg) | ((with_reducible refine WQ.nilG ?_); intro w hg) | (refine zB ?_; clear hg; intro b w hg; refine WO.fr ?_) | (refine zW ?_; clear hg; intro w hg; refine WO.fr ?_) | (refine op_pureB hg ?_; clear hg; intro w hg c hc; cases c <;> refine WO.fr ?_))
    exact ret1 rfl ⟨rfl, hg.drop⟩
  have p2 : ∀ {w Fs}, Goes w0 [] Fs w → Calls Tryz.prog 77 #[.slice a L.modes.length cap, .string (str (L.modes.getD i []))] w _ := fun h => Index_spec _ _ _ (hS0.goes h) i hlt (by omega) (fun j hj => hok.m3 j i hj hlt)
  have p1 : ∀ {w Fs}, Goes w0 [] Fs w → Calls Tryz.prog 76 #[.string (str (L.modes.getD i []))] w _ := fun _ => Name_spec _ _ (hok.m2 i hlt)
  obtain ⟨b, k, cap', e, hc⟩ := hS0.get hlt
  simp only [Value.slice.injEq] at e
  obtain ⟨rfl, _, rfl⟩ := e
  have c1 : ∀ {w Fs}, Goes w0 [] Fs w → w.cell? ⟨b, k + i, none⟩ = some (.string (str (L.modes.getD i []))) := fun g => g.cellOld0 hc
  repeat' (first | refine zN ?_ | (refine WC.quietG hg ?_; clear hg) | ((with_reducible refine WQ.nilG ?_); intro w hg) | (refine zB ?_; clear hg; intro b w hg; refine WO.fr ?_) | (refine zW ?_; clear hg; intro w hg; refine WO.fr ?_) | (refine op_pureB hg ?_; clear hg; intro w hg c hc; cases c <;> refine WO.fr ?_))
  with_reducible refine QX.norm ?_
  refine hK _ _ _ ?_ ?_ ?_
  · simp only [setAll, List.map_cons, List.map_nil, gt, List.set_cons_succ, List.set_cons_zero]
  all_goals try simp only [List.map_cons, List.map_nil, gt, intOf]
  · exact ⟨i + 1, trivial, rfl, by omega, hg⟩
  · omega
end Go.Proofs.YtkdidefghbeabaaGreat
namespace Go.Proofs.YtkdidefghbeabaaGreat
open Go Go.RowKit
set_option maxRecDepth 10000
set_option linter.unusedSimpArgs false
set_option linter.unusedVariables false

theorem right1_spec (w0 : World) (b : Nat) (vm : Value) (L : PLex) (hc : w0.cell? ⟨b, 0, none⟩ = some vm) (hM : StrsAt w0 vm L.modes) (hok : LexOK L) (i : Nat) (hi : i < L.acts.length) : Calls Tryz.prog 40 #[.agg (L.acts.getD i ⟨[], 0⟩).enc.toArray, .pointer (some ⟨b, 0, none⟩)] w0 fun e w' => e = .returned (.bool false) ∧ Goes w0 [] [] w' := by
  have hg := Goes.refl w0
  have c1 : ∀ {w Fs}, Goes w0 [] Fs w → w.cell? ⟨b, 0, none⟩ = some vm := fun g => g.cellOld0 hc
  obtain ⟨h1, h2⟩ := hok.a2 i hi
  generalize L.acts.getD i ⟨[], 0⟩ = x at h1 h2
  have p1 : ∀ {w Fs}, Goes w0 [] Fs w → Calls Tryz.prog 41 #[.agg x.enc.toArray, vm] w _ := fun h => actR_spec _ x vm L.modes (hM.goes h) h1 h2
  simp only [PAct.enc] at p1 ⊢
  refine enter Tryz.func40 rfl (by simp only [Tryz.ntmps40, List.length_cons, List.length_nil, Nat.reduceAdd, Nat.reduceSub, List.replicate_succ, List.replicate_zero, List.cons_append, List.nil_append]; exact rfl) ?_
  repeat' (first | refine zN ?_ | (refine WC.quietG hg ?_; clear hg) | ((with_reducible refine WQ.nilG ?_); intro w hg) | (refine zB ?_; clear hg; intro b w hg; refine WO.fr ?_) | (refine zW ?_; clear hg; intro w hg; refine WO.fr ?_) | (refine op_pureB hg ?_; clear hg; intro w hg c hc; cases c <;> refine WO.fr ?_))
  exact ret1 rfl ⟨rfl, hg.drop⟩
theorem right2_spec (w0 : World) (b : Nat) (va : Value) (L : PLex) (hc : w0.cell? ⟨b, 2, none⟩ = some va) (hA : ActsAt w0 va L.acts) (hok : LexOK L) (i : Nat) (hi : i < L.dfas.length) (row : List Value) (hD : DfaAt w0 row L.dfas[i]) : Calls Tryz.prog 42 #[.agg row.toArray, .pointer (some ⟨b, 0, none⟩)] w0 fun e w' => e = .returned (.bool false) ∧ Goes w0 [] [] w' := by
  have hg := Goes.refl w0
  have c1 : ∀ {w Fs}, Goes w0 [] Fs w → w.cell? ⟨b, 2, none⟩ = some va := fun g => g.cellOld0 hc
  have p1 : ∀ {w Fs}, Goes w0 [] Fs w → Calls Tryz.prog 43 #[.agg row.toArray, .int .i64 L.acts.length] w _ := fun h => tdfa_spec _ row _ _ (hD.goes h) (hok.d2 i hi)
  obtain ⟨aa, ca, rfl, hla⟩ := hA.slice
  obtain ⟨vc, vn, vt, rfl, _⟩ := hD
  refine enter Tryz.func42 rfl (by simp only [Tryz.ntmps42, List.length_cons, List.length_nil, Nat.reduceAdd, Nat.reduceSub, List.replicate_succ, List.replicate_zero, List.cons_append, List.nil_append]; exact rfl) ?_
  repeat' (first | refine zN ?_ | (refine WC.quietG hg ?_; clear hg) | ((with_reducible refine WQ.nilG ?_); intro w hg) | (refine zB ?_; clear hg; intro b w hg; refine WO.fr ?_) | (refine zW ?_; clear hg; intro w hg; refine WO.fr ?_) | (refine op_pureB hg ?_; clear hg; intro w hg c hc; cases c <;> refine WO.fr ?_))
  exact ret1 rfl ⟨rfl, hg.drop⟩
set_option maxHeartbeats 1000000 in
theorem tRight_spec (w0 : World) (cs : List Value) (L : PLex) (hL : LexAt w0 cs L) (hok : LexOK L) : Calls Tryz.prog 23 #[.agg cs.toArray] w0 fun e w' => e = .returned (.bool true) ∧ Goes w0 [] [] w' := by
  obtain ⟨vm, vd, va, rfl, hM, hD, hA⟩ := hL
  have hg := Goes.refl w0
  have ha1 := hok.a1
  have hd1 := hok.d1
  have p1 : ∀ {w Fs}, Goes w0 [] Fs w → Calls Tryz.prog 39 #[vm] w _ := fun h => tmodes_spec _ _ L (hM.goes h) hok
  obtain ⟨am, cm, rfl, hlm⟩ := hM.slice
  obtain ⟨ad, cd, rfl, hld⟩ := hD.slice
  obtain ⟨aa, ca, rfl, hla⟩ := hA.slice
  refine enter Tryz.func23 rfl (by simp only [Tryz.ntmps23, List.length_cons, List.length_nil, Nat.reduceAdd, Nat.reduceSub, List.replicate_succ, List.replicate_zero, List.cons_append, List.nil_append]; exact rfl) ?_
  repeat' (first | refine zN ?_ | (refine WC.quietG hg ?_; clear hg) | ((with_reducible refine WQ.nilG ?_); intro w hg) | (refine zB ?_; clear hg; intro b w hg; refine WO.fr ?_) | (refine zW ?_; clear hg; intro w hg; refine WO.fr ?_) | (refine op_pureB hg ?_; clear hg; intro w hg c hc; cases c <;> refine WO.fr ?_))
  refine op_pure hg ?_ (hc := HasAct_spec (f := 40) (hA.goes hg) (fun i hi w Fs h => right1_spec _ _ _ L (h.cellOld0 (by first | with_reducible assumption | ((with_reducible apply CellAt.cell (hg := hg)); (repeat (first | ((with_reducible apply CellAt.here); (first | exact rfl | with_reducible assumption)) | with_reducible apply CellAt.more | with_reducible apply CellAt.next)); done) | ((with_reducible apply hg.cellOld0); with_reducible assumption) | with_reducible exact c1 hg | with_reducible exact c2 hg | with_reducible exact c3 hg | with_reducible exact c4 hg | with_reducible exact c5 hg | with_reducible exact c6 hg | with_reducible exact c7 hg | with_reducible exact c8 hg | with_reducible exact c9 hg | with_reducible exact s1 hs | with_reducible exact s2 hs | with_reducible exact s3 hs | with_reducible exact s4 hs | with_reducible exact s5 hs | with_reducible exact s6 hs | with_reducible exact s7 hs | with_reducible exact s8 hs | with_reducible exact s9 hs)) ((hM.goes hg).goes h) hok i hi))
  clear hg
  intro w hg
  refine WO.fr ?_
  repeat' (first | refine zN ?_ | (refine WC.quietG hg ?_; clear hg) | ((with_reducible refine WQ.nilG ?_); intro w hg) | (refine zB ?_; clear hg; intro b w hg; refine WO.fr ?_) | (refine zW ?_; clear hg; intro w hg; refine WO.fr ?_) | (refine op_pureB hg ?_; clear hg; intro w hg c hc; cases c <;> refine WO.fr ?_))
  refine op_pure hg ?_ (hc := HasDfa_spec (f := 42) (hD.goes hg (fun _ _ hx => hx.goes hg)) (fun i hi row w Fs h hrow => right2_spec _ _ _ L (h.cellOld0 (by first | with_reducible assumption | ((with_reducible apply CellAt.cell (hg := hg)); (repeat (first | ((with_reducible apply CellAt.here); (first | exact rfl | with_reducible assumption)) | with_reducible apply CellAt.more | with_reducible apply CellAt.next)); done) | ((with_reducible apply hg.cellOld0); with_reducible assumption) | with_reducible exact c1 hg | with_reducible exact c2 hg | with_reducible exact c3 hg | with_reducible exact c4 hg | with_reducible exact c5 hg | with_reducible exact c6 hg | with_reducible exact c7 hg | with_reducible exact c8 hg | with_reducible exact c9 hg | with_reducible exact s1 hs | with_reducible exact s2 hs | with_reducible exact s3 hs | with_reducible exact s4 hs | with_reducible exact s5 hs | with_reducible exact s6 hs | with_reducible exact s7 hs | with_reducible exact s8 hs | with_reducible exact s9 hs)) ((hA.goes hg).goes h) hok i hi row hrow))
  clear hg
  intro w hg
  refine WO.fr ?_
  repeat' (first | refine zN ?_ | (refine WC.quietG hg ?_; clear hg) | ((with_reducible refine WQ.nilG ?_); intro w hg) | (refine zB ?_; clear hg; intro b w hg; refine WO.fr ?_) | (refine zW ?_; clear hg; intro w hg; refine WO.fr ?_) | (refine op_pureB hg ?_; clear hg; intro w hg c hc; cases c <;> refine WO.fr ?_))
  exact ret1 rfl ⟨rfl, hg.drop⟩
end Go.Proofs.YtkdidefghbeabaaGreat
