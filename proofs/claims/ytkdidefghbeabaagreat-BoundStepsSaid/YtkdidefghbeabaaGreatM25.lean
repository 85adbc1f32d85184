/- The document: places, modes, actions; parameters; operations. -/
import Derived.Test.YtkdidefghbeabaaGreatM20
import Derived.Test.YtkdidefghbeabaaGreatM12
namespace Go.Proofs.YtkdidefghbeabaaGreat
open Go Go.RowKit
set_option maxRecDepth 10000
set_option linter.unusedSimpArgs false
set_option linter.unusedVariables false

theorem str_nilE : (str [] == (⟨#[]⟩ : ByteArray)) = true := by rw [show (⟨#[]⟩ : ByteArray) = str [] from rfl, str_beq]; rfl
theorem str_consE {l : List UInt8} (h : l ≠ []) : (str l == (⟨#[]⟩ : ByteArray)) = false := by
  rw [show (⟨#[]⟩ : ByteArray) = str [] from rfl, str_beq]
  exact decide_eq_false h
theorem place_spec (w0 : World) (v : Value) (l : List (List UInt8)) (s : List UInt8) (hS : StrsAt w0 v l) : Calls Tryz.prog 108 #[v, .string (str s)] w0 fun e w' => (∃ n : Int, e = .returned (.int .i64 n) ∧ (∀ j : Nat, j < l.length → (j : Int) < n → l.getD j [] ≠ s)) ∧ Goes w0 [] [] w' := by
  have hS0 := hS
  obtain ⟨a, cap, rfl, hlim⟩ := hS.slice
  have hg := Goes.refl w0
  refine enter Tryz.func108 rfl (by simp only [Tryz.ntmps108, List.length_cons, List.length_nil, Nat.reduceAdd, Nat.reduceSub, List.replicate_succ, List.replicate_zero, List.cons_append, List.nil_append]; exact rfl) ?_
  repeat' (first | refine zN ?_ | (refine WC.quietG hg ?_; clear hg) | ((with_reducible refine WQ.nilG ?_); intro w hg) | (refine zB ?_; clear hg; intro b w hg; refine WO.fr ?_) | (refine zW ?_; clear hg; intro w hg; refine WO.fr ?_) | (refine op_pureB hg ?_; clear hg; intro w hg c hc; cases c <;> refine WO.fr ?_))
  refine WC.loopS [4, 5, 6, 7, 8, 9, 10, 11, 12, 13, 14, 15, 16, 17, 18] (fun xs d w => ∃ i : Nat, d = [] ∧ (gt xs 1) = .int .i64 i ∧ i ≤ l.length ∧ (∀ j : Nat, j < i → l.getD j [] ≠ s) ∧ Goes w0 [] [] w) (fun xs _ _ => l.length - (intOf (gt xs 1)).toNat) ?_ ?_
  · exact ⟨0, rfl, rfl, Nat.zero_le _, fun j hj => by omega, hg⟩
  clear hg
  intro xs d w hlen hI K hK
  replace hlen := len_cons hlen
  obtain ⟨x4, xs, rfl, hlen⟩ := hlen
  replace hlen := len_cons hlen
  obtain ⟨x5, xs, rfl, hlen⟩ := hlen
  replace hlen := len_cons hlen
  obtain ⟨x6, xs, rfl, hlen⟩ := hlen
  replace hlen := len_cons hlen
  obtain ⟨x7, xs, rfl, hlen⟩ := hlen
  replace hlen := len_cons hlen
  obtain ⟨x8, xs, rfl, hlen⟩ := hlen
  replace hlen := len_cons hlen
  obtain ⟨x9, xs, rfl, hlen⟩ := hlen
  replace hlen := len_cons hlen
  obtain ⟨x10, xs, rfl, hlen⟩ := hlen
  replace hlen := len_cons hlen
  obtain ⟨x11, xs, rfl, hlen⟩ := hlen
  replace hlen := len_cons hlen
  obtain ⟨x12, xs, rfl, hlen⟩ := hlen
  replace hlen := len_cons hlen
  obtain ⟨x13, xs, rfl, hlen⟩ := hlen
  replace hlen := len_cons hlen
  obtain ⟨x14, xs, rfl, hlen⟩ := hlen
  replace hlen := len_cons hlen
  obtain ⟨x15, xs, rfl, hlen⟩ := hlen
  replace hlen := len_cons hlen
  obtain ⟨x16, xs, rfl, hlen⟩ := hlen
  replace hlen := len_cons hlen
  obtain ⟨x17, xs, rfl, hlen⟩ := hlen
  replace hlen := len_cons hlen
  obtain ⟨x18, xs, rfl, hlen⟩ := hlen
  replace hlen := len_nil hlen
  subst hlen
  refine WC.frame (by simp only [setAll, List.set_cons_succ, List.set_cons_zero]; exact rfl) ?_
  try simp only [gt] at hI
  obtain ⟨i, rfl, rfl, hi, hne, hg⟩ := hI
  by_cases hlt : i < l.length
  rotate_left
  · repeat' (first | refine zN ?_ | (refine WC.quietG hg ?_; clear hg) | ((with_reducible refine WQ.nilG ?_); intro w hg) | (refine zB ?_; clear hg; intro b w hg; refine WO.fr ?_) | (refine zW ?_; clear hg; intro w hg; refine WO.fr ?_) | (refine op_pureB hg ?_; clear hg; intro w hg c hc; cases c <;> refine WO.fr ?_))
    exact ret1 rfl ⟨⟨-1, rfl, fun j hj h => by omega⟩, hg.drop⟩
  obtain ⟨b, k, cap', e, hc⟩ := hS0.get (i := i) hlt
  simp only [Value.slice.injEq] at e
  obtain ⟨rfl, _, rfl⟩ := e
  have c1 : ∀ {w Fs}, Goes w0 [] Fs w → w.cell? ⟨b, k + i, none⟩ = some (.string (str (l.getD i []))) := fun g => g.cellOld0 hc
  by_cases he : l.getD i [] = s
  · have hb : (str (l.getD i []) == str s) = true := by rw [str_beq]; exact decide_eq_true he
    repeat' (first | refine zN ?_ | (refine WC.quietG hg ?_; clear hg) | ((with_reducible refine WQ.nilG ?_); intro w hg) | (refine zB ?_; clear hg; intro b w hg; refine WO.fr ?_) | (refine zW ?_; clear hg; intro w hg; refine WO.fr ?_) | (refine op_pureB hg ?_; clear hg; intro w hg c hc; cases c <;> refine WO.fr ?_))
    rw [hb]
    repeat' (first | refine zN ?_ | (refine WC.quietG hg ?_; clear hg) | ((with_reducible refine WQ.nilG ?_); intro w hg) | (refine zB ?_; clear hg; intro b w hg; refine WO.fr ?_) | (refine zW ?_; clear hg; intro w hg; refine WO.fr ?_) | (refine op_pureB hg ?_; clear hg; intro w hg c hc; cases c <;> refine WO.fr ?_))
    exact ret1 rfl ⟨⟨i, rfl, fun j hj h => hne j (by omega)⟩, hg.drop⟩
  · have hb : (str (l.getD i []) == str s) = false := by rw [str_beq]; exact decide_eq_false he
    repeat' (first | refine zN ?_ | (refine WC.quietG hg ?_; clear hg) | ((with_reducible refine WQ.nilG ?_); intro w hg) | (refine zB ?_; clear hg; intro b w hg; refine WO.fr ?_) | (refine zW ?_; clear hg; intro w hg; refine WO.fr ?_) | (refine op_pureB hg ?_; clear hg; intro w hg c hc; cases c <;> refine WO.fr ?_))
    rw [hb]
    repeat' (first | refine zN ?_ | (refine WC.quietG hg ?_; clear hg) | ((with_reducible refine WQ.nilG ?_); intro w hg) | (refine zB ?_; clear hg; intro b w hg; refine WO.fr ?_) | (refine zW ?_; clear hg; intro w hg; refine WO.fr ?_) | (refine op_pureB hg ?_; clear hg; intro w hg c hc; cases c <;> refine WO.fr ?_))
    with_reducible refine QX.norm ?_
    refine hK _ _ _ ?_ ?_ ?_
    · simp only [setAll, List.map_cons, List.map_nil, gt, List.set_cons_succ, List.set_cons_zero]
    all_goals try simp only [List.map_cons, List.map_nil, gt, intOf]
    · refine ⟨i + 1, trivial, rfl, by omega, fun j hj => ?_, hg⟩
      by_cases e : j = i
      · rw [e]; exact he
      · exact hne j (by omega)
    · omega
theorem dModes_spec (w0 : World) (v : Value) (l : List (List UInt8)) (hS : StrsAt w0 v l) : Calls Tryz.prog 70 #[v] w0 fun e w' => (e = .returned (.bool false) ∨ (e = .returned (.bool true) ∧ (∀ i, i < l.length → NameR (l.getD i [])) ∧ ∀ i j, i < j → j < l.length → l.getD i [] ≠ l.getD j [])) ∧ Goes w0 [] [] w' := by
  have hS0 := hS
  obtain ⟨a, cap, rfl, hlim⟩ := hS.slice
  have hg := Goes.refl w0
  refine enter Tryz.func70 rfl (by simp only [Tryz.ntmps70, List.length_cons, List.length_nil, Nat.reduceAdd, Nat.reduceSub, List.replicate_succ, List.replicate_zero, List.cons_append, List.nil_append]; exact rfl) ?_
  repeat' (first | refine zN ?_ | (refine WC.quietG hg ?_; clear hg) | ((with_reducible refine WQ.nilG ?_); intro w hg) | (refine zB ?_; clear hg; intro b w hg; refine WO.fr ?_) | (refine zW ?_; clear hg; intro w hg; refine WO.fr ?_) | (refine op_pureB hg ?_; clear hg; intro w hg c hc; cases c <;> refine WO.fr ?_))
  refine WC.loopS [2, 3, 4, 5, 6, 7, 8, 9, 10, 11, 12, 13, 14, 15, 16, 17, 18, 19, 20, 21, 22, 23, 24, 25] (fun xs d w => ∃ i : Nat, d = [] ∧ (gt xs 1) = .int .i64 i ∧ i ≤ l.length ∧ (∀ j : Nat, j < i → NameR (l.getD j []) ∧ ∀ k, k < j → l.getD k [] ≠ l.getD j []) ∧ Goes w0 [] [] w) (fun xs _ _ => l.length - (intOf (gt xs 1)).toNat) ?_ ?_
  · exact ⟨0, rfl, rfl, Nat.zero_le _, fun j hj => by omega, hg⟩
  clear hg
  intro xs d w hlen hI K hK
  replace hlen := len_cons hlen
  obtain ⟨x2, xs, rfl, hlen⟩ := hlen
  replace hlen := len_cons hlen
  obtain ⟨x3, xs, rfl, hlen⟩ := hlen
  replace hlen := len_cons hlen
  obtain ⟨x4, xs, rfl, hlen⟩ := hlen
  replace hlen := len_cons hlen
  obtain ⟨x5, xs, rfl, hlen⟩ := hlen
  replace hlen := len_cons hlen
  obtain ⟨x6, xs, rfl, hlen⟩ := hlen
  replace hlen := len_cons hlen
  obtain ⟨x7, xs, rfl, hlen⟩ := hlen
  replace hlen := len_cons hlen
  obtain ⟨x8, xs, rfl, hlen⟩ := hlen
  replace hlen := len_cons hlen
  obtain ⟨x9, xs, rfl, hlen⟩ := hlen
  replace hlen := len_cons hlen
  obtain ⟨x10, xs, rfl, hlen⟩ := hlen
  replace hlen := len_cons hlen
  obtain ⟨x11, xs, rfl, hlen⟩ := hlen
  replace hlen := len_cons hlen
  obtain ⟨x12, xs, rfl, hlen⟩ := hlen
  replace hlen := len_cons hlen
  obtain ⟨x13, xs, rfl, hlen⟩ := hlen
  replace hlen := len_cons hlen
  obtain ⟨x14, xs, rfl, hlen⟩ := hlen
  replace hlen := len_cons hlen
  obtain ⟨x15, xs, rfl, hlen⟩ := hlen
  replace hlen := len_cons hlen
  obtain ⟨x16, xs, rfl, hlen⟩ := hlen
  replace hlen := len_cons hlen
  obtain ⟨x17, xs, rfl, hlen⟩ := hlen
  replace hlen := len_cons hlen
  obtain ⟨x18, xs, rfl, hlen⟩ := hlen
  replace hlen := len_cons hlen
  obtain ⟨x19, xs, rfl, hlen⟩ := hlen
  replace hlen := len_cons hlen
  obtain ⟨x20, xs, rfl, hlen⟩ := hlen
  replace hlen := len_cons hlen
  obtain ⟨x21, xs, rfl, hlen⟩ := hlen
  replace hlen := len_cons hlen
  obtain ⟨x22, xs, rfl, hlen⟩ := hlen
  replace hlen := len_cons hlen
  obtain ⟨x23, xs, rfl, hlen⟩ := hlen
  replace hlen := len_cons hlen
  obtain ⟨x24, xs, rfl, hlen⟩ := hlen
  replace hlen := len_cons hlen
  obtain ⟨x25, xs, rfl, hlen⟩ := hlen
  replace hlen := len_nil hlen
  subst hlen
  refine WC.frame (by simp only [setAll, List.set_cons_succ, List.set_cons_zero]; exact rfl) ?_
  try simp only [gt] at hI
  obtain ⟨i, rfl, rfl, hi, hne, hg⟩ := hI
  by_cases hlt : i < l.length
  rotate_left
  · repeat' (first | refine zN ?_ | (refine WC.quietG hg ?_; clear hg) | ((with_reducible refine WQ.nilG ?_); intro w hg) | (refine zB ?_; clear hg; intro b w hg; refine WO.fr ?_) | (refine zW ?_; clear hg; intro w hg; refine WO.fr ?_) | (refine op_pureB hg ?_; clear hg; intro w hg c hc; cases c <;> refine WO.fr ?_))
    exact ret1 rfl ⟨.inr ⟨rfl, fun j hj => (hne j (by omega)).1, fun k j hk hj => (hne j (by omega)).2 k hk⟩, hg.drop⟩
  obtain ⟨b, k, cap', e, hc⟩ := hS0.get (i := i) hlt
  simp only [Value.slice.injEq] at e
  obtain ⟨rfl, _, rfl⟩ := e
  have c1 : ∀ {w Fs}, Goes w0 [] Fs w → w.cell? ⟨b, k + i, none⟩ = some (.string (str (l.getD i []))) := fun g => g.cellOld0 hc
  repeat' (first | refine zN ?_ | (refine WC.quietG hg ?_; clear hg) | ((with_reducible refine WQ.nilG ?_); intro w hg) | (refine zB ?_; clear hg; intro b w hg; refine WO.fr ?_) | (refine zW ?_; clear hg; intro w hg; refine WO.fr ?_) | (refine op_pureB hg ?_; clear hg; intro w hg c hc; cases c <;> refine WO.fr ?_))
  refine op_call (dName_spec _ _) ?_
  rintro _ w2 ⟨rfl | ⟨rfl, hN⟩, hg2⟩
  · replace hg := hg.call00 hg2
    clear hg2
    refine ⟨_, rfl, ?_⟩
    refine WO.fr ?_
    repeat' (first | refine zN ?_ | (refine WC.quietG hg ?_; clear hg) | ((with_reducible refine WQ.nilG ?_); intro w hg) | (refine zB ?_; clear hg; intro b w hg; refine WO.fr ?_) | (refine zW ?_; clear hg; intro w hg; refine WO.fr ?_) | (refine op_pureB hg ?_; clear hg; intro w hg c hc; cases c <;> refine WO.fr ?_))
    exact ret1 rfl ⟨.inl rfl, hg.drop⟩
  replace hg := hg.call00 hg2
  clear hg2
  refine ⟨_, rfl, ?_⟩
  refine WO.fr ?_
  repeat' (first | refine zN ?_ | (refine WC.quietG hg ?_; clear hg) | ((with_reducible refine WQ.nilG ?_); intro w hg) | (refine zB ?_; clear hg; intro b w hg; refine WO.fr ?_) | (refine zW ?_; clear hg; intro w hg; refine WO.fr ?_) | (refine op_pureB hg ?_; clear hg; intro w hg c hc; cases c <;> refine WO.fr ?_))
  refine op_call (place_spec _ _ l _ (hS0.goes hg)) ?_
  rintro _ w2 ⟨⟨n, rfl, hn⟩, hg2⟩
  replace hg := hg.call00 hg2
  clear hg2
  refine ⟨_, rfl, ?_⟩
  refine WO.fr ?_
  by_cases he : n = i
  · subst he
    repeat' (first | refine zN ?_ | (refine WC.quietG hg ?_; clear hg) | ((with_reducible refine WQ.nilG ?_); intro w hg) | (refine zB ?_; clear hg; intro b w hg; refine WO.fr ?_) | (refine zW ?_; clear hg; intro w hg; refine WO.fr ?_) | (refine op_pureB hg ?_; clear hg; intro w hg c hc; cases c <;> refine WO.fr ?_))
    with_reducible refine QX.norm ?_
    refine hK _ _ _ ?_ ?_ ?_
    · simp only [setAll, List.map_cons, List.map_nil, gt, List.set_cons_succ, List.set_cons_zero]
    all_goals try simp only [List.map_cons, List.map_nil, gt, intOf]
    · refine ⟨i + 1, trivial, rfl, by omega, fun j hj => ?_, hg⟩
      by_cases e : j = i
      · rw [e]; exact ⟨hN, fun k hk => hn k (by omega) (by omega)⟩
      · exact hne j (by omega)
    · omega
  · repeat' (first | refine zN ?_ | (refine WC.quietG hg ?_; clear hg) | ((with_reducible refine WQ.nilG ?_); intro w hg) | (refine zB ?_; clear hg; intro b w hg; refine WO.fr ?_) | (refine zW ?_; clear hg; intro w hg; refine WO.fr ?_) | (refine op_pureB hg ?_; clear hg; intro w hg c hc; cases c <;> refine WO.fr ?_))
    exact ret1 rfl ⟨.inl rfl, hg.drop⟩
theorem dAct_spec (w0 : World) (x : PAct) (vm : Value) (ms : List (List UInt8)) (hM : StrsAt w0 vm ms) : Calls Tryz.prog 71 #[.agg x.enc.toArray, vm] w0 fun e w' => (e = .returned (.bool false) ∨ (e = .returned (.bool true) ∧ (x.emit = [] ∨ NameR x.emit) ∧ -1 ≤ x.goto ∧ x.goto < ms.length)) ∧ Goes w0 [] [] w' := by
  have hg := Goes.refl w0
  obtain ⟨am, cm, rfl, hlm⟩ := hM.slice
  simp only [PAct.enc]
  by_cases h0 : x.emit = []
  · rw [h0]
    have hne := str_nilE
    refine enter Tryz.func71 rfl (by simp only [Tryz.ntmps71, List.length_cons, List.length_nil, Nat.reduceAdd, Nat.reduceSub, List.replicate_succ, List.replicate_zero, List.cons_append, List.nil_append]; exact rfl) ?_
    by_cases h1 : -1 ≤ x.goto
    · by_cases h2 : x.goto < ms.length
      · repeat' (first | refine zN ?_ | (refine WC.quietG hg ?_; clear hg) | ((with_reducible refine WQ.nilG ?_); intro w hg) | (refine zB ?_; clear hg; intro b w hg; refine WO.fr ?_) | (refine zW ?_; clear hg; intro w hg; refine WO.fr ?_) | (refine op_pureB hg ?_; clear hg; intro w hg c hc; cases c <;> refine WO.fr ?_))
        rw [hne]
        repeat' (first | refine zN ?_ | (refine WC.quietG hg ?_; clear hg) | ((with_reducible refine WQ.nilG ?_); intro w hg) | (refine zB ?_; clear hg; intro b w hg; refine WO.fr ?_) | (refine zW ?_; clear hg; intro w hg; refine WO.fr ?_) | (refine op_pureB hg ?_; clear hg; intro w hg c hc; cases c <;> refine WO.fr ?_))
        exact ret1 rfl ⟨.inr ⟨rfl, .inl rfl, h1, h2⟩, hg.drop⟩
      · repeat' (first | refine zN ?_ | (refine WC.quietG hg ?_; clear hg) | ((with_reducible refine WQ.nilG ?_); intro w hg) | (refine zB ?_; clear hg; intro b w hg; refine WO.fr ?_) | (refine zW ?_; clear hg; intro w hg; refine WO.fr ?_) | (refine op_pureB hg ?_; clear hg; intro w hg c hc; cases c <;> refine WO.fr ?_))
        rw [hne]
        repeat' (first | refine zN ?_ | (refine WC.quietG hg ?_; clear hg) | ((with_reducible refine WQ.nilG ?_); intro w hg) | (refine zB ?_; clear hg; intro b w hg; refine WO.fr ?_) | (refine zW ?_; clear hg; intro w hg; refine WO.fr ?_) | (refine op_pureB hg ?_; clear hg; intro w hg c hc; cases c <;> refine WO.fr ?_))
        exact ret1 rfl ⟨.inl rfl, hg.drop⟩
    · repeat' (first | refine zN ?_ | (refine WC.quietG hg ?_; clear hg) | ((with_reducible refine WQ.nilG ?_); intro w hg) | (refine zB ?_; clear hg; intro b w hg; refine WO.fr ?_) | (refine zW ?_; clear hg; intro w hg; refine WO.fr ?_) | (refine op_pureB hg ?_; clear hg; intro w hg c hc; cases c <;> refine WO.fr ?_))
      rw [hne]
      repeat' (first | refine zN ?_ | (refine WC.quietG hg ?_; clear hg) | ((with_reducible refine WQ.nilG ?_); intro w hg) | (refine zB ?_; clear hg; intro b w hg; refine WO.fr ?_) | (refine zW ?_; clear hg; intro w hg; refine WO.fr ?_) | (refine op_pureB hg ?_; clear hg; intro w hg c hc; cases c <;> refine WO.fr ?_))
      exact ret1 rfl ⟨.inl rfl, hg.drop⟩
  · have hne := str_consE h0
    refine enter Tryz.func71 rfl (by simp only [Tryz.ntmps71, List.length_cons, List.length_nil, Nat.reduceAdd, Nat.reduceSub, List.replicate_succ, List.replicate_zero, List.cons_append, List.nil_append]; exact rfl) ?_
    repeat' (first | refine zN ?_ | (refine WC.quietG hg ?_; clear hg) | ((with_reducible refine WQ.nilG ?_); intro w hg) | (refine zB ?_; clear hg; intro b w hg; refine WO.fr ?_) | (refine zW ?_; clear hg; intro w hg; refine WO.fr ?_) | (refine op_pureB hg ?_; clear hg; intro w hg c hc; cases c <;> refine WO.fr ?_))
    rw [hne]
    repeat' (first | refine zN ?_ | (refine WC.quietG hg ?_; clear hg) | ((with_reducible refine WQ.nilG ?_); intro w hg) | (refine zB ?_; clear hg; intro b w hg; refine WO.fr ?_) | (refine zW ?_; clear hg; intro w hg; refine WO.fr ?_) | (refine op_pureB hg ?_; clear hg; intro w hg c hc; cases c <;> refine WO.fr ?_))
    refine op_call (dName_spec _ _) ?_
    rintro _ w2 ⟨rfl | ⟨rfl, hN⟩, hg2⟩
    · replace hg := hg.call00 hg2
      clear hg2
      refine ⟨_, rfl, ?_⟩
      refine WO.fr ?_
      repeat' (first | refine zN ?_ | (refine WC.quietG hg ?_; clear hg) | ((with_reducible refine WQ.nilG ?_); intro w hg) | (refine zB ?_; clear hg; intro b w hg; refine WO.fr ?_) | (refine zW ?_; clear hg; intro w hg; refine WO.fr ?_) | (refine op_pureB hg ?_; clear hg; intro w hg c hc; cases c <;> refine WO.fr ?_))
      exact ret1 rfl ⟨.inl rfl, hg.drop⟩
    replace hg := hg.call00 hg2
    clear hg2
    refine ⟨_, rfl, ?_⟩
    refine WO.fr ?_
    by_cases h1 : -1 ≤ x.goto
    · by_cases h2 : x.goto < ms.length
      · repeat' (first | refine zN ?_ | (refine WC.quietG hg ?_; clear hg) | ((with_reducible refine WQ.nilG ?_); intro w hg) | (refine zB ?_; clear hg; intro b w hg; refine WO.fr ?_) | (refine zW ?_; clear hg; intro w hg; refine WO.fr ?_) | (refine op_pureB hg ?_; clear hg; intro w hg c hc; cases c <;> refine WO.fr ?_))
        exact ret1 rfl ⟨.inr ⟨rfl, .inr hN, h1, h2⟩, hg.drop⟩
      · repeat' (first | refine zN ?_ | (refine WC.quietG hg ?_; clear hg) | ((with_reducible refine WQ.nilG ?_); intro w hg) | (refine zB ?_; clear hg; intro b w hg; refine WO.fr ?_) | (refine zW ?_; clear hg; intro w hg; refine WO.fr ?_) | (refine op_pureB hg ?_; clear hg; intro w hg c hc; cases c <;> refine WO.fr ?_))
        exact ret1 rfl ⟨.inl rfl, hg.drop⟩
    · repeat' (first | refine zN ?_ | (refine WC.quietG hg ?_; clear hg) | ((with_reducible refine WQ.nilG ?_); intro w hg) | (refine zB ?_; clear hg; intro b w hg; refine WO.fr ?_) | (refine zW ?_; clear hg; intro w hg; refine WO.fr ?_) | (refine op_pureB hg ?_; clear hg; intro w hg c hc; cases c <;> refine WO.fr ?_))
      exact ret1 rfl ⟨.inl rfl, hg.drop⟩
theorem mFar_spec (w0 : World) (v : Value) (l : List (List UInt8)) (hS : StrsAt w0 v l) : Calls Tryz.prog 35 #[v] w0 fun e w' => (∃ r, e = .returned (.bool r)) ∧ Goes w0 [] [] w' := by
  have hS0 := hS
  obtain ⟨a, cap, rfl, hlim⟩ := hS.slice
  have hg := Goes.refl w0
  refine enter Tryz.func35 rfl (by simp only [Tryz.ntmps35, List.length_cons, List.length_nil, Nat.reduceAdd, Nat.reduceSub, List.replicate_succ, List.replicate_zero, List.cons_append, List.nil_append]; exact rfl) ?_
  repeat' (first | refine zN ?_ | (refine WC.quietG hg ?_; clear hg) | ((with_reducible refine WQ.nilG ?_); intro w hg) | (refine zB ?_; clear hg; intro b w hg; refine WO.fr ?_) | (refine zW ?_; clear hg; intro w hg; refine WO.fr ?_) | (refine op_pureB hg ?_; clear hg; intro w hg c hc; cases c <;> refine WO.fr ?_))
  refine WC.loopS [2, 3, 4, 5, 6, 7, 8, 9, 10, 11, 12, 13, 14, 15] (fun xs d w => ∃ i : Nat, d = [] ∧ (gt xs 1) = .int .i64 i ∧ i ≤ l.length ∧ Goes w0 [] [] w) (fun xs _ _ => l.length - (intOf (gt xs 1)).toNat) ?_ ?_
  · exact ⟨0, rfl, rfl, Nat.zero_le _, hg⟩
  clear hg
  intro xs d w hlen hI K hK
  replace hlen := len_cons hlen
  obtain ⟨x2, xs, rfl, hlen⟩ := hlen
  replace hlen := len_cons hlen
  obtain ⟨x3, xs, rfl, hlen⟩ := hlen
  replace hlen := len_cons hlen
  obtain ⟨x4, xs, rfl, hlen⟩ := hlen
  replace hlen := len_cons hlen
  obtain ⟨x5, xs, rfl, hlen⟩ := hlen
  replace hlen := len_cons hlen
  obtain ⟨x6, xs, rfl, hlen⟩ := hlen
  replace hlen := len_cons hlen
  obtain ⟨x7, xs, rfl, hlen⟩ := hlen
  replace hlen := len_cons hlen
  obtain ⟨x8, xs, rfl, hlen⟩ := hlen
  replace hlen := len_cons hlen
  obtain ⟨x9, xs, rfl, hlen⟩ := hlen
  replace hlen := len_cons hlen
  obtain ⟨x10, xs, rfl, hlen⟩ := hlen
  replace hlen := len_cons hlen
  obtain ⟨x11, xs, rfl, hlen⟩ := hlen
  replace hlen := len_cons hlen
  obtain ⟨x12, xs, rfl, hlen⟩ := hlen
  replace hlen := len_cons hlen
  obtain ⟨x13, xs, rfl, hlen⟩ := hlen
  replace hlen := len_cons hlen
  obtain ⟨x14, xs, rfl, hlen⟩ := hlen
  replace hlen := len_cons hlen
  obtain ⟨x15, xs, rfl, hlen⟩ := hlen
  replace hlen := len_nil hlen
  subst hlen
  refine WC.frame (by simp only [setAll, List.set_cons_succ, List.set_cons_zero]; exact rfl) ?_
  try simp only [gt] at hI
  obtain ⟨i, rfl, rfl, hi, hg⟩ := hI
  by_cases hlt : i < l.length
  rotate_left
  · by_cases h20 : 20 < l.length
    · repeat' (first | refine zN ?_ | (refine WC.quietG hg ?_; clear hg) | ((with_reducible refine WQ.nilG ?_); intro w hg) | (refine zB ?_; clear hg; intro b w hg; refine WO.fr ?_) | (refine zW ?_; clear hg; intro w hg; refine WO.fr ?_) | (refine op_pureB hg ?_; clear hg; intro w hg c hc; cases c <;> refine WO.fr ?_))
      exact ret1 rfl ⟨⟨_, rfl⟩, hg.drop⟩
    · repeat' (first | refine zN ?_ | (refine WC.quietG hg ?_; clear hg) | ((with_reducible refine WQ.nilG ?_); intro w hg) | (refine zB ?_; clear hg; intro b w hg; refine WO.fr ?_) | (refine zW ?_; clear hg; intro w hg; refine WO.fr ?_) | (refine op_pureB hg ?_; clear hg; intro w hg c hc; cases c <;> refine WO.fr ?_))
      exact ret1 rfl ⟨⟨_, rfl⟩, hg.drop⟩
  obtain ⟨b, k, cap', e, hc⟩ := hS0.get (i := i) hlt
  simp only [Value.slice.injEq] at e
  obtain ⟨rfl, _, rfl⟩ := e
  have c1 : ∀ {w Fs}, Goes w0 [] Fs w → w.cell? ⟨b, k + i, none⟩ = some (.string (str (l.getD i []))) := fun g => g.cellOld0 hc
  by_cases he : 60 < (str (l.getD i [])).size
  · repeat' (first | refine zN ?_ | (refine WC.quietG hg ?_; clear hg) | ((with_reducible refine WQ.nilG ?_); intro w hg) | (refine zB ?_; clear hg; intro b w hg; refine WO.fr ?_) | (refine zW ?_; clear hg; intro w hg; refine WO.fr ?_) | (refine op_pureB hg ?_; clear hg; intro w hg c hc; cases c <;> refine WO.fr ?_))
    exact ret1 rfl ⟨⟨_, rfl⟩, hg.drop⟩
  · repeat' (first | refine zN ?_ | (refine WC.quietG hg ?_; clear hg) | ((with_reducible refine WQ.nilG ?_); intro w hg) | (refine zB ?_; clear hg; intro b w hg; refine WO.fr ?_) | (refine zW ?_; clear hg; intro w hg; refine WO.fr ?_) | (refine op_pureB hg ?_; clear hg; intro w hg c hc; cases c <;> refine WO.fr ?_))
    with_reducible refine QX.norm ?_
    refine hK _ _ _ ?_ ?_ ?_
    · simp only [setAll, List.map_cons, List.map_nil, gt, List.set_cons_succ, List.set_cons_zero]
    all_goals try simp only [List.map_cons, List.map_nil, gt, intOf]
    · exact ⟨i + 1, trivial, rfl, by omega, hg⟩
    · omega

theorem dIn_spec (w0 : World) (n m : Int) : Calls Tryz.prog 58 #[.int .i64 n, .int .i64 m] w0 fun e w' => e = .returned (.bool (inB n m)) ∧ Goes w0 [] [] w' := by
  have hg := Goes.refl w0
  refine enter Tryz.func58 rfl (by simp only [Tryz.ntmps58, List.length_cons, List.length_nil, Nat.reduceAdd, Nat.reduceSub, List.replicate_succ, List.replicate_zero, List.cons_append, List.nil_append]; exact rfl) ?_
  by_cases h1 : 1 ≤ n
  · by_cases h2 : n ≤ m
    · rw [show inB n m = true from by simp [inB, h1, h2]]
      repeat' (first | refine zN ?_ | (refine WC.quietG hg ?_; clear hg) | ((with_reducible refine WQ.nilG ?_); intro w hg) | (refine zB ?_; clear hg; intro b w hg; refine WO.fr ?_) | (refine zW ?_; clear hg; intro w hg; refine WO.fr ?_) | (refine op_pureB hg ?_; clear hg; intro w hg c hc; cases c <;> refine WO.fr ?_))
      exact ret1 rfl ⟨rfl, hg.drop⟩
    · rw [show inB n m = false from by simp [inB, h2]]
      repeat' (first | refine zN ?_ | (refine WC.quietG hg ?_; clear hg) | ((with_reducible refine WQ.nilG ?_); intro w hg) | (refine zB ?_; clear hg; intro b w hg; refine WO.fr ?_) | (refine zW ?_; clear hg; intro w hg; refine WO.fr ?_) | (refine op_pureB hg ?_; clear hg; intro w hg c hc; cases c <;> refine WO.fr ?_))
      exact ret1 rfl ⟨rfl, hg.drop⟩
  · rw [show inB n m = false from by simp [inB, h1]]
    repeat' (first | refine zN ?_ | (refine WC.quietG hg ?_; clear hg) | ((with_reducible refine WQ.nilG ?_); intro w hg) | (refine zB ?_; clear hg; intro b w hg; refine WO.fr ?_) | (refine zW ?_; clear hg; intro w hg; refine WO.fr ?_) | (refine op_pureB hg ?_; clear hg; intro w hg c hc; cases c <;> refine WO.fr ?_))
    exact ret1 rfl ⟨rfl, hg.drop⟩
set_option maxHeartbeats 4000000 in
theorem dPrm_spec (w0 : World) (p : Prm) : Calls Tryz.prog 28 #[.agg p.enc.toArray] w0 fun e w' => e = .returned (.bool p.right) ∧ Goes w0 [] [] w' := by
  have hg := Goes.refl w0
  simp only [Prm.enc]
  have p1 : ∀ {w Fs}, Goes w0 [] Fs w → Calls Tryz.prog 58 #[.int .i64 p.bytes, .int .i64 4096] w _ := fun _ => dIn_spec _ _ _
  have p2 : ∀ {w Fs}, Goes w0 [] Fs w → Calls Tryz.prog 58 #[.int .i64 p.step, .int .i64 4096] w _ := fun _ => dIn_spec _ _ _
  have p3 : ∀ {w Fs}, Goes w0 [] Fs w → Calls Tryz.prog 58 #[.int .i64 p.trail, .int .i64 64] w _ := fun _ => dIn_spec _ _ _
  have p4 : ∀ {w Fs}, Goes w0 [] Fs w → Calls Tryz.prog 58 #[.int .i64 p.marks, .int .i64 64] w _ := fun _ => dIn_spec _ _ _
  have p5 : ∀ {w Fs}, Goes w0 [] Fs w → Calls Tryz.prog 58 #[.int .i64 p.ahead, .int .i64 16] w _ := fun _ => dIn_spec _ _ _
  have p6 : ∀ {w Fs}, Goes w0 [] Fs w → Calls Tryz.prog 58 #[.int .i64 p.retries, .int .i64 16] w _ := fun _ => dIn_spec _ _ _
  have p7 : ∀ {w Fs}, Goes w0 [] Fs w → Calls Tryz.prog 58 #[.int .i64 p.tickets, .int .i64 64] w _ := fun _ => dIn_spec _ _ _
  unfold Prm.right
  refine enter Tryz.func28 rfl (by simp only [Tryz.ntmps28, List.length_cons, List.length_nil, Nat.reduceAdd, Nat.reduceSub, List.replicate_succ, List.replicate_zero, List.cons_append, List.nil_append]; exact rfl) ?_
  cases hb1 : inB p.bytes 4096 <;> rw [hb1] at p1
  · repeat' (first | refine zN ?_ | (refine WC.quietG hg ?_; clear hg) | ((with_reducible refine WQ.nilG ?_); intro w hg) | (refine zB ?_; clear hg; intro b w hg; refine WO.fr ?_) | (refine zW ?_; clear hg; intro w hg; refine WO.fr ?_) | (refine op_pureB hg ?_; clear hg; intro w hg c hc; cases c <;> refine WO.fr ?_))
    exact ret1 rfl ⟨rfl, hg.drop⟩
  cases hb3 : inB p.trail 64 <;> rw [hb3] at p3
  · repeat' (first | refine zN ?_ | (refine WC.quietG hg ?_; clear hg) | ((with_reducible refine WQ.nilG ?_); intro w hg) | (refine zB ?_; clear hg; intro b w hg; refine WO.fr ?_) | (refine zW ?_; clear hg; intro w hg; refine WO.fr ?_) | (refine op_pureB hg ?_; clear hg; intro w hg c hc; cases c <;> refine WO.fr ?_))
    exact ret1 rfl ⟨by show Go.Ending.returned (.bool false) = _; simp, hg.drop⟩
  cases hb4 : inB p.marks 64 <;> rw [hb4] at p4
  · repeat' (first | refine zN ?_ | (refine WC.quietG hg ?_; clear hg) | ((with_reducible refine WQ.nilG ?_); intro w hg) | (refine zB ?_; clear hg; intro b w hg; refine WO.fr ?_) | (refine zW ?_; clear hg; intro w hg; refine WO.fr ?_) | (refine op_pureB hg ?_; clear hg; intro w hg c hc; cases c <;> refine WO.fr ?_))
    exact ret1 rfl ⟨by show Go.Ending.returned (.bool false) = _; simp, hg.drop⟩
  cases hb5 : inB p.ahead 16 <;> rw [hb5] at p5
  · repeat' (first | refine zN ?_ | (refine WC.quietG hg ?_; clear hg) | ((with_reducible refine WQ.nilG ?_); intro w hg) | (refine zB ?_; clear hg; intro b w hg; refine WO.fr ?_) | (refine zW ?_; clear hg; intro w hg; refine WO.fr ?_) | (refine op_pureB hg ?_; clear hg; intro w hg c hc; cases c <;> refine WO.fr ?_))
    exact ret1 rfl ⟨by show Go.Ending.returned (.bool false) = _; simp, hg.drop⟩
  cases hb7 : inB p.tickets 64 <;> rw [hb7] at p7
  · repeat' (first | refine zN ?_ | (refine WC.quietG hg ?_; clear hg) | ((with_reducible refine WQ.nilG ?_); intro w hg) | (refine zB ?_; clear hg; intro b w hg; refine WO.fr ?_) | (refine zW ?_; clear hg; intro w hg; refine WO.fr ?_) | (refine op_pureB hg ?_; clear hg; intro w hg c hc; cases c <;> refine WO.fr ?_))
    exact ret1 rfl ⟨by show Go.Ending.returned (.bool false) = _; simp, hg.drop⟩
  cases hb6 : inB p.retries 16 <;> rw [hb6] at p6
  · repeat' (first | refine zN ?_ | (refine WC.quietG hg ?_; clear hg) | ((with_reducible refine WQ.nilG ?_); intro w hg) | (refine zB ?_; clear hg; intro b w hg; refine WO.fr ?_) | (refine zW ?_; clear hg; intro w hg; refine WO.fr ?_) | (refine op_pureB hg ?_; clear hg; intro w hg c hc; cases c <;> refine WO.fr ?_))
    exact ret1 rfl ⟨by show Go.Ending.returned (.bool false) = _; simp, hg.drop⟩
  cases hb2 : inB p.step 4096 <;> rw [hb2] at p2
  · repeat' (first | refine zN ?_ | (refine WC.quietG hg ?_; clear hg) | ((with_reducible refine WQ.nilG ?_); intro w hg) | (refine zB ?_; clear hg; intro b w hg; refine WO.fr ?_) | (refine zW ?_; clear hg; intro w hg; refine WO.fr ?_) | (refine op_pureB hg ?_; clear hg; intro w hg c hc; cases c <;> refine WO.fr ?_))
    exact ret1 rfl ⟨by show Go.Ending.returned (.bool false) = _; simp, hg.drop⟩
  repeat' (first | refine zN ?_ | (refine WC.quietG hg ?_; clear hg) | ((with_reducible refine WQ.nilG ?_); intro w hg) | (refine zB ?_; clear hg; intro b w hg; refine WO.fr ?_) | (refine zW ?_; clear hg; intro w hg; refine WO.fr ?_) | (refine op_pureB hg ?_; clear hg; intro w hg c hc; cases c <;> refine WO.fr ?_))
  exact ret1 rfl ⟨rfl, hg.drop⟩

structure POp where
  k : Int
  n : Int
  dat : List UInt8
def POp.enc (o : POp) : List Value := [.int .i64 o.k, .int .i64 o.n, .string (str o.dat)]
def OpsAt (w : World) (v : Value) (l : List POp) : Prop := ∃ a cap, v = .slice a l.length cap ∧ Sl w a cap 3 (l.map POp.enc)
theorem OpsAt.goes {w0 w : World} {Fs : List Frag} {v : Value} {l : List POp} (h : OpsAt w0 v l) (hg : Goes w0 [] Fs w) : OpsAt w v l := by
  obtain ⟨a, cap, rfl, hS⟩ := h
  exact ⟨a, cap, rfl, hS.goes hg⟩
theorem OpsAt.slice {w : World} {v : Value} {l : List POp} (h : OpsAt w v l) : ∃ a cap, v = .slice a l.length cap ∧ l.length ≤ 140737488351232 := by
  obtain ⟨a, cap, rfl, hS⟩ := h
  have := hS.lim
  exact ⟨a, cap, rfl, by simpa using this⟩
theorem OpsAt.get {w : World} {v : Value} {l : List POp} (h : OpsAt w v l) {i : Nat} (hi : i < l.length) : ∃ b k cap, v = .slice (some ⟨b, k, none⟩) l.length cap ∧ Cells w ⟨b, k + i * 3, none⟩ (l.getD i ⟨0, 0, []⟩).enc := by
  obtain ⟨a, cap, rfl, hS⟩ := h
  obtain ⟨b, k, rfl, h1, h2⟩ := hS.at (i := i) (r := (l.getD i ⟨0, 0, []⟩).enc) (by simp [List.getD_eq_getElem?_getD, hi])
  exact ⟨b, k, cap, rfl, h2⟩
set_option maxHeartbeats 1000000 in
theorem oFar_spec (w0 : World) (v : Value) (l : List POp) (hS : OpsAt w0 v l) : Calls Tryz.prog 5 #[v] w0 fun e w' => (∃ r, e = .returned (.bool r) ∧ (r = false → l.length ≤ 60 ∧ ∀ i, i < l.length → (l.getD i ⟨0, 0, []⟩).dat.length ≤ 40)) ∧ Goes w0 [] [] w' := by
  have hS0 := hS
  obtain ⟨a, cap, rfl, hlim⟩ := hS.slice
  have hg := Goes.refl w0
  refine enter Tryz.func5 rfl (by simp only [Tryz.ntmps5, List.length_cons, List.length_nil, Nat.reduceAdd, Nat.reduceSub, List.replicate_succ, List.replicate_zero, List.cons_append, List.nil_append]; exact rfl) ?_
  repeat' (first | refine zN ?_ | (refine WC.quietG hg ?_; clear hg) | ((with_reducible refine WQ.nilG ?_); intro w hg) | (refine zB ?_; clear hg; intro b w hg; refine WO.fr ?_) | (refine zW ?_; clear hg; intro w hg; refine WO.fr ?_) | (refine op_pureB hg ?_; clear hg; intro w hg c hc; cases c <;> refine WO.fr ?_))
  refine WC.loopS [2, 3, 4, 5, 6, 7, 8, 9, 10, 11, 12, 13, 14, 15, 16, 17, 18, 19, 20, 21, 22, 23, 24, 25, 26, 27, 28, 29] (fun xs d w => ∃ (i : Nat) (n : Int), d = [] ∧ (gt xs 2) = .int .i64 i ∧ (gt xs 1) = .int .i64 n ∧ i ≤ l.length ∧ i ≤ 100 ∧ 0 ≤ n ∧ n ≤ 40 * i ∧ (∀ j : Nat, j < i → (l.getD j ⟨0, 0, []⟩).dat.length ≤ 40) ∧ Goes w0 [] [] w) (fun xs _ _ => l.length - (intOf (gt xs 2)).toNat) ?_ ?_
  · exact ⟨0, 0, rfl, rfl, rfl, Nat.zero_le _, by omega, by omega, by omega, fun j hj => by omega, hg⟩
  clear hg
  intro xs d w hlen hI K hK
  replace hlen := len_cons hlen
  obtain ⟨x2, xs, rfl, hlen⟩ := hlen
  replace hlen := len_cons hlen
  obtain ⟨x3, xs, rfl, hlen⟩ := hlen
  replace hlen := len_cons hlen
  obtain ⟨x4, xs, rfl, hlen⟩ := hlen
  replace hlen := len_cons hlen
  obtain ⟨x5, xs, rfl, hlen⟩ := hlen
  replace hlen := len_cons hlen
  obtain ⟨x6, xs, rfl, hlen⟩ := hlen
  replace hlen := len_cons hlen
  obtain ⟨x7, xs, rfl, hlen⟩ := hlen
  replace hlen := len_cons hlen
  obtain ⟨x8, xs, rfl, hlen⟩ := hlen
  replace hlen := len_cons hlen
  obtain ⟨x9, xs, rfl, hlen⟩ := hlen
  replace hlen := len_cons hlen
  obtain ⟨x10, xs, rfl, hlen⟩ := hlen
  replace hlen := len_cons hlen
  obtain ⟨x11, xs, rfl, hlen⟩ := hlen
  replace hlen := len_cons hlen
  obtain ⟨x12, xs, rfl, hlen⟩ := hlen
  replace hlen := len_cons hlen
  obtain ⟨x13, xs, rfl, hlen⟩ := hlen
  replace hlen := len_cons hlen
  obtain ⟨x14, xs, rfl, hlen⟩ := hlen
  replace hlen := len_cons hlen
  obtain ⟨x15, xs, rfl, hlen⟩ := hlen
  replace hlen := len_cons hlen
  obtain ⟨x16, xs, rfl, hlen⟩ := hlen
  replace hlen := len_cons hlen
  obtain ⟨x17, xs, rfl, hlen⟩ := hlen
  replace hlen := len_cons hlen
  obtain ⟨x18, xs, rfl, hlen⟩ := hlen
  replace hlen := len_cons hlen
  obtain ⟨x19, xs, rfl, hlen⟩ := hlen
  replace hlen := len_cons hlen
  obtain ⟨x20, xs, rfl, hlen⟩ := hlen
  replace hlen := len_cons hlen
  obtain ⟨x21, xs, rfl, hlen⟩ := hlen
  replace hlen := len_cons hlen
  obtain ⟨x22, xs, rfl, hlen⟩ := hlen
  replace hlen := len_cons hlen
  obtain ⟨x23, xs, rfl, hlen⟩ := hlen
  replace hlen := len_cons hlen
  obtain ⟨x24, xs, rfl, hlen⟩ := hlen
  replace hlen := len_cons hlen
  obtain ⟨x25, xs, rfl, hlen⟩ := hlen
  replace hlen := len_cons hlen
  obtain ⟨x26, xs, rfl, hlen⟩ := hlen
  replace hlen := len_cons hlen
  obtain ⟨x27, xs, rfl, hlen⟩ := hlen
  replace hlen := len_cons hlen
  obtain ⟨x28, xs, rfl, hlen⟩ := hlen
  replace hlen := len_cons hlen
  obtain ⟨x29, xs, rfl, hlen⟩ := hlen
  replace hlen := len_nil hlen
  subst hlen
  refine WC.frame (by simp only [setAll, List.set_cons_succ, List.set_cons_zero]; exact rfl) ?_
  try simp only [gt] at hI
  obtain ⟨i, n, rfl, rfl, rfl, hi, hi1, hn1, hn2, hne, hg⟩ := hI
  by_cases hlt : i < l.length
  rotate_left
  · by_cases h20 : 60 < l.length
    · repeat' (first | refine zN ?_ | (refine WC.quietG hg ?_; clear hg) | ((with_reducible refine WQ.nilG ?_); intro w hg) | (refine zB ?_; clear hg; intro b w hg; refine WO.fr ?_) | (refine zW ?_; clear hg; intro w hg; refine WO.fr ?_) | (refine op_pureB hg ?_; clear hg; intro w hg c hc; cases c <;> refine WO.fr ?_))
      exact ret1 rfl ⟨⟨_, rfl, fun h => by cases h⟩, hg.drop⟩
    · by_cases h21 : 200 < n
      · repeat' (first | refine zN ?_ | (refine WC.quietG hg ?_; clear hg) | ((with_reducible refine WQ.nilG ?_); intro w hg) | (refine zB ?_; clear hg; intro b w hg; refine WO.fr ?_) | (refine zW ?_; clear hg; intro w hg; refine WO.fr ?_) | (refine op_pureB hg ?_; clear hg; intro w hg c hc; cases c <;> refine WO.fr ?_))
        exact ret1 rfl ⟨⟨_, rfl, fun h => by cases h⟩, hg.drop⟩
      · repeat' (first | refine zN ?_ | (refine WC.quietG hg ?_; clear hg) | ((with_reducible refine WQ.nilG ?_); intro w hg) | (refine zB ?_; clear hg; intro b w hg; refine WO.fr ?_) | (refine zW ?_; clear hg; intro w hg; refine WO.fr ?_) | (refine op_pureB hg ?_; clear hg; intro w hg c hc; cases c <;> refine WO.fr ?_))
        exact ret1 rfl ⟨⟨_, rfl, fun h => ⟨by omega, fun j hj => hne j (by omega)⟩⟩, hg.drop⟩
  by_cases hlt2 : i < 100
  rotate_left
  · have h20 : 60 < l.length := by omega
    repeat' (first | refine zN ?_ | (refine WC.quietG hg ?_; clear hg) | ((with_reducible refine WQ.nilG ?_); intro w hg) | (refine zB ?_; clear hg; intro b w hg; refine WO.fr ?_) | (refine zW ?_; clear hg; intro w hg; refine WO.fr ?_) | (refine op_pureB hg ?_; clear hg; intro w hg c hc; cases c <;> refine WO.fr ?_))
    exact ret1 rfl ⟨⟨_, rfl, fun h => by cases h⟩, hg.drop⟩
  obtain ⟨b, k, cap', e, hc⟩ := hS0.get (i := i) hlt
  simp only [Value.slice.injEq] at e
  obtain ⟨rfl, _, rfl⟩ := e
  have hne2 := hne
  generalize hx : l.getD i ⟨0, 0, []⟩ = x at hc
  have hsz := str_size x.dat
  have c1 : ∀ {w Fs}, Goes w0 [] Fs w → w.cell? ⟨b, k + i * 3 + 2, none⟩ = some (.string (str x.dat)) := fun g => g.cellOld0 (by have := hc 2 _ rfl; rwa [add_lit] at this)
  clear hc
  by_cases he : 40 < (str x.dat).size
  · repeat' (first | refine zN ?_ | (refine WC.quietG hg ?_; clear hg) | ((with_reducible refine WQ.nilG ?_); intro w hg) | (refine zB ?_; clear hg; intro b w hg; refine WO.fr ?_) | (refine zW ?_; clear hg; intro w hg; refine WO.fr ?_) | (refine op_pureB hg ?_; clear hg; intro w hg c hc; cases c <;> refine WO.fr ?_))
    exact ret1 rfl ⟨⟨_, rfl, fun h => by cases h⟩, hg.drop⟩
  · repeat' (first | refine zN ?_ | (refine WC.quietG hg ?_; clear hg) | ((with_reducible refine WQ.nilG ?_); intro w hg) | (refine zB ?_; clear hg; intro b w hg; refine WO.fr ?_) | (refine zW ?_; clear hg; intro w hg; refine WO.fr ?_) | (refine op_pureB hg ?_; clear hg; intro w hg c hc; cases c <;> refine WO.fr ?_))
    with_reducible refine QX.norm ?_
    refine hK _ _ _ ?_ ?_ ?_
    · simp only [setAll, List.map_cons, List.map_nil, gt, List.set_cons_succ, List.set_cons_zero]
    all_goals try simp only [List.map_cons, List.map_nil, gt, intOf]
    · refine ⟨i + 1, _, trivial, rfl, rfl, by omega, by omega, by omega, by omega, fun j hj => ?_, hg⟩
      by_cases e : j = i
      · rw [e, hx]; omega
      · exact hne2 j (by omega)
    · omega
end Go.Proofs.YtkdidefghbeabaaGreat
