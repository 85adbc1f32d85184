/- bound: the iterator of rounds. bound: Rounds, Due. bound: F; the document's example. The law: what a job needs at first; what lies hidden. -/
import Derived.Test.YtkdidefghbeabaaGreatM26
import Derived.Test.YtkdidefghbeabaaGreatM24
namespace Go.Proofs.YtkdidefghbeabaaGreat
open Go Go.RowKit
set_option maxRecDepth 10000
set_option linter.unusedSimpArgs false

/-- The places behind rounds, from place i on; s, o: has the server, the client been seen? -/
def endsL (c : Int) : List Item → Nat → Bool → Bool → List Nat
  | [], _, _, _ => []
  | x :: xs, i, s, o =>
    let s' := s || decide (who x c = 0)
    let o' := o || decide (who x c = 1)
    if s' && o' then (i + 1) :: endsL c xs (i + 1) false false else endsL c xs (i + 1) s' o'

set_option maxHeartbeats 4000000 in
theorem ends1_spec (w0 : World) (L bf bl bc : Nat) (c : Int) (a : Option Addr) (cap from0 : Nat) (its : List Item) (H0 : Frag) (J Jx : List Nat → Frag → Prop)
    (hF : w0.cell? ⟨bf, 0, none⟩ = some (.int .i64 from0)) (hL : w0.cell? ⟨bl, 0, none⟩ = some (.slice a its.length cap)) (hC : w0.cell? ⟨bc, 0, none⟩ = some (.int .i64 c))
    (hS : Sl w0 a cap 5 (its.map Item.enc)) (nF : bf ∉ keys H0) (nL : bl ∉ keys H0) (nC : bc ∉ keys H0) (nS : its ≠ [] → ∀ p, a = some p → p.block ∉ keys H0)
    (hY : ∀ pre (x : Nat) w h, pre ++ [x] <+: endsL c (its.drop from0) from0 false false → J pre h → Owns w h → Yields Tryz.prog L [.int .i64 x] w fun e w' => ∃ h', Goes w (keys h) [h'] w' ∧ ((e = .returned (.bool true) ∧ J (pre ++ [x]) h') ∨ (e = .returned (.bool false) ∧ Jx (pre ++ [x]) h')))
    (hH : Owns w0 H0) (h0 : J [] H0) :
    Calls Tryz.prog 74 #[.func (.yield L) #[] #[], .pointer (some ⟨bf, 0, none⟩), .pointer (some ⟨bl, 0, none⟩), .pointer (some ⟨bc, 0, none⟩)] w0 fun e w' =>
      (∃ v, e = .returned v) ∧ ∃ h', Goes w0 (keys H0) [h'] w' ∧ (J (endsL c (its.drop from0) from0 false false) h' ∨ ∃ pre, pre <+: endsL c (its.drop from0) from0 false false ∧ Jx pre h') := by
  have hg := hH.goes
  have c1 : ∀ {w Fs}, Goes w0 (keys H0) Fs w → w.cell? ⟨bf, 0, none⟩ = some (.int .i64 from0) := fun h => h.cellOld hF nF
  have c2 : ∀ {w Fs}, Goes w0 (keys H0) Fs w → w.cell? ⟨bl, 0, none⟩ = some (.slice a its.length cap) := fun h => h.cellOld hL nL
  have c3 : ∀ {w Fs}, Goes w0 (keys H0) Fs w → w.cell? ⟨bc, 0, none⟩ = some (.int .i64 c) := fun h => h.cellOld hC nC
  refine enter Tryz.func74 rfl (by simp only [Tryz.ntmps74, List.length_cons, List.length_nil, Nat.reduceAdd, Nat.reduceSub, List.replicate_succ, List.replicate_zero, List.cons_append, List.nil_append]; exact rfl) ?_
  repeat' (first | refine zN ?_ | (refine WC.quietG hg ?_; clear hg) | ((with_reducible refine WQ.nilG ?_); intro w hg) | (refine zB ?_; clear hg; intro b w hg; refine WO.fr ?_) | (refine zW ?_; clear hg; intro w hg; refine WO.fr ?_) | (refine op_pureB hg ?_; clear hg; intro w hg c hc; cases c <;> refine WO.fr ?_))
  refine WC.loopS [6, 7, 9, 10, 11, 12, 13, 14, 15, 16, 17, 18, 19, 20, 21, 22, 23, 24, 25, 26, 27, 28, 29, 30, 31, 32, 33] (fun xs d w => ∃ (i : Nat) (s o : Bool) (pre : List Nat) (h : Frag), d = [] ∧ from0 ≤ i ∧ (gt xs 0) = .int .i64 i ∧ (from0 < its.length → i ≤ its.length) ∧ J pre h ∧ pre ++ endsL c (its.drop i) i s o = endsL c (its.drop from0) from0 false false ∧ Goes w0 (keys H0) [[(b, .cells [.bool s, .bool o].toArray 131 (0, 0))], h] w) (fun xs _ _ => its.length - (intOf (gt xs 0)).toNat) ?_ ?_
  · exact ⟨from0, false, false, [], H0, rfl, Nat.le_refl _, rfl, fun h => Nat.le_of_lt h, h0, rfl, hg⟩
  clear hg
  intro xs d w hlen hI K hK
  replace hlen := len_cons hlen
  obtain ⟨x6, xs, rfl, hlen⟩ := hlen
  replace hlen := len_cons hlen
  obtain ⟨x7, xs, rfl, hlen⟩ := hlen
  replace hlen := len_cons hlen
  obtain ⟨x9, xs, rfl, hlen⟩ := hlen
  replace hlen := len_cons hlen
  obtain ⟨x10, xs, rfl, hlen⟩ := hlen
  replace hlen := len_cons hlen
  obtain ⟨x11, xs, rfl, hlen⟩ := hlen
  replace hlen := len_cons hlen
  obtain ⟨x12, xs, rfl, hlen⟩ := hlen
  replace hlen := len_cons hlen
  obtain ⟨x13, xs, rfl, hlen⟩ := hlen
  replace hlen := len_cons hlen
  obtain ⟨x14, xs, rfl, hlen⟩ := hlen
  replace hlen := len_cons hlen
  obtain ⟨x15, xs, rfl, hlen⟩ := hlen
  replace hlen := len_cons hlen
  obtain ⟨x16, xs, rfl, hlen⟩ := hlen
  replace hlen := len_cons hlen
  obtain ⟨x17, xs, rfl, hlen⟩ := hlen
  replace hlen := len_cons hlen
  obtain ⟨x18, xs, rfl, hlen⟩ := hlen
  replace hlen := len_cons hlen
  obtain ⟨x19, xs, rfl, hlen⟩ := hlen
  replace hlen := len_cons hlen
  obtain ⟨x20, xs, rfl, hlen⟩ := hlen
  replace hlen := len_cons hlen
  obtain ⟨x21, xs, rfl, hlen⟩ := hlen
  replace hlen := len_cons hlen
  obtain ⟨x22, xs, rfl, hlen⟩ := hlen
  replace hlen := len_cons hlen
  obtain ⟨x23, xs, rfl, hlen⟩ := hlen
  replace hlen := len_cons hlen
  obtain ⟨x24, xs, rfl, hlen⟩ := hlen
  replace hlen := len_cons hlen
  obtain ⟨x25, xs, rfl, hlen⟩ := hlen
  replace hlen := len_cons hlen
  obtain ⟨x26, xs, rfl, hlen⟩ := hlen
  replace hlen := len_cons hlen
  obtain ⟨x27, xs, rfl, hlen⟩ := hlen
  replace hlen := len_cons hlen
  obtain ⟨x28, xs, rfl, hlen⟩ := hlen
  replace hlen := len_cons hlen
  obtain ⟨x29, xs, rfl, hlen⟩ := hlen
  replace hlen := len_cons hlen
  obtain ⟨x30, xs, rfl, hlen⟩ := hlen
  replace hlen := len_cons hlen
  obtain ⟨x31, xs, rfl, hlen⟩ := hlen
  replace hlen := len_cons hlen
  obtain ⟨x32, xs, rfl, hlen⟩ := hlen
  replace hlen := len_cons hlen
  obtain ⟨x33, xs, rfl, hlen⟩ := hlen
  replace hlen := len_nil hlen
  subst hlen
  refine WC.frame (by simp only [setAll, List.set_cons_succ, List.set_cons_zero]; exact rfl) ?_
  try simp only [gt] at hI
  obtain ⟨i, s, o, pre, h, rfl, hi, rfl, hle, hJ, hpre, hg⟩ := hI
  have hlim := hS.lim
  simp only [List.length_map] at hlim
  by_cases hlt : i < its.length
  · obtain ⟨bs, ks, rfl, _, hrow⟩ := hS.at (i := i) (r := its[i].enc) (by simp [hlt])
    have r1 : ∀ {w Fs}, Goes w0 (keys H0) Fs w → Cells w ⟨bs, ks + i * 5, none⟩ its[i].enc := fun h => h.cellsOld hrow (nS (by rintro rfl; simp at hlt) ⟨bs, ks, none⟩ rfl)
    repeat' (first | refine zN ?_ | (refine WC.quietG hg ?_; clear hg) | ((with_reducible refine WQ.nilG ?_); intro w hg) | (refine zB ?_; clear hg; intro b w hg; refine WO.fr ?_) | (refine zW ?_; clear hg; intro w hg; refine WO.fr ?_) | (refine op_pureB hg ?_; clear hg; intro w hg c hc; cases c <;> refine WO.fr ?_))
    refine WQ.call (by first | (simp only [ev, gt, put, List.set_cons_succ, List.set_cons_zero, Nat.zero_add, Nat.add_zero, Nat.mul_one, Nat.reduceAdd, Nat.reduceMul, Int.toNat_natCast, Int.reduceToNat, List.map_cons, List.map_nil, List.cons_append, List.nil_append]; exact rfl) | simp only [ev, gt, put, List.set_cons_succ, List.set_cons_zero, Nat.zero_add, Nat.add_zero, Nat.mul_one, Nat.reduceAdd, Nat.reduceMul, Int.toNat_natCast, Int.reduceToNat, List.map_cons, List.map_nil, List.cons_append, List.nil_append]) (who_spec its[i] c) (fun w hg e w' h2 => ⟨h2.1, hg.call00 h2.2⟩) (by first | (simp only [ev, gt, put, List.set_cons_succ, List.set_cons_zero, Nat.zero_add, Nat.add_zero, Nat.mul_one, Nat.reduceAdd, Nat.reduceMul, Int.toNat_natCast, Int.reduceToNat, List.map_cons, List.map_nil, List.cons_append, List.nil_append]; exact rfl) | simp only [ev, gt, put, List.set_cons_succ, List.set_cons_zero, Nat.zero_add, Nat.add_zero, Nat.mul_one, Nat.reduceAdd, Nat.reduceMul, Int.toNat_natCast, Int.reduceToNat, List.map_cons, List.map_nil, List.cons_append, List.nil_append]) ?_
    repeat' (first | refine zN ?_ | (refine WC.quietG hg ?_; clear hg) | ((with_reducible refine WQ.nilG ?_); intro w hg) | (refine zB ?_; clear hg; intro b w hg; refine WO.fr ?_) | (refine zW ?_; clear hg; intro w hg; refine WO.fr ?_) | (refine op_pureB hg ?_; clear hg; intro w hg c hc; cases c <;> refine WO.fr ?_))
    clear r1
    have hstep : endsL c (its.drop i) i s o = (if (s || decide (who its[i] c = 0)) && (o || decide (who its[i] c = 1)) then (i + 1) :: endsL c (its.drop (i + 1)) (i + 1) false false else endsL c (its.drop (i + 1)) (i + 1) (s || decide (who its[i] c = 0)) (o || decide (who its[i] c = 1))) := by
      rw [List.drop_eq_getElem_cons hlt]; rfl
    have hk : who its[i] c = 0 ∨ who its[i] c = 1 ∨ who its[i] c = -1 := by unfold who; (repeat' split) <;> simp
    generalize who its[i] c = k at *
    rcases hk with rfl | rfl | rfl <;> cases s <;> cases o
    all_goals
      repeat' (first | refine zN ?_ | (refine WC.quietG hg ?_; clear hg) | ((with_reducible refine WQ.nilG ?_); intro w hg) | (refine zB ?_; clear hg; intro b w hg; refine WO.fr ?_) | (refine zW ?_; clear hg; intro w hg; refine WO.fr ?_) | (refine op_pureB hg ?_; clear hg; intro w hg c hc; cases c <;> refine WO.fr ?_))
    all_goals try simp only [Bool.or_true, Bool.true_or, Bool.or_false, Bool.false_or, Bool.and_true, Bool.and_false, decide_true, Int.reduceEq, decide_false, if_true, if_false, Bool.false_eq_true] at hstep
    all_goals try
      with_reducible refine QX.norm ?_
      refine hK _ _ _ ?_ ?_ ?_
      · simp only [setAll, List.map_cons, List.map_nil, gt, List.set_cons_succ, List.set_cons_zero]
      all_goals try simp only [List.map_cons, List.map_nil, gt, intOf]
      · exact ⟨i + 1, _, _, pre, h, trivial, by omega, rfl, fun _ => hlt, hJ, by rw [← hpre, hstep], hg⟩
      · omega
    all_goals
      replace hg := hg.swap
      refine op_yield (by first | (simp only [ev, gt, put, List.set_cons_succ, List.set_cons_zero, Nat.zero_add, Nat.add_zero, Nat.mul_one, Nat.reduceAdd, Nat.reduceMul, Int.toNat_natCast, Int.reduceToNat, List.map_cons, List.map_nil, List.cons_append, List.nil_append]; exact rfl) | simp only [ev, gt, put, List.set_cons_succ, List.set_cons_zero, Nat.zero_add, Nat.add_zero, Nat.mul_one, Nat.reduceAdd, Nat.reduceMul, Int.toNat_natCast, Int.reduceToNat, List.map_cons, List.map_nil, List.cons_append, List.nil_append]) (by first | (simp only [ev, gt, put, List.set_cons_succ, List.set_cons_zero, Nat.zero_add, Nat.add_zero, Nat.mul_one, Nat.reduceAdd, Nat.reduceMul, Int.toNat_natCast, Int.reduceToNat, List.map_cons, List.map_nil, List.cons_append, List.nil_append]; exact rfl) | simp only [ev, gt, put, List.set_cons_succ, List.set_cons_zero, Nat.zero_add, Nat.add_zero, Nat.mul_one, Nat.reduceAdd, Nat.reduceMul, Int.toNat_natCast, Int.reduceToNat, List.map_cons, List.map_nil, List.cons_append, List.nil_append]) (hY pre (i + 1) w h ⟨endsL c (its.drop (i + 1)) (i + 1) false false, by rw [← hpre, hstep, List.append_assoc]; rfl⟩ hJ hg.owns1) ?_
      rintro e w2 ⟨h', hg2, hh⟩
      replace hg := (hg.call1 hg2).swap
      clear hg2
      rcases hh with ⟨rfl, hJ'⟩ | ⟨rfl, hJ'⟩ <;> refine ⟨_, rfl, ?_⟩
      · refine WO.fr ?_
        repeat' (first | refine zN ?_ | (refine WC.quietG hg ?_; clear hg) | ((with_reducible refine WQ.nilG ?_); intro w hg) | (refine zB ?_; clear hg; intro b w hg; refine WO.fr ?_) | (refine zW ?_; clear hg; intro w hg; refine WO.fr ?_) | (refine op_pureB hg ?_; clear hg; intro w hg c hc; cases c <;> refine WO.fr ?_))
        with_reducible refine QX.norm ?_
        refine hK _ _ _ ?_ ?_ ?_
        · simp only [setAll, List.map_cons, List.map_nil, gt, List.set_cons_succ, List.set_cons_zero]
        all_goals try simp only [List.map_cons, List.map_nil, gt, intOf]
        · exact ⟨i + 1, false, false, pre ++ [i + 1], h', trivial, by omega, rfl, fun _ => hlt, hJ', by rw [← hpre, hstep, List.append_assoc]; rfl, hg⟩
        · omega
      · refine WO.fr ?_
        repeat' (first | refine zN ?_ | (refine WC.quietG hg ?_; clear hg) | ((with_reducible refine WQ.nilG ?_); intro w hg) | (refine zB ?_; clear hg; intro b w hg; refine WO.fr ?_) | (refine zW ?_; clear hg; intro w hg; refine WO.fr ?_) | (refine op_pureB hg ?_; clear hg; intro w hg c hc; cases c <;> refine WO.fr ?_))
        exact ret0 rfl ⟨⟨_, rfl⟩, h', hg.sub (by simp), .inr ⟨pre ++ [i + 1], ⟨endsL c (its.drop (i + 1)) (i + 1) false false, by rw [← hpre, hstep, List.append_assoc]; rfl⟩, hJ'⟩⟩
  · repeat' (first | refine zN ?_ | (refine WC.quietG hg ?_; clear hg) | ((with_reducible refine WQ.nilG ?_); intro w hg) | (refine zB ?_; clear hg; intro b w hg; refine WO.fr ?_) | (refine zW ?_; clear hg; intro w hg; refine WO.fr ?_) | (refine op_pureB hg ?_; clear hg; intro w hg c hc; cases c <;> refine WO.fr ?_))
    refine end0 rfl ⟨⟨_, rfl⟩, h, hg.sub (by simp), .inl ?_⟩
    have : its.drop i = [] := List.drop_eq_nil_of_le (by omega)
    rw [this, endsL, List.append_nil] at hpre
    rw [← hpre]; exact hJ
end Go.Proofs.YtkdidefghbeabaaGreat
namespace Go.Proofs.YtkdidefghbeabaaGreat
open Go Go.RowKit
set_option maxRecDepth 10000
set_option linter.unusedSimpArgs false
set_option linter.unusedVariables false

theorem endsL_le (c : Int) : ∀ (its : List Item) (i : Nat) (s o : Bool), (endsL c its i s o).length ≤ its.length
  | [], _, _, _ => by simp [endsL]
  | x :: xs, i, s, o => by
    have h1 := endsL_le c xs (i + 1) false false
    have h2 := endsL_le c xs (i + 1) (s || decide (who x c = 0)) (o || decide (who x c = 1))
    simp only [endsL]
    split <;> simp only [List.length_cons] <;> omega

set_option maxHeartbeats 4000000 in
theorem Rounds_spec (w : World) (a : Option Addr) (cap : Nat) (its : List Item) (c : Int) (hS : Sl w a cap 5 (its.map Item.enc)) :
    Calls Tryz.prog 20 #[.slice a its.length cap, .int .i64 c] w fun e w' => e = .returned (.int .i64 (endsL c its 0 false false).length) ∧ Goes w [] [] w' := by
  have hg := Goes.refl w
  refine enterM Tryz.func20 rfl (by simp only [Tryz.ntmps20, List.length_cons, List.length_nil, Nat.reduceAdd, Nat.reduceSub, List.replicate_succ, List.replicate_zero, List.cons_append, List.nil_append]; exact rfl) ?_
  repeat' (first | refine zN ?_ | (refine WC.quietG hg ?_; clear hg) | ((with_reducible refine WQ.nilG ?_); intro w hg) | (refine zB ?_; clear hg; intro b w hg; refine WO.fr ?_) | (refine zW ?_; clear hg; intro w hg; refine WO.fr ?_) | (refine op_pureB hg ?_; clear hg; intro w hg c hc; cases c <;> refine WO.fr ?_))
  refine op_call (ends_spec _ _ 0 c rfl) ?_
  rintro e w2 ⟨bl, bf, bc, rfl, hg2⟩
  replace hg := hg.call0 hg2
  clear hg2
  refine ⟨_, rfl, ?_⟩
  repeat' (first | refine zN ?_ | (refine WC.quietG hg ?_; clear hg) | ((with_reducible refine WQ.nilG ?_); intro w hg) | (refine zB ?_; clear hg; intro b w hg; refine WO.fr ?_) | (refine zW ?_; clear hg; intro w hg; refine WO.fr ?_) | (refine op_pureB hg ?_; clear hg; intro w hg c hc; cases c <;> refine WO.fr ?_))
  refine WC.frame (by first | (simp only [ev, gt, put, List.set_cons_succ, List.set_cons_zero, Nat.zero_add, Nat.add_zero, Nat.mul_one, Nat.reduceAdd, Nat.reduceMul, Int.toNat_natCast, Int.reduceToNat, List.map_cons, List.map_nil, List.cons_append, List.nil_append]; exact rfl) | simp only [ev, gt, put, List.set_cons_succ, List.set_cons_zero, Nat.zero_add, Nat.add_zero, Nat.mul_one, Nat.reduceAdd, Nat.reduceMul, Int.toNat_natCast, Int.reduceToNat, List.map_cons, List.map_nil, List.cons_append, List.nil_append]) ?_
  refine WC.rangeFunc (by first | (simp only [ev, gt, put, List.set_cons_succ, List.set_cons_zero, Nat.zero_add, Nat.add_zero, Nat.mul_one, Nat.reduceAdd, Nat.reduceMul, Int.toNat_natCast, Int.reduceToNat, List.map_cons, List.map_nil, List.cons_append, List.nil_append]; exact rfl) | simp only [ev, gt, put, List.set_cons_succ, List.set_cons_zero, Nat.zero_add, Nat.add_zero, Nat.mul_one, Nat.reduceAdd, Nat.reduceMul, Int.toNat_natCast, Int.reduceToNat, List.map_cons, List.map_nil, List.cons_append, List.nil_append]) hg ?_
  clear hg
  intro fn D L w3 hg
  replace hg := hg.front 5
  simp only [pull, pullIn] at hg
  replace hg := hg.join
  simp only [List.cons_append, List.nil_append] at hg
  refine (ends1_spec w3 L bf bl bc c a cap 0 its _ (fun pre h => h = [(b, .cells [.int .i64 pre.length].toArray 3 (0, 0)), (L, recO fn _ _ _ _ D .ready none)]) (fun _ _ => False) (by first | with_reducible assumption | ((with_reducible apply CellAt.cell (hg := hg)); (repeat (first | ((with_reducible apply CellAt.here); (first | exact rfl | with_reducible assumption)) | with_reducible apply CellAt.more | with_reducible apply CellAt.next)); done) | ((with_reducible apply hg.cellOld0); with_reducible assumption) | with_reducible exact c1 hg | with_reducible exact c2 hg | with_reducible exact c3 hg | with_reducible exact c4 hg | with_reducible exact c5 hg | with_reducible exact c6 hg | with_reducible exact c7 hg | with_reducible exact c8 hg | with_reducible exact c9 hg | with_reducible exact s1 hs | with_reducible exact s2 hs | with_reducible exact s3 hs | with_reducible exact s4 hs | with_reducible exact s5 hs | with_reducible exact s6 hs | with_reducible exact s7 hs | with_reducible exact s8 hs | with_reducible exact s9 hs) (by first | with_reducible assumption | ((with_reducible apply CellAt.cell (hg := hg)); (repeat (first | ((with_reducible apply CellAt.here); (first | exact rfl | with_reducible assumption)) | with_reducible apply CellAt.more | with_reducible apply CellAt.next)); done) | ((with_reducible apply hg.cellOld0); with_reducible assumption) | with_reducible exact c1 hg | with_reducible exact c2 hg | with_reducible exact c3 hg | with_reducible exact c4 hg | with_reducible exact c5 hg | with_reducible exact c6 hg | with_reducible exact c7 hg | with_reducible exact c8 hg | with_reducible exact c9 hg | with_reducible exact s1 hs | with_reducible exact s2 hs | with_reducible exact s3 hs | with_reducible exact s4 hs | with_reducible exact s5 hs | with_reducible exact s6 hs | with_reducible exact s7 hs | with_reducible exact s8 hs | with_reducible exact s9 hs) (by first | with_reducible assumption | ((with_reducible apply CellAt.cell (hg := hg)); (repeat (first | ((with_reducible apply CellAt.here); (first | exact rfl | with_reducible assumption)) | with_reducible apply CellAt.more | with_reducible apply CellAt.next)); done) | ((with_reducible apply hg.cellOld0); with_reducible assumption) | with_reducible exact c1 hg | with_reducible exact c2 hg | with_reducible exact c3 hg | with_reducible exact c4 hg | with_reducible exact c5 hg | with_reducible exact c6 hg | with_reducible exact c7 hg | with_reducible exact c8 hg | with_reducible exact c9 hg | with_reducible exact s1 hs | with_reducible exact s2 hs | with_reducible exact s3 hs | with_reducible exact s4 hs | with_reducible exact s5 hs | with_reducible exact s6 hs | with_reducible exact s7 hs | with_reducible exact s8 hs | with_reducible exact s9 hs) (hS.goes hg) ?_ ?_ ?_ ?_ ?_ hg.owns1 rfl).mono ?_
  · exact hg.apart (by simp [keys])
  · exact hg.apart (by simp [keys])
  · exact hg.apart (by simp [keys])
  · intro hne p hp
    exact hg.apartOld (hS.lt (by decide) hp (by simpa using hne)) (by simp)
  · rintro pre x w4 h hpre rfl hO
    have hg := hO.goes
    have hpl := Nat.le_trans (hpre.length_le) (endsL_le c (its.drop 0) 0 false false)
    have hlim := hS.lim
    simp only [List.length_append, List.length_map, List.length_cons, List.length_nil, List.drop_zero] at hpl hlim
    refine Yields.of hg (by repeat (first | with_reducible exact Turn.here | with_reducible apply Turn.more | with_reducible apply Turn.next)) rfl (by simp only [setL, List.set_cons_succ, List.set_cons_zero]; exact rfl) (fun X => ?_)
    repeat' (first | refine zN ?_ | (refine WC.quietG hg ?_; clear hg) | ((with_reducible refine WQ.nilG ?_); intro w hg) | (refine zB ?_; clear hg; intro b w hg; refine WO.fr ?_) | (refine zW ?_; clear hg; intro w hg; refine WO.fr ?_) | (refine op_pureB hg ?_; clear hg; intro w hg c hc; cases c <;> refine WO.fr ?_))
    refine round_body hg (by repeat (first | with_reducible exact Turn.here | with_reducible apply Turn.more | with_reducible apply Turn.next)) ?_
    clear hg
    intro w5 hg
    repeat' (first | refine zN ?_ | (refine WC.quietG hg ?_; clear hg) | ((with_reducible refine WQ.nilG ?_); intro w hg) | (refine zB ?_; clear hg; intro b w hg; refine WO.fr ?_) | (refine zW ?_; clear hg; intro w hg; refine WO.fr ?_) | (refine op_pureB hg ?_; clear hg; intro w hg c hc; cases c <;> refine WO.fr ?_))
    refine round_end hg (by repeat (first | with_reducible exact Turn.here | with_reducible apply Turn.more | with_reducible apply Turn.next)) (fun w6 hg => ?_)
    exact ⟨_, hg, .inl ⟨rfl, by simp⟩⟩
  · rintro e w4 ⟨⟨v, rfl⟩, h', hg2, rfl | ⟨_, _, hf⟩⟩
    · replace hg := hg.call1 hg2
      simp only [List.cons_append, List.nil_append] at hg
      refine ⟨⟨_, rfl⟩, range_norm hg (by repeat (first | with_reducible exact Turn.here | with_reducible apply Turn.more | with_reducible apply Turn.next)) (fun w5 hg => ?_)⟩
      clear hg2
      repeat' (first | refine zN ?_ | (refine WC.quietG hg ?_; clear hg) | ((with_reducible refine WQ.nilG ?_); intro w hg) | (refine zB ?_; clear hg; intro b w hg; refine WO.fr ?_) | (refine zW ?_; clear hg; intro w hg; refine WO.fr ?_) | (refine op_pureB hg ?_; clear hg; intro w hg c hc; cases c <;> refine WO.fr ?_))
      exact retM (LV.mark hg (by repeat (first | with_reducible exact Turn.here | with_reducible apply Turn.more | with_reducible apply Turn.next)) (fun w hg => LV.nil (.tmp rfl .nil) ⟨rfl, hg.drop⟩))
    · exact hf.elim

/-- The answer of Due. -/
def dueA (c : Int) (its : List Item) (fr n : Int) : Int × Bool :=
  let i := (min (max fr 0) its.length).toNat
  if n < 1 then (i, true) else match (endsL c (its.drop i) i false false)[n.toNat - 1]? with
    | some x => (x, true)
    | none => (0, false)

set_option maxHeartbeats 4000000 in
theorem Due_spec (w : World) (a : Option Addr) (cap : Nat) (its : List Item) (c fr n : Int) (hS : Sl w a cap 5 (its.map Item.enc)) (hn : -9223372036854775808 ≤ n ∧ n ≤ 9223372036854775807) :
    Calls Tryz.prog 19 #[.slice a its.length cap, .int .i64 fr, .int .i64 c, .int .i64 n] w fun e w' => e = .returned (.tuple #[.int .i64 (dueA c its fr n).1, .bool (dueA c its fr n).2]) ∧ Goes w [] [] w' := by
  have hg := Goes.refl w
  obtain ⟨i, hi⟩ : ∃ i : Nat, min (max fr 0) (its.length : Int) = i := ⟨_, (Int.toNat_of_nonneg (by omega)).symm⟩
  have hil : i ≤ its.length := by omega
  by_cases h1 : n < 1
  · refine enterM Tryz.func19 rfl (by simp only [Tryz.ntmps19, List.length_cons, List.length_nil, Nat.reduceAdd, Nat.reduceSub, List.replicate_succ, List.replicate_zero, List.cons_append, List.nil_append]; exact rfl) ?_
    repeat' (first | refine zN ?_ | (refine WC.quietG hg ?_; clear hg) | ((with_reducible refine WQ.nilG ?_); intro w hg) | (refine zB ?_; clear hg; intro b w hg; refine WO.fr ?_) | (refine zW ?_; clear hg; intro w hg; refine WO.fr ?_) | (refine op_pureB hg ?_; clear hg; intro w hg c hc; cases c <;> refine WO.fr ?_))
    refine retM (LV.nil (.cell inferInstance rfl (by first | with_reducible assumption | ((with_reducible apply CellAt.cell (hg := hg)); (repeat (first | ((with_reducible apply CellAt.here); (first | exact rfl | with_reducible assumption)) | with_reducible apply CellAt.more | with_reducible apply CellAt.next)); done) | ((with_reducible apply hg.cellOld0); with_reducible assumption) | with_reducible exact c1 hg | with_reducible exact c2 hg | with_reducible exact c3 hg | with_reducible exact c4 hg | with_reducible exact c5 hg | with_reducible exact c6 hg | with_reducible exact c7 hg | with_reducible exact c8 hg | with_reducible exact c9 hg | with_reducible exact s1 hs | with_reducible exact s2 hs | with_reducible exact s3 hs | with_reducible exact s4 hs | with_reducible exact s5 hs | with_reducible exact s6 hs | with_reducible exact s7 hs | with_reducible exact s8 hs | with_reducible exact s9 hs) (.cell inferInstance rfl (by first | with_reducible assumption | ((with_reducible apply CellAt.cell (hg := hg)); (repeat (first | ((with_reducible apply CellAt.here); (first | exact rfl | with_reducible assumption)) | with_reducible apply CellAt.more | with_reducible apply CellAt.next)); done) | ((with_reducible apply hg.cellOld0); with_reducible assumption) | with_reducible exact c1 hg | with_reducible exact c2 hg | with_reducible exact c3 hg | with_reducible exact c4 hg | with_reducible exact c5 hg | with_reducible exact c6 hg | with_reducible exact c7 hg | with_reducible exact c8 hg | with_reducible exact c9 hg | with_reducible exact s1 hs | with_reducible exact s2 hs | with_reducible exact s3 hs | with_reducible exact s4 hs | with_reducible exact s5 hs | with_reducible exact s6 hs | with_reducible exact s7 hs | with_reducible exact s8 hs | with_reducible exact s9 hs) .nil)) ⟨?_, hg.drop⟩)
    simp only [mkRes, dueA, h1, if_true, hi, Int.toNat_natCast]
  · refine enterM Tryz.func19 rfl (by simp only [Tryz.ntmps19, List.length_cons, List.length_nil, Nat.reduceAdd, Nat.reduceSub, List.replicate_succ, List.replicate_zero, List.cons_append, List.nil_append]; exact rfl) ?_
    repeat' (first | refine zN ?_ | (refine WC.quietG hg ?_; clear hg) | ((with_reducible refine WQ.nilG ?_); intro w hg) | (refine zB ?_; clear hg; intro b w hg; refine WO.fr ?_) | (refine zW ?_; clear hg; intro w hg; refine WO.fr ?_) | (refine op_pureB hg ?_; clear hg; intro w hg c hc; cases c <;> refine WO.fr ?_))
    rw [hi]
    refine op_call (ends_spec _ _ i c rfl) ?_
    rintro e w2 ⟨bl, bf, bc, rfl, hg2⟩
    replace hg := hg.call0 hg2
    simp only [List.cons_append, List.nil_append] at hg
    clear hg2
    refine ⟨_, rfl, ?_⟩
    repeat' (first | refine zN ?_ | (refine WC.quietG hg ?_; clear hg) | ((with_reducible refine WQ.nilG ?_); intro w hg) | (refine zB ?_; clear hg; intro b w hg; refine WO.fr ?_) | (refine zW ?_; clear hg; intro w hg; refine WO.fr ?_) | (refine op_pureB hg ?_; clear hg; intro w hg c hc; cases c <;> refine WO.fr ?_))
    refine WC.frame (by first | (simp only [ev, gt, put, List.set_cons_succ, List.set_cons_zero, Nat.zero_add, Nat.add_zero, Nat.mul_one, Nat.reduceAdd, Nat.reduceMul, Int.toNat_natCast, Int.reduceToNat, List.map_cons, List.map_nil, List.cons_append, List.nil_append]; exact rfl) | simp only [ev, gt, put, List.set_cons_succ, List.set_cons_zero, Nat.zero_add, Nat.add_zero, Nat.mul_one, Nat.reduceAdd, Nat.reduceMul, Int.toNat_natCast, Int.reduceToNat, List.map_cons, List.map_nil, List.cons_append, List.nil_append]) ?_
    refine WC.rangeFunc (by first | (simp only [ev, gt, put, List.set_cons_succ, List.set_cons_zero, Nat.zero_add, Nat.add_zero, Nat.mul_one, Nat.reduceAdd, Nat.reduceMul, Int.toNat_natCast, Int.reduceToNat, List.map_cons, List.map_nil, List.cons_append, List.nil_append]; exact rfl) | simp only [ev, gt, put, List.set_cons_succ, List.set_cons_zero, Nat.zero_add, Nat.add_zero, Nat.mul_one, Nat.reduceAdd, Nat.reduceMul, Int.toNat_natCast, Int.reduceToNat, List.map_cons, List.map_nil, List.cons_append, List.nil_append]) hg ?_
    clear hg
    intro fn D L w3 hg
    replace hg := (((hg.front 8).front 8).front 8).front 8
    simp only [pull, pullIn] at hg
    replace hg := hg.join.join.join.join
    simp only [List.cons_append, List.nil_append] at hg
    rename_i b7 _ b8 _ b9 _ _
    generalize hrc : recO fn _ _ _ _ D = rc at hg ⊢
    refine (ends1_spec w3 L bf bl bc c a cap i its _
      (fun pre h => (pre.length : Int) < n ∧ h = [(b, .cells [.int .i64 pre.length].toArray 3 (0, 0)), (b9, .cells [.bool false].toArray 4 (0, 0)), (b8, .cells [.int .i64 0].toArray 3 (0, 0)), (b7, .cells [.int .i64 n].toArray 3 (0, 0)), (L, rc .ready none)])
      (fun pre h => ∃ q x, pre = q ++ [x] ∧ (pre.length : Int) = n ∧ h = [(b, .cells [.int .i64 pre.length].toArray 3 (0, 0)), (b9, .cells [.bool true].toArray 4 (0, 0)), (b8, .cells [.int .i64 (x : Nat)].toArray 3 (0, 0)), (b7, .cells [.int .i64 n].toArray 3 (0, 0)), (L, rc .done (some .ret))])
      (by first | with_reducible assumption | ((with_reducible apply CellAt.cell (hg := hg)); (repeat (first | ((with_reducible apply CellAt.here); (first | exact rfl | with_reducible assumption)) | with_reducible apply CellAt.more | with_reducible apply CellAt.next)); done) | ((with_reducible apply hg.cellOld0); with_reducible assumption) | with_reducible exact c1 hg | with_reducible exact c2 hg | with_reducible exact c3 hg | with_reducible exact c4 hg | with_reducible exact c5 hg | with_reducible exact c6 hg | with_reducible exact c7 hg | with_reducible exact c8 hg | with_reducible exact c9 hg | with_reducible exact s1 hs | with_reducible exact s2 hs | with_reducible exact s3 hs | with_reducible exact s4 hs | with_reducible exact s5 hs | with_reducible exact s6 hs | with_reducible exact s7 hs | with_reducible exact s8 hs | with_reducible exact s9 hs) (by first | with_reducible assumption | ((with_reducible apply CellAt.cell (hg := hg)); (repeat (first | ((with_reducible apply CellAt.here); (first | exact rfl | with_reducible assumption)) | with_reducible apply CellAt.more | with_reducible apply CellAt.next)); done) | ((with_reducible apply hg.cellOld0); with_reducible assumption) | with_reducible exact c1 hg | with_reducible exact c2 hg | with_reducible exact c3 hg | with_reducible exact c4 hg | with_reducible exact c5 hg | with_reducible exact c6 hg | with_reducible exact c7 hg | with_reducible exact c8 hg | with_reducible exact c9 hg | with_reducible exact s1 hs | with_reducible exact s2 hs | with_reducible exact s3 hs | with_reducible exact s4 hs | with_reducible exact s5 hs | with_reducible exact s6 hs | with_reducible exact s7 hs | with_reducible exact s8 hs | with_reducible exact s9 hs) (by first | with_reducible assumption | ((with_reducible apply CellAt.cell (hg := hg)); (repeat (first | ((with_reducible apply CellAt.here); (first | exact rfl | with_reducible assumption)) | with_reducible apply CellAt.more | with_reducible apply CellAt.next)); done) | ((with_reducible apply hg.cellOld0); with_reducible assumption) | with_reducible exact c1 hg | with_reducible exact c2 hg | with_reducible exact c3 hg | with_reducible exact c4 hg | with_reducible exact c5 hg | with_reducible exact c6 hg | with_reducible exact c7 hg | with_reducible exact c8 hg | with_reducible exact c9 hg | with_reducible exact s1 hs | with_reducible exact s2 hs | with_reducible exact s3 hs | with_reducible exact s4 hs | with_reducible exact s5 hs | with_reducible exact s6 hs | with_reducible exact s7 hs | with_reducible exact s8 hs | with_reducible exact s9 hs) (hS.goes hg) ?_ ?_ ?_ ?_ ?_ hg.owns1 ⟨by simp; omega, rfl⟩).mono ?_
    · exact hg.apart (by simp [keys])
    · exact hg.apart (by simp [keys])
    · exact hg.apart (by simp [keys])
    · intro hne p hp
      exact hg.apartOld (hS.lt (by decide) hp (by simpa using hne)) (by simp)
    · rintro pre x w4 h hpre ⟨hpn, rfl⟩ hO
      subst hrc
      have hg := hO.goes
      have hpl := Nat.le_trans (hpre.length_le) (endsL_le c (its.drop i) i false false)
      have hlim := hS.lim
      simp only [List.length_append, List.length_map, List.length_cons, List.length_nil, List.length_drop] at hpl hlim
      by_cases he : (pre.length : Int) + 1 = n
      · refine Yields.of hg (by repeat (first | with_reducible exact Turn.here | with_reducible apply Turn.more | with_reducible apply Turn.next)) rfl (by simp only [setL, List.set_cons_succ, List.set_cons_zero]; exact rfl) (fun X => ?_)
        repeat' (first | refine zN ?_ | (refine WC.quietG hg ?_; clear hg) | ((with_reducible refine WQ.nilG ?_); intro w hg) | (refine zB ?_; clear hg; intro b w hg; refine WO.fr ?_) | (refine zW ?_; clear hg; intro w hg; refine WO.fr ?_) | (refine op_pureB hg ?_; clear hg; intro w hg c hc; cases c <;> refine WO.fr ?_))
        refine round_body hg (by repeat (first | with_reducible exact Turn.here | with_reducible apply Turn.more | with_reducible apply Turn.next)) ?_
        clear hg
        intro w5 hg
        repeat' (first | refine zN ?_ | (refine WC.quietG hg ?_; clear hg) | ((with_reducible refine WQ.nilG ?_); intro w hg) | (refine zB ?_; clear hg; intro b w hg; refine WO.fr ?_) | (refine zW ?_; clear hg; intro w hg; refine WO.fr ?_) | (refine op_pureB hg ?_; clear hg; intro w hg c hc; cases c <;> refine WO.fr ?_))
        refine round_ret hg (by repeat (first | with_reducible exact Turn.here | with_reducible apply Turn.more | with_reducible apply Turn.next)) (fun w6 hg => ?_)
        exact ⟨_, hg, .inr ⟨rfl, pre, x, rfl, by simp; omega, by simp⟩⟩
      · refine Yields.of hg (by repeat (first | with_reducible exact Turn.here | with_reducible apply Turn.more | with_reducible apply Turn.next)) rfl (by simp only [setL, List.set_cons_succ, List.set_cons_zero]; exact rfl) (fun X => ?_)
        repeat' (first | refine zN ?_ | (refine WC.quietG hg ?_; clear hg) | ((with_reducible refine WQ.nilG ?_); intro w hg) | (refine zB ?_; clear hg; intro b w hg; refine WO.fr ?_) | (refine zW ?_; clear hg; intro w hg; refine WO.fr ?_) | (refine op_pureB hg ?_; clear hg; intro w hg c hc; cases c <;> refine WO.fr ?_))
        refine round_body hg (by repeat (first | with_reducible exact Turn.here | with_reducible apply Turn.more | with_reducible apply Turn.next)) ?_
        clear hg
        intro w5 hg
        repeat' (first | refine zN ?_ | (refine WC.quietG hg ?_; clear hg) | ((with_reducible refine WQ.nilG ?_); intro w hg) | (refine zB ?_; clear hg; intro b w hg; refine WO.fr ?_) | (refine zW ?_; clear hg; intro w hg; refine WO.fr ?_) | (refine op_pureB hg ?_; clear hg; intro w hg c hc; cases c <;> refine WO.fr ?_))
        refine round_end hg (by repeat (first | with_reducible exact Turn.here | with_reducible apply Turn.more | with_reducible apply Turn.next)) (fun w6 hg => ?_)
        exact ⟨_, hg, .inl ⟨rfl, by simp; omega, by simp⟩⟩
    · subst hrc
      rintro e w4 ⟨⟨v, rfl⟩, h', hg2, ⟨hl, rfl⟩ | ⟨pre, hpre, q, x, rfl, hl, rfl⟩⟩
      · replace hg := hg.call1 hg2
        simp only [List.cons_append, List.nil_append] at hg
        refine ⟨⟨_, rfl⟩, range_norm hg (by repeat (first | with_reducible exact Turn.here | with_reducible apply Turn.more | with_reducible apply Turn.next)) (fun w5 hg => ?_)⟩
        clear hg2
        repeat' (first | refine zN ?_ | (refine WC.quietG hg ?_; clear hg) | ((with_reducible refine WQ.nilG ?_); intro w hg) | (refine zB ?_; clear hg; intro b w hg; refine WO.fr ?_) | (refine zW ?_; clear hg; intro w hg; refine WO.fr ?_) | (refine op_pureB hg ?_; clear hg; intro w hg c hc; cases c <;> refine WO.fr ?_))
        refine retM (LV.mark hg (by repeat (first | with_reducible exact Turn.here | with_reducible apply Turn.more | with_reducible apply Turn.next)) (fun w hg => LV.nil (.cell inferInstance rfl (by first | with_reducible assumption | ((with_reducible apply CellAt.cell (hg := hg)); (repeat (first | ((with_reducible apply CellAt.here); (first | exact rfl | with_reducible assumption)) | with_reducible apply CellAt.more | with_reducible apply CellAt.next)); done) | ((with_reducible apply hg.cellOld0); with_reducible assumption) | with_reducible exact c1 hg | with_reducible exact c2 hg | with_reducible exact c3 hg | with_reducible exact c4 hg | with_reducible exact c5 hg | with_reducible exact c6 hg | with_reducible exact c7 hg | with_reducible exact c8 hg | with_reducible exact c9 hg | with_reducible exact s1 hs | with_reducible exact s2 hs | with_reducible exact s3 hs | with_reducible exact s4 hs | with_reducible exact s5 hs | with_reducible exact s6 hs | with_reducible exact s7 hs | with_reducible exact s8 hs | with_reducible exact s9 hs) (.cell inferInstance rfl (by first | with_reducible assumption | ((with_reducible apply CellAt.cell (hg := hg)); (repeat (first | ((with_reducible apply CellAt.here); (first | exact rfl | with_reducible assumption)) | with_reducible apply CellAt.more | with_reducible apply CellAt.next)); done) | ((with_reducible apply hg.cellOld0); with_reducible assumption) | with_reducible exact c1 hg | with_reducible exact c2 hg | with_reducible exact c3 hg | with_reducible exact c4 hg | with_reducible exact c5 hg | with_reducible exact c6 hg | with_reducible exact c7 hg | with_reducible exact c8 hg | with_reducible exact c9 hg | with_reducible exact s1 hs | with_reducible exact s2 hs | with_reducible exact s3 hs | with_reducible exact s4 hs | with_reducible exact s5 hs | with_reducible exact s6 hs | with_reducible exact s7 hs | with_reducible exact s8 hs | with_reducible exact s9 hs) .nil)) ⟨?_, hg.drop⟩))
        have he : (endsL c (its.drop i) i false false)[n.toNat - 1]? = none := List.getElem?_eq_none (by omega)
        simp only [mkRes, dueA, h1, if_false, hi, Int.toNat_natCast, he]
      · replace hg := hg.call1 hg2
        simp only [List.cons_append, List.nil_append] at hg
        refine ⟨⟨_, rfl⟩, range_done hg (by repeat (first | with_reducible exact Turn.here | with_reducible apply Turn.more | with_reducible apply Turn.next)) (fun w5 hg => ?_)⟩
        clear hg2
        repeat' (first | refine zN ?_ | (refine WC.quietG hg ?_; clear hg) | ((with_reducible refine WQ.nilG ?_); intro w hg) | (refine zB ?_; clear hg; intro b w hg; refine WO.fr ?_) | (refine zW ?_; clear hg; intro w hg; refine WO.fr ?_) | (refine op_pureB hg ?_; clear hg; intro w hg c hc; cases c <;> refine WO.fr ?_))
        refine retM (LV.mark hg (by repeat (first | with_reducible exact Turn.here | with_reducible apply Turn.more | with_reducible apply Turn.next)) (fun w hg => LV.nil (.cell inferInstance rfl (by first | with_reducible assumption | ((with_reducible apply CellAt.cell (hg := hg)); (repeat (first | ((with_reducible apply CellAt.here); (first | exact rfl | with_reducible assumption)) | with_reducible apply CellAt.more | with_reducible apply CellAt.next)); done) | ((with_reducible apply hg.cellOld0); with_reducible assumption) | with_reducible exact c1 hg | with_reducible exact c2 hg | with_reducible exact c3 hg | with_reducible exact c4 hg | with_reducible exact c5 hg | with_reducible exact c6 hg | with_reducible exact c7 hg | with_reducible exact c8 hg | with_reducible exact c9 hg | with_reducible exact s1 hs | with_reducible exact s2 hs | with_reducible exact s3 hs | with_reducible exact s4 hs | with_reducible exact s5 hs | with_reducible exact s6 hs | with_reducible exact s7 hs | with_reducible exact s8 hs | with_reducible exact s9 hs) (.cell inferInstance rfl (by first | with_reducible assumption | ((with_reducible apply CellAt.cell (hg := hg)); (repeat (first | ((with_reducible apply CellAt.here); (first | exact rfl | with_reducible assumption)) | with_reducible apply CellAt.more | with_reducible apply CellAt.next)); done) | ((with_reducible apply hg.cellOld0); with_reducible assumption) | with_reducible exact c1 hg | with_reducible exact c2 hg | with_reducible exact c3 hg | with_reducible exact c4 hg | with_reducible exact c5 hg | with_reducible exact c6 hg | with_reducible exact c7 hg | with_reducible exact c8 hg | with_reducible exact c9 hg | with_reducible exact s1 hs | with_reducible exact s2 hs | with_reducible exact s3 hs | with_reducible exact s4 hs | with_reducible exact s5 hs | with_reducible exact s6 hs | with_reducible exact s7 hs | with_reducible exact s8 hs | with_reducible exact s9 hs) .nil)) ⟨?_, hg.drop⟩))
        have he : (endsL c (its.drop i) i false false)[n.toNat - 1]? = some x := by
          obtain ⟨r, hr⟩ := hpre
          simp at hl
          rw [← hr, List.append_assoc, List.getElem?_append_right (by omega), show n.toNat - 1 - q.length = 0 from by omega]
          simp
        simp only [mkRes, dueA, h1, if_false, hi, Int.toNat_natCast, he]
end Go.Proofs.YtkdidefghbeabaaGreat
namespace Go.Proofs.YtkdidefghbeabaaGreat
open Go Go.RowKit
set_option maxRecDepth 10000
set_option linter.unusedSimpArgs false
set_option linter.unusedVariables false

def fV (p : Prm) : Int := (p.retries + 1) * (p.ahead + 2) + (p.tickets + 1) * (p.ahead * sqV p + p.ahead + 4) + 1
set_option maxHeartbeats 4000000 in
theorem F_spec (p : Prm) (w0 : World) (hp : p.right = true) : Calls Tryz.prog 21 #[.agg p.enc.toArray] w0 fun e w' => e = .returned (.int .i64 (fV p)) ∧ Goes w0 [] [] w' := by
  have hg := Goes.refl w0
  have hbd := right_iff.1 hp
  have p1 : ∀ {w Fs}, Goes w0 [] Fs w → Calls Tryz.prog 29 #[.agg p.enc.toArray] w _ := fun _ => wRight_spec _ p
  rw [hp] at p1
  have p2 : ∀ {w Fs}, Goes w0 [] Fs w → Calls Tryz.prog 30 #[.agg p.enc.toArray] w _ := fun _ => square_spec _ hbd.1
  have h1 : 0 ≤ sqV p ∧ sqV p ≤ 4097 * 4097 := mul_bd (a := p.bytes + 1) (b := p.bytes + 1) (A := 4097) (B := 4097) (by omega) (by omega)
  have h2 := mul_bd (a := p.ahead) (b := sqV p) (A := 16) (by omega) h1
  have h3 := mul_bd (a := p.tickets + 1) (b := p.ahead * sqV p + p.ahead + 4) (A := 65) (B := 16 * (4097 * 4097) + 20) (by omega) (by omega)
  have h4 := mul_bd (a := p.retries + 1) (b := p.ahead + 2) (A := 17) (B := 18) (by omega) (by omega)
  unfold fV
  generalize sqV p = sq at h1 h2 h3 p2 ⊢
  simp only [Prm.enc] at p1 p2 ⊢
  refine enter Tryz.func21 rfl (by simp only [Tryz.ntmps21, List.length_cons, List.length_nil, Nat.reduceAdd, Nat.reduceSub, List.replicate_succ, List.replicate_zero, List.cons_append, List.nil_append]; exact rfl) ?_
  repeat' (first | refine zN ?_ | (refine WC.quietG hg ?_; clear hg) | ((with_reducible refine WQ.nilG ?_); intro w hg) | (refine zB ?_; clear hg; intro b w hg; refine WO.fr ?_) | (refine zW ?_; clear hg; intro w hg; refine WO.fr ?_) | (refine op_pureB hg ?_; clear hg; intro w hg c hc; cases c <;> refine WO.fr ?_))
  exact ret1 rfl ⟨rfl, hg.drop⟩
def itemOf (kind client : Int) : Item := ⟨kind, client, 0, 0, ByteArray.empty⟩
theorem pick_spec (k c : Int) (w : World) : Calls Tryz.prog 18 #[.int .i64 k, .int .i64 c] w fun e w' => e = .returned (.agg (itemOf k c).enc.toArray) ∧ Goes w [] [] w' := by
  have hg := Goes.refl w
  refine enter Tryz.func18 rfl (by simp only [Tryz.ntmps18, List.length_cons, List.length_nil, Nat.reduceAdd, Nat.reduceSub, List.replicate_succ, List.replicate_zero, List.cons_append, List.nil_append]; exact rfl) ?_
  repeat' (first | refine zN ?_ | (refine WC.quietG hg ?_; clear hg) | ((with_reducible refine WQ.nilG ?_); intro w hg) | (refine zB ?_; clear hg; intro b w hg; refine WO.fr ?_) | (refine zW ?_; clear hg; intro w hg; refine WO.fr ?_) | (refine op_pureB hg ?_; clear hg; intro w hg c hc; cases c <;> refine WO.fr ?_))
  exact ret (.cells rfl (by first | with_reducible assumption | ((with_reducible apply Cells.ldn); (first | with_reducible assumption | ((with_reducible apply hg.cells0); with_reducible assumption) | with_reducible exact r1 hg | with_reducible exact r2 hg | with_reducible exact r3 hg | with_reducible exact r4 hg | with_reducible exact r5 hg | with_reducible exact t1 hs | with_reducible exact t2 hs | with_reducible exact t3 hs | with_reducible exact t4 hs); exact rfl) | ((with_reducible apply CellsAt.ldn (hg := hg)); (repeat (first | ((with_reducible apply CellsAt.whole); exact rfl) | ((with_reducible apply CellsAt.here) <;> first | with_reducible assumption | (simp only [List.drop_zero, List.drop_succ_cons, List.take_succ_cons, List.take_zero]; exact rfl) | exact rfl) | with_reducible apply CellsAt.more | with_reducible apply CellsAt.next)); done)) .nil) ⟨rfl, hg.drop⟩
def smallP (n : Int) : Prm := ⟨n, 2, 2, 3, 2, 2, 2⟩
theorem Small_spec (n : Int) (w : World) : Calls Tryz.prog 22 #[.int .i64 n] w fun e w' => e = .returned (.agg (smallP n).enc.toArray) ∧ Goes w [] [] w' := by
  have hg := Goes.refl w
  refine enter Tryz.func22 rfl (by simp only [Tryz.ntmps22, List.length_cons, List.length_nil, Nat.reduceAdd, Nat.reduceSub, List.replicate_succ, List.replicate_zero, List.cons_append, List.nil_append]; exact rfl) ?_
  repeat' (first | refine zN ?_ | (refine WC.quietG hg ?_; clear hg) | ((with_reducible refine WQ.nilG ?_); intro w hg) | (refine zB ?_; clear hg; intro b w hg; refine WO.fr ?_) | (refine zW ?_; clear hg; intro w hg; refine WO.fr ?_) | (refine op_pureB hg ?_; clear hg; intro w hg c hc; cases c <;> refine WO.fr ?_))
  exact ret (.cells rfl (by first | with_reducible assumption | ((with_reducible apply Cells.ldn); (first | with_reducible assumption | ((with_reducible apply hg.cells0); with_reducible assumption) | with_reducible exact r1 hg | with_reducible exact r2 hg | with_reducible exact r3 hg | with_reducible exact r4 hg | with_reducible exact r5 hg | with_reducible exact t1 hs | with_reducible exact t2 hs | with_reducible exact t3 hs | with_reducible exact t4 hs); exact rfl) | ((with_reducible apply CellsAt.ldn (hg := hg)); (repeat (first | ((with_reducible apply CellsAt.whole); exact rfl) | ((with_reducible apply CellsAt.here) <;> first | with_reducible assumption | (simp only [List.drop_zero, List.drop_succ_cons, List.take_succ_cons, List.take_zero]; exact rfl) | exact rfl) | with_reducible apply CellsAt.more | with_reducible apply CellsAt.next)); done)) .nil) ⟨rfl, hg.drop⟩
def itsA : List Item := [itemOf 3 0, itemOf 2 1, itemOf 2 1, itemOf 3 0, itemOf 4 0, itemOf 2 1]

theorem due1 : dueA 1 itsA 0 1 = (2, true) := by decide
theorem due2 : dueA 1 itsA 0 2 = (4, true) := by decide
theorem rounds1 : (endsL 1 itsA 0 false false).length = 2 := by decide

set_option maxHeartbeats 4000000 in
theorem alive_spec (wS : World) : Calls Tryz.prog 7 #[] wS fun e w' => e = .returned (.bool true) ∧ Goes wS [] [] w' := by
  have hg := Goes.refl wS
  have p1 : ∀ {w Fs}, Goes wS [] Fs w → Calls Tryz.prog 18 #[.int .i64 3, .int .i64 0] w _ := fun _ => pick_spec _ _ _
  have p2 : ∀ {w Fs}, Goes wS [] Fs w → Calls Tryz.prog 18 #[.int .i64 2, .int .i64 1] w _ := fun _ => pick_spec _ _ _
  have p3 : ∀ {w Fs}, Goes wS [] Fs w → Calls Tryz.prog 18 #[.int .i64 4, .int .i64 0] w _ := fun _ => pick_spec _ _ _
  have p4 : ∀ {w Fs}, Goes wS [] Fs w → Calls Tryz.prog 22 #[.int .i64 1] w _ := fun _ => Small_spec _ _
  have p5 : ∀ {w Fs}, Goes wS [] Fs w → Calls Tryz.prog 21 #[.agg (smallP 1).enc.toArray] w _ := fun _ => F_spec (smallP 1) _ (by decide)
  have hf73 : fV (smallP 1) = 73 := by decide
  rw [hf73] at p5
  refine enter Tryz.func7 rfl (by simp only [Tryz.ntmps7, List.length_cons, List.length_nil, Nat.reduceAdd, Nat.reduceSub, List.replicate_succ, List.replicate_zero, List.cons_append, List.nil_append]; exact rfl) ?_
  repeat' (first | refine zN ?_ | (refine WC.quietG hg ?_; clear hg) | ((with_reducible refine WQ.nilG ?_); intro w hg) | (refine zB ?_; clear hg; intro b w hg; refine WO.fr ?_) | (refine zW ?_; clear hg; intro w hg; refine WO.fr ?_) | (refine op_pureB hg ?_; clear hg; intro w hg c hc; cases c <;> refine WO.fr ?_))
  refine op_buildRows (rows := itsA.map Item.enc) (by simp only [itsA, List.map_cons, List.map_nil, rowParts, ev, gt]) rfl (by intro r hr; obtain ⟨x, _, rfl⟩ := List.mem_map.1 hr; rfl) rfl rfl (by decide) hg ?_
  clear hg
  intro b w hg
  refine WO.fr ?_
  have hsl : ∀ {w Fs}, Goes wS [] ([(b, .cells (itsA.map Item.enc).flatten.toArray 57 (0, 0))] :: Fs) w → Sl w (some ⟨b, 0, none⟩) 6 5 (itsA.map Item.enc) :=
    fun h => Has.sl .here h (by intro r hr; obtain ⟨x, _, rfl⟩ := List.mem_map.1 hr; rfl) (by decide) (by decide)
  repeat' (first | refine zN ?_ | (refine WC.quietG hg ?_; clear hg) | ((with_reducible refine WQ.nilG ?_); intro w hg) | (refine zB ?_; clear hg; intro b w hg; refine WO.fr ?_) | (refine zW ?_; clear hg; intro w hg; refine WO.fr ?_) | (refine op_pureB hg ?_; clear hg; intro w hg c hc; cases c <;> refine WO.fr ?_))
  refine op_pure hg ?_ (hc := (Due_spec _ _ _ itsA 1 0 1 (hsl hg) (by omega)))
  clear hg
  intro w hg
  rw [due1]
  dsimp only
  refine WO.fr ?_
  repeat' (first | refine zN ?_ | (refine WC.quietG hg ?_; clear hg) | ((with_reducible refine WQ.nilG ?_); intro w hg) | (refine zB ?_; clear hg; intro b w hg; refine WO.fr ?_) | (refine zW ?_; clear hg; intro w hg; refine WO.fr ?_) | (refine op_pureB hg ?_; clear hg; intro w hg c hc; cases c <;> refine WO.fr ?_))
  refine op_pure hg ?_ (hc := (Due_spec _ _ _ itsA 1 0 2 (hsl hg) (by omega)))
  clear hg
  intro w hg
  rw [due2]
  dsimp only
  refine WO.fr ?_
  repeat' (first | refine zN ?_ | (refine WC.quietG hg ?_; clear hg) | ((with_reducible refine WQ.nilG ?_); intro w hg) | (refine zB ?_; clear hg; intro b w hg; refine WO.fr ?_) | (refine zW ?_; clear hg; intro w hg; refine WO.fr ?_) | (refine op_pureB hg ?_; clear hg; intro w hg c hc; cases c <;> refine WO.fr ?_))
  refine op_pure hg ?_ (hc := (Rounds_spec _ _ _ itsA 1 (hsl hg)))
  clear hg
  intro w hg
  rw [rounds1]
  refine WO.fr ?_
  repeat' (first | refine zN ?_ | (refine WC.quietG hg ?_; clear hg) | ((with_reducible refine WQ.nilG ?_); intro w hg) | (refine zB ?_; clear hg; intro b w hg; refine WO.fr ?_) | (refine zW ?_; clear hg; intro w hg; refine WO.fr ?_) | (refine op_pureB hg ?_; clear hg; intro w hg c hc; cases c <;> refine WO.fr ?_))
  exact ret1 rfl ⟨rfl, hg.drop⟩
end Go.Proofs.YtkdidefghbeabaaGreat
namespace Go.Proofs.YtkdidefghbeabaaGreat
open Go Go.RowKit
set_option maxRecDepth 10000
set_option linter.unusedSimpArgs false
set_option linter.unusedVariables false

section
variable {P : Program} {l : List Value} {w : World} {ty : TypeId}
theorem x_rem8 {t t' : TypeId} {x y : Operand} {a b : Int} {ki : IntKind} [Und P t (.int ki)] (hx : ev l x = .int .u8 a := by first | (simp only [ev, gt, put, List.set_cons_succ, List.set_cons_zero, Nat.zero_add, Nat.add_zero, Nat.mul_one, Nat.reduceAdd, Nat.reduceMul, Int.toNat_natCast, Int.reduceToNat, List.map_cons, List.map_nil, List.cons_append, List.nil_append]; exact rfl) | simp only [ev, gt, put, List.set_cons_succ, List.set_cons_zero, Nat.zero_add, Nat.add_zero, Nat.mul_one, Nat.reduceAdd, Nat.reduceMul, Int.toNat_natCast, Int.reduceToNat, List.map_cons, List.map_nil, List.cons_append, List.nil_append]) (hy : ev l y = .int .u8 b := by first | (simp only [ev, gt, put, List.set_cons_succ, List.set_cons_zero, Nat.zero_add, Nat.add_zero, Nat.mul_one, Nat.reduceAdd, Nat.reduceMul, Int.toNat_natCast, Int.reduceToNat, List.map_cons, List.map_nil, List.cons_append, List.nil_append]; exact rfl) | simp only [ev, gt, put, List.set_cons_succ, List.set_cons_zero, Nat.zero_add, Nat.add_zero, Nat.mul_one, Nat.reduceAdd, Nat.reduceMul, Int.toNat_natCast, Int.reduceToNat, List.map_cons, List.map_nil, List.cons_append, List.nil_append]) (ha : 0 ≤ a := by omega) (hb : 0 < b := by omega) :
    Runs P l (.binOp .rem t x y t') ty w (.int .u8 (a % b)) := by
  refine ⟨by simp, fun d dst pos af => ?_⟩
  have e : a.tmod b = a % b := Int.tmod_eq_emod_of_nonneg ha
  simp [execOp, eqGuard, St_eval, hx, hy, binOp, Op.intDiv, Int.ne_of_gt hb, e]
end
def encH (x : Int) : List Value := [.int .u8 x]
def HidAt (w : World) (v : Value) (l : List Int) : Prop := ∃ a cap, v = .slice a l.length cap ∧ Sl w a cap 1 (l.map encH) ∧ ∀ x ∈ l, 0 ≤ x
theorem HidAt.slice {w : World} {v : Value} {l : List Int} (h : HidAt w v l) : ∃ a cap, v = .slice a l.length cap ∧ l.length ≤ 140737488351232 := by
  obtain ⟨a, cap, rfl, hS, _⟩ := h
  have := hS.lim
  exact ⟨a, cap, rfl, by simpa using this⟩
theorem HidAt.get {w : World} {v : Value} {l : List Int} (h : HidAt w v l) {i : Nat} (hi : i < l.length) : ∃ b k cap, v = .slice (some ⟨b, k, none⟩) l.length cap ∧ w.cell? ⟨b, k + i, none⟩ = some (.int .u8 (l.getD i 0)) ∧ 0 ≤ l.getD i 0 := by
  obtain ⟨a, cap, rfl, hS, hx⟩ := h
  obtain ⟨b, k, rfl, _, hc⟩ := hS.at (i := i) (r := encH l[i]) (by simp [hi])
  have := hc 0 _ rfl
  rw [add_lit] at this
  have e : l.getD i 0 = l[i] := by rw [List.getD_eq_getElem?_getD, List.getElem?_eq_getElem hi]; rfl
  rw [e]
  exact ⟨b, k, cap, rfl, by simpa using this, hx _ (List.getElem_mem hi)⟩
theorem steps_le {p : Prm} (hp : p.right = true) (k : Int) : 1 ≤ stepsV p k ∧ stepsV p k ≤ 300000000 := by
  have hbd := right_iff.1 hp
  have h1 : 0 ≤ sqV p ∧ sqV p ≤ 4097 * 4097 := mul_bd (a := p.bytes + 1) (b := p.bytes + 1) (A := 4097) (B := 4097) (by omega) (by omega)
  have h2 := mul_bd (a := p.ahead) (b := sqV p) (A := 16) (by omega) h1
  unfold stepsV
  repeat' split
  all_goals omega
/-- What Begin gives. -/
def job0 (k n : Int) (dat : List UInt8) : JB := ⟨k, n, dat, 0, false, 0, 0, if k = 3 then n else 1, none, stepF k⟩
theorem stepF_peek {k : Int} (h : stepF k = 50) : k = 3 := by
  unfold stepF at h
  repeat' split at h
  all_goals first | assumption | exact absurd h (by decide)
theorem stepF_take {k : Int} (h : stepF k = 51) : k = 4 := by
  unfold stepF at h
  repeat' split at h
  all_goals first | assumption | exact absurd h (by decide)
theorem stepF_feed {k : Int} (h : stepF k = 48) : k = 1 := by
  unfold stepF at h
  repeat' split at h
  all_goals first | assumption | exact absurd h (by decide)
theorem job0_ok (p : Prm) (k n : Int) (dat : List UInt8) : JOK p (job0 k n dat) := by
  refine ⟨fun h h1 h2 => ?_, fun h => ?_⟩
  · have := stepF_peek h
    subst this
    exact ⟨h1, h2⟩
  · have := stepF_take h
    subst this
    rfl
theorem sq_le {p : Prm} {B : Nat} (hB : p.bytes = B) : ((B + B * B + 1 : Nat) : Int) ≤ sqV p := by
  unfold sqV
  rw [hB, show ((B : Int) + 1) * (B + 1) = (B * B : Nat) + B + B + 1 from by rw [Int.add_mul, Int.mul_add]; push_cast; omega]
  omega
theorem pot0 {p : Prm} {B : Nat} {s : WS} (hp : p.right = true) (hB : p.bytes = B) (hW : WOK p.bytes s) (k n : Int) (dat : List UInt8) : (pot p B s (job0 k n dat) none : Int) + 1 ≤ stepsV p k := by
  have hbd := right_iff.1 hp
  have h1 := hW.h1
  have h2 := hW.h2
  have h3 := hW.h3
  have hsq := sq_le hB
  unfold pot
  split
  · rename_i hf
    have := stepF_feed hf
    subst this
    simp only [stepsV, if_true]
    omega
  split
  · rename_i hf
    rcases hf with hf | ⟨hf, hn1, hn2⟩
    · have := stepF_take hf
      subst this
      have e4 : stepsV p 4 = sqV p + 2 := rfl
      have e5 : potL B s.all.length (job0 4 n dat).left none = (1 - 1) * (B + B * B + 1) + (B + B * B) := rfl
      rw [e4, e5]
      omega
    · have := stepF_peek hf
      subst this
      simp only [job0] at hn1 hn2
      have e4 : stepsV p 3 = p.ahead * sqV p + p.ahead + 1 := rfl
      have e5 : potL B s.all.length (job0 3 n dat).left none = (n.toNat - 1) * (B + B * B + 1) + (B + B * B) := rfl
      rw [e4, e5]
      obtain ⟨m, rfl⟩ : ∃ m : Nat, n = m + 1 := ⟨(n - 1).toNat, by omega⟩
      rw [show ((m : Int) + 1).toNat - 1 = m from by omega]
      have h5 : ((m : Int) + 1) * ((B + B * B + 1 : Nat) : Int) ≤ p.ahead * sqV p := Int.mul_le_mul hn2 hsq (by omega) (by omega)
      have h6 : ((m * (B + B * B + 1) + (B + B * B) : Nat) : Int) + 1 = ((m : Int) + 1) * ((B + B * B + 1 : Nat) : Int) := by
        rw [Int.add_mul, Int.one_mul]
        push_cast
        omega
      omega
  · have := (steps_le hp k).1
    omega
end Go.Proofs.YtkdidefghbeabaaGreat
